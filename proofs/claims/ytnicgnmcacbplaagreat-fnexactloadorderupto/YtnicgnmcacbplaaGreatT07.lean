import Derived.Test.YtnicgnmcacbplaaGreatT06
import Derived.Test.YtnicgnmcacbplaaGreatT05
import Derived.Test.YtnicgnmcacbplaaGreatT03
import Derived.Test.YtnicgnmcacbplaaGreatT04
import Derived.Shelf.Small.Strs
import Derived.Test.YtnicgnmcacbplaaGreatProg
import Derived.KernelRfl
open Nat renaming reduceAdd → qa, reduceSub → qb, reduceMul → qc, reduceEqDiff → qd, reduceLeDiff → qe, reduceBEq → qf
set_option autoImplicit false
set_option maxHeartbeats 16000000
set_option maxRecDepth 100000
set_option linter.unusedSimpArgs false
set_option linter.unusedVariables false
namespace Go.Vm
theorem quz(s:Str) (t:Tm):cw qg QE [S s,.o 4 [.a [I t.kind,S t.name,I t.num,.o 4 (t.kids.map oT)]]]=
 some (.a [I 4,S s,I 0,.o 4 [.a [I t.kind,S t.name,I t.num,.o 4 (t.kids.map oT)]]],[S s,.d]):=by
 have:=qgj s [t]
 rw [jd]at this
 simp only [List.map_cons,List.map_nil,qp t]at this
 exact this
theorem qsw(l:List Sg) (τ:Bool) (hg:GoodL l) (i:Nat) (hi:i≤l.length) (nm:List Str) (d:Nat) (most:Int) (hk:(sgD l i).kind=3):
 cw qg xm [.b (.a [.i τ (l.map Sg.v),I i,.o 1 (List.map S nm),I (d),B false]),I most]=some (.t [oT (.mk 3 [] (sgD l i).num []),I 0],[.b (.a [.i τ (l.map Sg.v),I ((i+1:Nat):Int),.o 1 (List.map S nm),I (d),B false]),I most]):=by
 have hlen:=hg.len
 have sg:=zF l τ hlen i 0 (by omega) (by decide) (.i true (nm.map S)) d false
 simp only [Nat.add_zero,Int.natCast_zero]at sg
 rw [Sg.v]at sg
 have sg1:=zF l τ hlen i 1 (by omega) (by decide) (.i true (nm.map S)) d false
 rw [Sg.v]at sg1
 simp only [Int.natCast_one]at sg1
 have m40:=qZ l τ hlen i 0 (by omega) (by decide) (.i true (nm.map S)) d false [40]
 have m91:=qZ l τ hlen i 0 (by omega) (by decide) (.i true (nm.map S)) d false [91]
 have m41:=qZ l τ hlen i 2 (by omega) (by decide) (.i true (nm.map S)) d false [41]
 simp only [Nat.add_zero,Int.natCast_zero]at m40 m91
 have two:((2:Nat):Int)=2:=rfl
 rw [two]at m41
 have inf:=ke (sgD l i).text
 have pre:=k8 (sgD l i).text
 unfold opV at inf
 unfold yw at pre
 have e1:w64 ((i:Int)+1)=((i+1:Nat):Int):=by rw [qj]<;>omega
 have e2:w64 ((i:Int)+2)=((i+2:Nat):Int):=by rw [qj]<;>omega
 have e3:w64 ((i:Int)+3)=((i+3:Nat):Int):=by rw [qj]<;>omega
 have d21:decide ((2:Int)=1)=false:=rfl
 have d31:decide ((3:Int)=1)=false:=rfl
 have d41:decide ((4:Int)=1)=false:=rfl
 have d23:decide ((2:Int)=3)=false:=rfl
 have d13:decide ((1:Int)=3)=false:=rfl
 have d12:decide ((1:Int)=2)=false:=rfl
 have n40:isM l i [40]=false:=by unfold isM;rw [hk];rfl
 have n91:isM l i [91]=false:=by unfold isM;rw [hk];rfl
 rw [n40]at m40
 rw [n91]at m91
 rw [hk]at sg
 have nk:=qil (sgD l i).num
 rw [qK]at nk
 rw [qI kI rfl,qK]
 simp only [go_sem,qa,qb,qc,qd,qe,qf,reduceCtorEq,zN,qt,sg,sg1,inf,pre,e1,e2,e3,d21,d31,d41,d23,d13,d12,Bool.false_or,Bool.not_true,m40,m91,nk]
theorem qsy(l:List Sg) (τ:Bool) (hg:GoodL l) (i:Nat) (hi:i≤l.length) (nm:List Str) (d:Nat) (most:Int) (hk:(sgD l i).kind=2) (hn:nm.length≤2^30):
 cw qg xm [.b (.a [.i τ (l.map Sg.v),I i,.o 1 (List.map S nm),I (d),B false]),I most]=some (.t [oT (xX nm (sgD l i).text).1,I 0],[.b (.a [.i τ (l.map Sg.v),I ((i+1:Nat):Int),.o 1 (List.map S ((xX nm (sgD l i).text).2)),I (d),B false]),I most]):=by
 have hlen:=hg.len
 have sg:=zF l τ hlen i 0 (by omega) (by decide) (.i true (nm.map S)) d false
 simp only [Nat.add_zero,Int.natCast_zero]at sg
 rw [Sg.v]at sg
 have sg1:=zF l τ hlen i 1 (by omega) (by decide) (.i true (nm.map S)) d false
 rw [Sg.v]at sg1
 simp only [Int.natCast_one]at sg1
 have m40:=qZ l τ hlen i 0 (by omega) (by decide) (.i true (nm.map S)) d false [40]
 have m91:=qZ l τ hlen i 0 (by omega) (by decide) (.i true (nm.map S)) d false [91]
 have m41:=qZ l τ hlen i 2 (by omega) (by decide) (.i true (nm.map S)) d false [41]
 simp only [Nat.add_zero,Int.natCast_zero]at m40 m91
 have two:((2:Nat):Int)=2:=rfl
 rw [two]at m41
 have inf:=ke (sgD l i).text
 have pre:=k8 (sgD l i).text
 unfold opV at inf
 unfold yw at pre
 have e1:w64 ((i:Int)+1)=((i+1:Nat):Int):=by rw [qj]<;>omega
 have e2:w64 ((i:Int)+2)=((i+2:Nat):Int):=by rw [qj]<;>omega
 have e3:w64 ((i:Int)+3)=((i+3:Nat):Int):=by rw [qj]<;>omega
 have d21:decide ((2:Int)=1)=false:=rfl
 have d31:decide ((3:Int)=1)=false:=rfl
 have d41:decide ((4:Int)=1)=false:=rfl
 have d23:decide ((2:Int)=3)=false:=rfl
 have d13:decide ((1:Int)=3)=false:=rfl
 have d12:decide ((1:Int)=2)=false:=rfl
 have n40:isM l i [40]=false:=by unfold isM;rw [hk];rfl
 have n91:isM l i [91]=false:=by unfold isM;rw [hk];rfl
 rw [n40]at m40
 rw [n91]at m91
 rw [hk]at sg
 have nk:=qnp l τ ((i+1:Nat):Int) nm hn d false (sgD l i).text
 rw [qp]at nk
 have tk: ∀ x:Tm,(x.kids.map oT).take x.kids.length=x.kids.map oT:=fun x=>List.take_of_length_le (by simp)
 rw [qI kI rfl,qp]
 simp only [go_sem,qa,qb,qc,qd,qe,qf,reduceCtorEq,zN,qt,sg,sg1,inf,pre,e1,e2,e3,d21,d31,d41,d23,d13,d12,Bool.false_or,Bool.not_true,m40,m91,nk,tk]
theorem qsr(l:List Sg) (τ:Bool) (hg:GoodL l) (i:Nat) (hi:i≤l.length) (nm:List Str) (d:Nat) (most:Int) (h40:isM l i [40]=true) (hk1:(sgD l (i+1)).kind=1) (h41:isM l (i+2) [41]=true):
 cw qg xm [.b (.a [.i τ (l.map Sg.v),I i,.o 1 (List.map S nm),I (d),B false]),I most]=some (.t [oT (.mk 2 (sgD l (i+1)).text 0 []),I 0],[.b (.a [.i τ (l.map Sg.v),I ((i+3:Nat):Int),.o 1 (List.map S nm),I (d),B false]),I most]):=by
 have hlen:=hg.len
 have sg:=zF l τ hlen i 0 (by omega) (by decide) (.i true (nm.map S)) d false
 simp only [Nat.add_zero,Int.natCast_zero]at sg
 rw [Sg.v]at sg
 have sg1:=zF l τ hlen i 1 (by omega) (by decide) (.i true (nm.map S)) d false
 rw [Sg.v]at sg1
 simp only [Int.natCast_one]at sg1
 have m40:=qZ l τ hlen i 0 (by omega) (by decide) (.i true (nm.map S)) d false [40]
 have m91:=qZ l τ hlen i 0 (by omega) (by decide) (.i true (nm.map S)) d false [91]
 have m41:=qZ l τ hlen i 2 (by omega) (by decide) (.i true (nm.map S)) d false [41]
 simp only [Nat.add_zero,Int.natCast_zero]at m40 m91
 have two:((2:Nat):Int)=2:=rfl
 rw [two]at m41
 have inf:=ke (sgD l i).text
 have pre:=k8 (sgD l i).text
 unfold opV at inf
 unfold yw at pre
 have e1:w64 ((i:Int)+1)=((i+1:Nat):Int):=by rw [qj]<;>omega
 have e2:w64 ((i:Int)+2)=((i+2:Nat):Int):=by rw [qj]<;>omega
 have e3:w64 ((i:Int)+3)=((i+3:Nat):Int):=by rw [qj]<;>omega
 have d21:decide ((2:Int)=1)=false:=rfl
 have d31:decide ((3:Int)=1)=false:=rfl
 have d41:decide ((4:Int)=1)=false:=rfl
 have d23:decide ((2:Int)=3)=false:=rfl
 have d13:decide ((1:Int)=3)=false:=rfl
 have d12:decide ((1:Int)=2)=false:=rfl
 have hk:=(zn h40).2.1
 rw [h40]at m40
 rw [h41]at m41
 rw [hk]at sg
 rw [hk1]at sg1
 have nk:=qcl (sgD l (i+1)).text
 rw [qK]at nk
 rw [qI kI rfl,qK]
 simp only [go_sem,qa,qb,qc,qd,qe,qf,reduceCtorEq,zN,qt,sg,sg1,inf,pre,e1,e2,e3,d21,d31,d41,d23,d13,d12,Bool.false_or,Bool.not_true,m40,m41,nk]
theorem qj6(l:List Sg) (τ:Bool) (hg:GoodL l) (i:Nat) (hi:i≤l.length) (nm:List Str) (d:Nat) (most:Int) (hk:(sgD l i).kind=1) (hnr:(sgD l i).near=true) (ks:List Tm) (a1:Nat) (ha1:a1≤2^30) (nm1:List Str) (d1:Int) (b1:Bool)
 (hA:cw qg Zg [.b (.a [.i τ (l.map Sg.v),I ((i+2:Nat):Int),.o 1 (List.map S nm),I (d),B false])]=some (.o 4 (ks.map oT),[.b (.a [.i τ (l.map Sg.v),I a1,.o 1 (List.map S nm1),I (d1),B b1])])):
 cw qg xm [.b (.a [.i τ (l.map Sg.v),I i,.o 1 (List.map S nm),I (d),B false]),I most]=some (.t [oT (.mk 4 (sgD l i).text 0 ks),I 0],[.b (.a [.i τ (l.map Sg.v),I ((a1+1:Nat):Int),.o 1 (List.map S nm1),I (d1),B ((b1|| !isM l a1 [41])||decide (5 < ks.length))]),I most]):=by
 have hlen:=hg.len
 have sg:=zF l τ hlen i 0 (by omega) (by decide) (.i true (nm.map S)) d false
 simp only [Nat.add_zero,Int.natCast_zero]at sg
 rw [Sg.v]at sg
 have sg1:=zF l τ hlen i 1 (by omega) (by decide) (.i true (nm.map S)) d false
 rw [Sg.v]at sg1
 simp only [Int.natCast_one]at sg1
 have m40:=qZ l τ hlen i 0 (by omega) (by decide) (.i true (nm.map S)) d false [40]
 have m91:=qZ l τ hlen i 0 (by omega) (by decide) (.i true (nm.map S)) d false [91]
 have m41:=qZ l τ hlen i 2 (by omega) (by decide) (.i true (nm.map S)) d false [41]
 simp only [Nat.add_zero,Int.natCast_zero]at m40 m91
 have two:((2:Nat):Int)=2:=rfl
 rw [two]at m41
 have inf:=ke (sgD l i).text
 have pre:=k8 (sgD l i).text
 unfold opV at inf
 unfold yw at pre
 have e1:w64 ((i:Int)+1)=((i+1:Nat):Int):=by rw [qj]<;>omega
 have e2:w64 ((i:Int)+2)=((i+2:Nat):Int):=by rw [qj]<;>omega
 have e3:w64 ((i:Int)+3)=((i+3:Nat):Int):=by rw [qj]<;>omega
 have d21:decide ((2:Int)=1)=false:=rfl
 have d31:decide ((3:Int)=1)=false:=rfl
 have d41:decide ((4:Int)=1)=false:=rfl
 have d23:decide ((2:Int)=3)=false:=rfl
 have d13:decide ((1:Int)=3)=false:=rfl
 have d12:decide ((1:Int)=2)=false:=rfl
 have h40:=hg.near i hnr
 rw [hk,hnr]at sg
 have mk1:=YC l τ hlen (i+1) (by omega) nm d false [40]
 rw [h40]at mk1
 have e12:i+1+1=i+2:=rfl
 rw [e12]at mk1
 have mk2:=YC l τ hlen a1 (by omega) nm1 d1 b1 [41]
 have st:=qgj (sgD l i).text ks
 rw [jd]at st
 have tk2:(ks.map oT).take ks.length=ks.map oT:=List.take_of_length_le (by simp)
 by_cases h5:5 < ks.length
 ·have c5:(5:Int) < (ks.length:Int):=by omega
  have d5:decide (5 < ks.length)=true:=decide_eq_true h5
  rw [qI kI rfl,jd,d5,Bool.or_true]
  simp only [go_sem,qa,qb,qc,qd,qe,qf,reduceCtorEq,zN,qt,sg,sg1,inf,pre,e1,e2,e3,d21,d31,d41,d23,d13,d12,Bool.false_or,Bool.not_true,mk1,hA,mk2,st,tk2,c5]
 ·have c5: ¬ (5:Int) < (ks.length:Int):=by omega
  have d5:decide (5 < ks.length)=false:=decide_eq_false h5
  rw [qI kI rfl,jd,d5,Bool.or_false]
  simp only [go_sem,qa,qb,qc,qd,qe,qf,reduceCtorEq,zN,qt,sg,sg1,inf,pre,e1,e2,e3,d21,d31,d41,d23,d13,d12,Bool.false_or,Bool.not_true,mk1,hA,mk2,st,tk2,c5]
theorem qj7(l:List Sg) (τ:Bool) (hg:GoodL l) (i:Nat) (hi:i≤l.length) (nm:List Str) (d:Nat) (most:Int) (h40:isM l i [40]=true) (hn: ¬ ((sgD l (i+1)).kind=1∧isM l (i+2) [41]=true)) (t:Tm) (a1:Nat) (ha1:a1≤2^30) (nm1:List Str) (d1:Int) (b1:Bool)
 (hT:cw qg ye [.b (.a [.i τ (l.map Sg.v),I ((i+1:Nat):Int),.o 1 (List.map S nm),I (d),B false]),I 1200]=some (oT t,[.b (.a [.i τ (l.map Sg.v),I a1,.o 1 (List.map S nm1),I (d1),B b1]),I 1200])):
 cw qg xm [.b (.a [.i τ (l.map Sg.v),I i,.o 1 (List.map S nm),I (d),B false]),I most]=some (.t [oT t,I 0],[.b (.a [.i τ (l.map Sg.v),I ((a1+1:Nat):Int),.o 1 (List.map S nm1),I (d1),B (b1|| !isM l a1 [41])]),I most]):=by
 have hlen:=hg.len
 have sg:=zF l τ hlen i 0 (by omega) (by decide) (.i true (nm.map S)) d false
 simp only [Nat.add_zero,Int.natCast_zero]at sg
 rw [Sg.v]at sg
 have sg1:=zF l τ hlen i 1 (by omega) (by decide) (.i true (nm.map S)) d false
 rw [Sg.v]at sg1
 simp only [Int.natCast_one]at sg1
 have m40:=qZ l τ hlen i 0 (by omega) (by decide) (.i true (nm.map S)) d false [40]
 have m91:=qZ l τ hlen i 0 (by omega) (by decide) (.i true (nm.map S)) d false [91]
 have m41:=qZ l τ hlen i 2 (by omega) (by decide) (.i true (nm.map S)) d false [41]
 simp only [Nat.add_zero,Int.natCast_zero]at m40 m91
 have two:((2:Nat):Int)=2:=rfl
 rw [two]at m41
 have inf:=ke (sgD l i).text
 have pre:=k8 (sgD l i).text
 unfold opV at inf
 unfold yw at pre
 have e1:w64 ((i:Int)+1)=((i+1:Nat):Int):=by rw [qj]<;>omega
 have e2:w64 ((i:Int)+2)=((i+2:Nat):Int):=by rw [qj]<;>omega
 have e3:w64 ((i:Int)+3)=((i+3:Nat):Int):=by rw [qj]<;>omega
 have d21:decide ((2:Int)=1)=false:=rfl
 have d31:decide ((3:Int)=1)=false:=rfl
 have d41:decide ((4:Int)=1)=false:=rfl
 have d23:decide ((2:Int)=3)=false:=rfl
 have d13:decide ((1:Int)=3)=false:=rfl
 have d12:decide ((1:Int)=2)=false:=rfl
 have hk:=(zn h40).2.1
 rw [h40]at m40
 rw [hk]at sg
 have mk2:=YC l τ hlen a1 (by omega) nm1 d1 b1 [41]
 rw [qp t]at hT
 have tk: ∀ x:Tm,(x.kids.map oT).take x.kids.length=x.kids.map oT:=fun x=>List.take_of_length_le (by simp)
 rw [qI kI rfl,qp t]
 by_cases hk1:(sgD l (i+1)).kind=1
 ·have h41:isM l (i+2) [41]=false:=by
   cases h:isM l (i+2) [41]with
   |true=>exact absurd ⟨hk1,h⟩ hn
   |false=>rfl
  rw [h41]at m41
  rw [hk1]at sg1
  simp only [go_sem,qa,qb,qc,qd,qe,qf,reduceCtorEq,zN,qt,sg,sg1,inf,pre,e1,e2,e3,d21,d31,d41,d23,d13,d12,Bool.false_or,Bool.not_true,m40,m41,hT,mk2,tk]
 ·have dk1:decide ((sgD l (i+1)).kind=1)=false:=decide_eq_false hk1
  simp only [go_sem,qa,qb,qc,qd,qe,qf,reduceCtorEq,zN,qt,sg,sg1,inf,pre,e1,e2,e3,d21,d31,d41,d23,d13,d12,Bool.false_or,Bool.not_true,m40,hT,mk2,dk1,tk]
theorem Ko(l:List Sg) (τ:Bool) (hg:GoodL l) (i:Nat) (hi:i≤l.length) (nm:List Str) (d:Nat) (most:Int) (h91:isM l i [91]=true) (t:Tm) (a1:Nat) (nm1:List Str) (d1:Int) (b1:Bool)
 (hT:cw qg XC [.b (.a [.i τ (l.map Sg.v),I i,.o 1 (List.map S nm),I (d),B false])]=some (oT t,[.b (.a [.i τ (l.map Sg.v),I a1,.o 1 (List.map S nm1),I (d1),B b1])])):
 cw qg xm [.b (.a [.i τ (l.map Sg.v),I i,.o 1 (List.map S nm),I (d),B false]),I most]=some (.t [oT t,I 0],[.b (.a [.i τ (l.map Sg.v),I a1,.o 1 (List.map S nm1),I (d1),B b1]),I most]):=by
 have hlen:=hg.len
 have sg:=zF l τ hlen i 0 (by omega) (by decide) (.i true (nm.map S)) d false
 simp only [Nat.add_zero,Int.natCast_zero]at sg
 rw [Sg.v]at sg
 have sg1:=zF l τ hlen i 1 (by omega) (by decide) (.i true (nm.map S)) d false
 rw [Sg.v]at sg1
 simp only [Int.natCast_one]at sg1
 have m40:=qZ l τ hlen i 0 (by omega) (by decide) (.i true (nm.map S)) d false [40]
 have m91:=qZ l τ hlen i 0 (by omega) (by decide) (.i true (nm.map S)) d false [91]
 have m41:=qZ l τ hlen i 2 (by omega) (by decide) (.i true (nm.map S)) d false [41]
 simp only [Nat.add_zero,Int.natCast_zero]at m40 m91
 have two:((2:Nat):Int)=2:=rfl
 rw [two]at m41
 have inf:=ke (sgD l i).text
 have pre:=k8 (sgD l i).text
 unfold opV at inf
 unfold yw at pre
 have e1:w64 ((i:Int)+1)=((i+1:Nat):Int):=by rw [qj]<;>omega
 have e2:w64 ((i:Int)+2)=((i+2:Nat):Int):=by rw [qj]<;>omega
 have e3:w64 ((i:Int)+3)=((i+3:Nat):Int):=by rw [qj]<;>omega
 have d21:decide ((2:Int)=1)=false:=rfl
 have d31:decide ((3:Int)=1)=false:=rfl
 have d41:decide ((4:Int)=1)=false:=rfl
 have d23:decide ((2:Int)=3)=false:=rfl
 have d13:decide ((1:Int)=3)=false:=rfl
 have d12:decide ((1:Int)=2)=false:=rfl
 have hk:=(zn h91).2.1
 have n40:isM l i [40]=false:=by unfold isM;rw [(zn h91).2.2,hk];rfl
 rw [n40]at m40
 rw [h91]at m91
 rw [hk]at sg
 rw [qp t]at hT
 have tk: ∀ x:Tm,(x.kids.map oT).take x.kids.length=x.kids.map oT:=fun x=>List.take_of_length_le (by simp)
 rw [qI kI rfl,qp t]
 simp only [go_sem,qa,qb,qc,qd,qe,qf,reduceCtorEq,zN,qt,sg,sg1,inf,pre,e1,e2,e3,d21,d31,d41,d23,d13,d12,Bool.false_or,Bool.not_true,m40,m91,hT,tk]
theorem qsv(l:List Sg) (τ:Bool) (hg:GoodL l) (i:Nat) (hi:i≤l.length) (nm:List Str) (d:Nat) (most:Int) (hk:(sgD l i).kind=1) (hnr:(sgD l i).near=false) (ht:(sgD l i).text=[45]) (hk1:(sgD l (i+1)).kind=3) (hat:(sgD l (i+1)).at_=(sgD l i).at_+1):
 cw qg xm [.b (.a [.i τ (l.map Sg.v),I i,.o 1 (List.map S nm),I (d),B false]),I most]=some (.t [oT (.mk 3 [] (0 - (sgD l (i+1)).num) []),I 0],[.b (.a [.i τ (l.map Sg.v),I ((i+2:Nat):Int),.o 1 (List.map S nm),I (d),B false]),I most]):=by
 have hlen:=hg.len
 have sg:=zF l τ hlen i 0 (by omega) (by decide) (.i true (nm.map S)) d false
 simp only [Nat.add_zero,Int.natCast_zero]at sg
 rw [Sg.v]at sg
 have sg1:=zF l τ hlen i 1 (by omega) (by decide) (.i true (nm.map S)) d false
 rw [Sg.v]at sg1
 simp only [Int.natCast_one]at sg1
 have m40:=qZ l τ hlen i 0 (by omega) (by decide) (.i true (nm.map S)) d false [40]
 have m91:=qZ l τ hlen i 0 (by omega) (by decide) (.i true (nm.map S)) d false [91]
 have m41:=qZ l τ hlen i 2 (by omega) (by decide) (.i true (nm.map S)) d false [41]
 simp only [Nat.add_zero,Int.natCast_zero]at m40 m91
 have two:((2:Nat):Int)=2:=rfl
 rw [two]at m41
 have inf:=ke (sgD l i).text
 have pre:=k8 (sgD l i).text
 unfold opV at inf
 unfold yw at pre
 have e1:w64 ((i:Int)+1)=((i+1:Nat):Int):=by rw [qj]<;>omega
 have e2:w64 ((i:Int)+2)=((i+2:Nat):Int):=by rw [qj]<;>omega
 have e3:w64 ((i:Int)+3)=((i+3:Nat):Int):=by rw [qj]<;>omega
 have d21:decide ((2:Int)=1)=false:=rfl
 have d31:decide ((3:Int)=1)=false:=rfl
 have d41:decide ((4:Int)=1)=false:=rfl
 have d23:decide ((2:Int)=3)=false:=rfl
 have d13:decide ((1:Int)=3)=false:=rfl
 have d12:decide ((1:Int)=2)=false:=rfl
 have n40:isM l i [40]=false:=by unfold isM;rw [hk];rfl
 have n91:isM l i [91]=false:=by unfold isM;rw [hk];rfl
 rw [n40]at m40
 rw [n91]at m91
 rw [hk,hnr]at sg
 have ea:w64 ((sgD l i).at_+1)=(sgD l i).at_+1:=by
  have:=hg.at_ i
  rw [qj]<;>omega
 rw [hk1,hat]at sg1
 have en:w64 (0 - (sgD l (i+1)).num)=0 - (sgD l (i+1)).num:=by
  have:=hg.num (i+1)
  rw [qj]<;>omega
 have nk:=qil (0 - (sgD l (i+1)).num)
 rw [qK]at nk
 rw [ht]at sg inf pre
 rw [qI kI rfl,qK]
 simp only [go_sem,qa,qb,qc,qd,qe,qf,reduceCtorEq,zN,qt,sg,sg1,inf,pre,e1,e2,e3,d21,d31,d41,d23,d13,d12,Bool.false_or,Bool.not_true,m40,m91,ea,en,nk]
theorem qj8(l:List Sg) (τ:Bool) (hg:GoodL l) (i:Nat) (hi:i≤l.length) (nm:List Str) (d:Nat) (most:Int) (hk:(sgD l i).kind=1) (hnr:(sgD l i).near=false) (hneg: ¬ ((sgD l i).text=[45]∧(sgD l (i+1)).kind=3∧(sgD l (i+1)).at_=(sgD l i).at_+1)) (hp:(qT (sgD l i).text).prio ≠ 0) (hm:(qT (sgD l i).text).prio≤most) (x:Tm) (a1:Nat) (nm1:List Str) (d1:Int) (b1:Bool)
 (hT:cw qg ye [.b (.a [.i τ (l.map Sg.v),I ((i+1:Nat):Int),.o 1 (List.map S nm),I (d),B false]),I (qT (sgD l i).text).right]=some (oT x,[.b (.a [.i τ (l.map Sg.v),I a1,.o 1 (List.map S nm1),I (d1),B b1]),I (qT (sgD l i).text).right])):
 cw qg xm [.b (.a [.i τ (l.map Sg.v),I i,.o 1 (List.map S nm),I (d),B false]),I most]=some (.t [oT (.mk 4 (sgD l i).text 0 [x]),I (qT (sgD l i).text).prio],[.b (.a [.i τ (l.map Sg.v),I a1,.o 1 (List.map S nm1),I (d1),B b1]),I most]):=by
 have hlen:=hg.len
 have sg:=zF l τ hlen i 0 (by omega) (by decide) (.i true (nm.map S)) d false
 simp only [Nat.add_zero,Int.natCast_zero]at sg
 rw [Sg.v]at sg
 have sg1:=zF l τ hlen i 1 (by omega) (by decide) (.i true (nm.map S)) d false
 rw [Sg.v]at sg1
 simp only [Int.natCast_one]at sg1
 have m40:=qZ l τ hlen i 0 (by omega) (by decide) (.i true (nm.map S)) d false [40]
 have m91:=qZ l τ hlen i 0 (by omega) (by decide) (.i true (nm.map S)) d false [91]
 have m41:=qZ l τ hlen i 2 (by omega) (by decide) (.i true (nm.map S)) d false [41]
 simp only [Nat.add_zero,Int.natCast_zero]at m40 m91
 have two:((2:Nat):Int)=2:=rfl
 rw [two]at m41
 have inf:=ke (sgD l i).text
 have pre:=k8 (sgD l i).text
 unfold opV at inf
 unfold yw at pre
 have e1:w64 ((i:Int)+1)=((i+1:Nat):Int):=by rw [qj]<;>omega
 have e2:w64 ((i:Int)+2)=((i+2:Nat):Int):=by rw [qj]<;>omega
 have e3:w64 ((i:Int)+3)=((i+3:Nat):Int):=by rw [qj]<;>omega
 have d21:decide ((2:Int)=1)=false:=rfl
 have d31:decide ((3:Int)=1)=false:=rfl
 have d41:decide ((4:Int)=1)=false:=rfl
 have d23:decide ((2:Int)=3)=false:=rfl
 have d13:decide ((1:Int)=3)=false:=rfl
 have d12:decide ((1:Int)=2)=false:=rfl
 have n40:isM l i [40]=false:=by unfold isM;rw [hk];rfl
 have n91:isM l i [91]=false:=by unfold isM;rw [hk];rfl
 rw [n40]at m40
 rw [n91]at m91
 rw [hk,hnr]at sg
 have ea:w64 ((sgD l i).at_+1)=(sgD l i).at_+1:=by
  have:=hg.at_ i
  rw [qj]<;>omega
 have hp':decide ((qT (sgD l i).text).prio ≠ 0)=true:=decide_eq_true hp
 rw [hp']at pre
 have st:=quz (sgD l i).text x
 rw [qp x]at hT
 have tk: ∀ x:Tm,(x.kids.map oT).take x.kids.length=x.kids.map oT:=fun x=>List.take_of_length_le (by simp)
 rw [qI kI rfl,jd,List.map_cons,List.map_nil,qp x]
 by_cases ht:(sgD l i).text=[45]
 ·have dt:decide ((sgD l i).text=[45])=true:=decide_eq_true ht
  by_cases hk1:(sgD l (i+1)).kind=3
  ·have da:decide ((sgD l (i+1)).at_=(sgD l i).at_+1)=false:=decide_eq_false fun h=>hneg ⟨ht,hk1,h⟩
   have dk:decide ((sgD l (i+1)).kind=3)=true:=decide_eq_true hk1
   simp only [go_sem,qa,qb,qc,qd,qe,qf,reduceCtorEq,zN,qt,sg,sg1,inf,pre,e1,e2,e3,d21,d31,d41,d23,d13,d12,Bool.false_or,Bool.not_true,m40,m91,hT,hm,st,tk,ea,dt,dk,da]
  ·have dk:decide ((sgD l (i+1)).kind=3)=false:=decide_eq_false hk1
   simp only [go_sem,qa,qb,qc,qd,qe,qf,reduceCtorEq,zN,qt,sg,sg1,inf,pre,e1,e2,e3,d21,d31,d41,d23,d13,d12,Bool.false_or,Bool.not_true,m40,m91,hT,hm,st,tk,ea,dt,dk]
 ·have dt:decide ((sgD l i).text=[45])=false:=decide_eq_false ht
  simp only [go_sem,qa,qb,qc,qd,qe,qf,reduceCtorEq,zN,qt,sg,sg1,inf,pre,e1,e2,e3,d21,d31,d41,d23,d13,d12,Bool.false_or,Bool.not_true,m40,m91,hT,hm,st,tk,ea,dt]
theorem qsq(l:List Sg) (τ:Bool) (hg:GoodL l) (i:Nat) (hi:i≤l.length) (nm:List Str) (d:Nat) (most:Int) (hk:(sgD l i).kind=1) (hnr:(sgD l i).near=false) (hneg: ¬ ((sgD l i).text=[45]∧(sgD l (i+1)).kind=3∧(sgD l (i+1)).at_=(sgD l i).at_+1)) (hp:(qT (sgD l i).text).prio=0) (hq:(qF (sgD l i).text).prio=0):
 cw qg xm [.b (.a [.i τ (l.map Sg.v),I i,.o 1 (List.map S nm),I (d),B false]),I most]=some (.t [oT (.mk 2 (sgD l i).text 0 []),I 0],[.b (.a [.i τ (l.map Sg.v),I ((i+1:Nat):Int),.o 1 (List.map S nm),I (d),B false]),I most]):=by
 have hlen:=hg.len
 have sg:=zF l τ hlen i 0 (by omega) (by decide) (.i true (nm.map S)) d false
 simp only [Nat.add_zero,Int.natCast_zero]at sg
 rw [Sg.v]at sg
 have sg1:=zF l τ hlen i 1 (by omega) (by decide) (.i true (nm.map S)) d false
 rw [Sg.v]at sg1
 simp only [Int.natCast_one]at sg1
 have m40:=qZ l τ hlen i 0 (by omega) (by decide) (.i true (nm.map S)) d false [40]
 have m91:=qZ l τ hlen i 0 (by omega) (by decide) (.i true (nm.map S)) d false [91]
 have m41:=qZ l τ hlen i 2 (by omega) (by decide) (.i true (nm.map S)) d false [41]
 simp only [Nat.add_zero,Int.natCast_zero]at m40 m91
 have two:((2:Nat):Int)=2:=rfl
 rw [two]at m41
 have inf:=ke (sgD l i).text
 have pre:=k8 (sgD l i).text
 unfold opV at inf
 unfold yw at pre
 have e1:w64 ((i:Int)+1)=((i+1:Nat):Int):=by rw [qj]<;>omega
 have e2:w64 ((i:Int)+2)=((i+2:Nat):Int):=by rw [qj]<;>omega
 have e3:w64 ((i:Int)+3)=((i+3:Nat):Int):=by rw [qj]<;>omega
 have d21:decide ((2:Int)=1)=false:=rfl
 have d31:decide ((3:Int)=1)=false:=rfl
 have d41:decide ((4:Int)=1)=false:=rfl
 have d23:decide ((2:Int)=3)=false:=rfl
 have d13:decide ((1:Int)=3)=false:=rfl
 have d12:decide ((1:Int)=2)=false:=rfl
 have n40:isM l i [40]=false:=by unfold isM;rw [hk];rfl
 have n91:isM l i [91]=false:=by unfold isM;rw [hk];rfl
 rw [n40]at m40
 rw [n91]at m91
 rw [hk,hnr]at sg
 have ea:w64 ((sgD l i).at_+1)=(sgD l i).at_+1:=by
  have:=hg.at_ i
  rw [qj]<;>omega
 have hp':decide ((qT (sgD l i).text).prio ≠ 0)=false:=decide_eq_false fun h=>h hp
 have hq':decide ((qF (sgD l i).text).prio ≠ 0)=false:=decide_eq_false fun h=>h hq
 rw [hp']at pre
 rw [hq']at inf
 have nk:=qcl (sgD l i).text
 rw [qK]at nk
 rw [qI kI rfl,qK]
 by_cases ht:(sgD l i).text=[45]
 ·have dt:decide ((sgD l i).text=[45])=true:=decide_eq_true ht
  by_cases hk1:(sgD l (i+1)).kind=3
  ·have da:decide ((sgD l (i+1)).at_=(sgD l i).at_+1)=false:=decide_eq_false fun h=>hneg ⟨ht,hk1,h⟩
   have dk:decide ((sgD l (i+1)).kind=3)=true:=decide_eq_true hk1
   simp only [go_sem,qa,qb,qc,qd,qe,qf,reduceCtorEq,zN,qt,sg,sg1,inf,pre,e1,e2,e3,d21,d31,d41,d23,d13,d12,Bool.false_or,Bool.not_true,m40,m91,nk,ea,dt,dk,da]
  ·have dk:decide ((sgD l (i+1)).kind=3)=false:=decide_eq_false hk1
   simp only [go_sem,qa,qb,qc,qd,qe,qf,reduceCtorEq,zN,qt,sg,sg1,inf,pre,e1,e2,e3,d21,d31,d41,d23,d13,d12,Bool.false_or,Bool.not_true,m40,m91,nk,ea,dt,dk]
 ·have dt:decide ((sgD l i).text=[45])=false:=decide_eq_false ht
  simp only [go_sem,qa,qb,qc,qd,qe,qf,reduceCtorEq,zN,qt,sg,sg1,inf,pre,e1,e2,e3,d21,d31,d41,d23,d13,d12,Bool.false_or,Bool.not_true,m40,m91,nk,ea,dt]
theorem qss(l:List Sg) (τ:Bool) (hg:GoodL l) (i:Nat) (hi:i≤l.length) (nm:List Str) (d:Nat) (most:Int) (hk:(sgD l i).kind=1) (hnr:(sgD l i).near=false) (hneg: ¬ ((sgD l i).text=[45]∧(sgD l (i+1)).kind=3∧(sgD l (i+1)).at_=(sgD l i).at_+1)) (hp:(qT (sgD l i).text).prio ≠ 0) (hm: ¬ (qT (sgD l i).text).prio≤most):
 cw qg xm [.b (.a [.i τ (l.map Sg.v),I i,.o 1 (List.map S nm),I (d),B false]),I most]=some (.t [oT (.mk 0 [] 0 []),I 0],[.b (.a [.i τ (l.map Sg.v),I i,.o 1 (List.map S nm),I (d),B true]),I most]):=by
 have hlen:=hg.len
 have sg:=zF l τ hlen i 0 (by omega) (by decide) (.i true (nm.map S)) d false
 simp only [Nat.add_zero,Int.natCast_zero]at sg
 rw [Sg.v]at sg
 have sg1:=zF l τ hlen i 1 (by omega) (by decide) (.i true (nm.map S)) d false
 rw [Sg.v]at sg1
 simp only [Int.natCast_one]at sg1
 have m40:=qZ l τ hlen i 0 (by omega) (by decide) (.i true (nm.map S)) d false [40]
 have m91:=qZ l τ hlen i 0 (by omega) (by decide) (.i true (nm.map S)) d false [91]
 have m41:=qZ l τ hlen i 2 (by omega) (by decide) (.i true (nm.map S)) d false [41]
 simp only [Nat.add_zero,Int.natCast_zero]at m40 m91
 have two:((2:Nat):Int)=2:=rfl
 rw [two]at m41
 have inf:=ke (sgD l i).text
 have pre:=k8 (sgD l i).text
 unfold opV at inf
 unfold yw at pre
 have e1:w64 ((i:Int)+1)=((i+1:Nat):Int):=by rw [qj]<;>omega
 have e2:w64 ((i:Int)+2)=((i+2:Nat):Int):=by rw [qj]<;>omega
 have e3:w64 ((i:Int)+3)=((i+3:Nat):Int):=by rw [qj]<;>omega
 have d21:decide ((2:Int)=1)=false:=rfl
 have d31:decide ((3:Int)=1)=false:=rfl
 have d41:decide ((4:Int)=1)=false:=rfl
 have d23:decide ((2:Int)=3)=false:=rfl
 have d13:decide ((1:Int)=3)=false:=rfl
 have d12:decide ((1:Int)=2)=false:=rfl
 have n40:isM l i [40]=false:=by unfold isM;rw [hk];rfl
 have n91:isM l i [91]=false:=by unfold isM;rw [hk];rfl
 rw [n40]at m40
 rw [n91]at m91
 rw [hk,hnr]at sg
 have ea:w64 ((sgD l i).at_+1)=(sgD l i).at_+1:=by
  have:=hg.at_ i
  rw [qj]<;>omega
 have hp':decide ((qT (sgD l i).text).prio ≠ 0)=true:=decide_eq_true hp
 rw [hp']at pre
 rw [qI kI rfl,qK]
 by_cases ht:(sgD l i).text=[45]
 ·have dt:decide ((sgD l i).text=[45])=true:=decide_eq_true ht
  by_cases hk1:(sgD l (i+1)).kind=3
  ·have da:decide ((sgD l (i+1)).at_=(sgD l i).at_+1)=false:=decide_eq_false fun h=>hneg ⟨ht,hk1,h⟩
   have dk:decide ((sgD l (i+1)).kind=3)=true:=decide_eq_true hk1
   simp only [go_sem,qa,qb,qc,qd,qe,qf,reduceCtorEq,zN,qt,sg,sg1,inf,pre,e1,e2,e3,d21,d31,d41,d23,d13,d12,Bool.false_or,Bool.not_true,m40,m91,hm,ea,dt,dk,da]
  ·have dk:decide ((sgD l (i+1)).kind=3)=false:=decide_eq_false hk1
   simp only [go_sem,qa,qb,qc,qd,qe,qf,reduceCtorEq,zN,qt,sg,sg1,inf,pre,e1,e2,e3,d21,d31,d41,d23,d13,d12,Bool.false_or,Bool.not_true,m40,m91,hm,ea,dt,dk]
 ·have dt:decide ((sgD l i).text=[45])=false:=decide_eq_false ht
  simp only [go_sem,qa,qb,qc,qd,qe,qf,reduceCtorEq,zN,qt,sg,sg1,inf,pre,e1,e2,e3,d21,d31,d41,d23,d13,d12,Bool.false_or,Bool.not_true,m40,m91,hm,ea,dt]
theorem qst(l:List Sg) (τ:Bool) (hg:GoodL l) (i:Nat) (hi:i≤l.length) (nm:List Str) (d:Nat) (most:Int) (hk:(sgD l i).kind=1) (hnr:(sgD l i).near=false) (hneg: ¬ ((sgD l i).text=[45]∧(sgD l (i+1)).kind=3∧(sgD l (i+1)).at_=(sgD l i).at_+1)) (hp:(qT (sgD l i).text).prio=0) (hq:(qF (sgD l i).text).prio ≠ 0):
 cw qg xm [.b (.a [.i τ (l.map Sg.v),I i,.o 1 (List.map S nm),I (d),B false]),I most]=some (.t [oT (.mk 0 [] 0 []),I 0],[.b (.a [.i τ (l.map Sg.v),I i,.o 1 (List.map S nm),I (d),B true]),I most]):=by
 have hlen:=hg.len
 have sg:=zF l τ hlen i 0 (by omega) (by decide) (.i true (nm.map S)) d false
 simp only [Nat.add_zero,Int.natCast_zero]at sg
 rw [Sg.v]at sg
 have sg1:=zF l τ hlen i 1 (by omega) (by decide) (.i true (nm.map S)) d false
 rw [Sg.v]at sg1
 simp only [Int.natCast_one]at sg1
 have m40:=qZ l τ hlen i 0 (by omega) (by decide) (.i true (nm.map S)) d false [40]
 have m91:=qZ l τ hlen i 0 (by omega) (by decide) (.i true (nm.map S)) d false [91]
 have m41:=qZ l τ hlen i 2 (by omega) (by decide) (.i true (nm.map S)) d false [41]
 simp only [Nat.add_zero,Int.natCast_zero]at m40 m91
 have two:((2:Nat):Int)=2:=rfl
 rw [two]at m41
 have inf:=ke (sgD l i).text
 have pre:=k8 (sgD l i).text
 unfold opV at inf
 unfold yw at pre
 have e1:w64 ((i:Int)+1)=((i+1:Nat):Int):=by rw [qj]<;>omega
 have e2:w64 ((i:Int)+2)=((i+2:Nat):Int):=by rw [qj]<;>omega
 have e3:w64 ((i:Int)+3)=((i+3:Nat):Int):=by rw [qj]<;>omega
 have d21:decide ((2:Int)=1)=false:=rfl
 have d31:decide ((3:Int)=1)=false:=rfl
 have d41:decide ((4:Int)=1)=false:=rfl
 have d23:decide ((2:Int)=3)=false:=rfl
 have d13:decide ((1:Int)=3)=false:=rfl
 have d12:decide ((1:Int)=2)=false:=rfl
 have n40:isM l i [40]=false:=by unfold isM;rw [hk];rfl
 have n91:isM l i [91]=false:=by unfold isM;rw [hk];rfl
 rw [n40]at m40
 rw [n91]at m91
 rw [hk,hnr]at sg
 have ea:w64 ((sgD l i).at_+1)=(sgD l i).at_+1:=by
  have:=hg.at_ i
  rw [qj]<;>omega
 have hp':decide ((qT (sgD l i).text).prio ≠ 0)=false:=decide_eq_false fun h=>h hp
 have hq':decide ((qF (sgD l i).text).prio ≠ 0)=true:=decide_eq_true hq
 rw [hp']at pre
 rw [hq']at inf
 rw [qI kI rfl,qK]
 by_cases ht:(sgD l i).text=[45]
 ·have dt:decide ((sgD l i).text=[45])=true:=decide_eq_true ht
  by_cases hk1:(sgD l (i+1)).kind=3
  ·have da:decide ((sgD l (i+1)).at_=(sgD l i).at_+1)=false:=decide_eq_false fun h=>hneg ⟨ht,hk1,h⟩
   have dk:decide ((sgD l (i+1)).kind=3)=true:=decide_eq_true hk1
   simp only [go_sem,qa,qb,qc,qd,qe,qf,reduceCtorEq,zN,qt,sg,sg1,inf,pre,e1,e2,e3,d21,d31,d41,d23,d13,d12,Bool.false_or,Bool.not_true,m40,m91,ea,dt,dk,da]
  ·have dk:decide ((sgD l (i+1)).kind=3)=false:=decide_eq_false hk1
   simp only [go_sem,qa,qb,qc,qd,qe,qf,reduceCtorEq,zN,qt,sg,sg1,inf,pre,e1,e2,e3,d21,d31,d41,d23,d13,d12,Bool.false_or,Bool.not_true,m40,m91,ea,dt,dk]
 ·have dt:decide ((sgD l i).text=[45])=false:=decide_eq_false ht
  simp only [go_sem,qa,qb,qc,qd,qe,qf,reduceCtorEq,zN,qt,sg,sg1,inf,pre,e1,e2,e3,d21,d31,d41,d23,d13,d12,Bool.false_or,Bool.not_true,m40,m91,ea,dt]
theorem qsu(l:List Sg) (τ:Bool) (hg:GoodL l) (i:Nat) (hi:i≤l.length) (nm:List Str) (d:Nat) (most:Int) (n40:isM l i [40]=false) (n91:isM l i [91]=false) (k1:(sgD l i).kind ≠ 1) (k2:(sgD l i).kind ≠ 2) (k3:(sgD l i).kind ≠ 3):
 cw qg xm [.b (.a [.i τ (l.map Sg.v),I i,.o 1 (List.map S nm),I (d),B false]),I most]=some (.t [oT (.mk 0 [] 0 []),I 0],[.b (.a [.i τ (l.map Sg.v),I i,.o 1 (List.map S nm),I (d),B true]),I most]):=by
 have hlen:=hg.len
 have sg:=zF l τ hlen i 0 (by omega) (by decide) (.i true (nm.map S)) d false
 simp only [Nat.add_zero,Int.natCast_zero]at sg
 rw [Sg.v]at sg
 have sg1:=zF l τ hlen i 1 (by omega) (by decide) (.i true (nm.map S)) d false
 rw [Sg.v]at sg1
 simp only [Int.natCast_one]at sg1
 have m40:=qZ l τ hlen i 0 (by omega) (by decide) (.i true (nm.map S)) d false [40]
 have m91:=qZ l τ hlen i 0 (by omega) (by decide) (.i true (nm.map S)) d false [91]
 have m41:=qZ l τ hlen i 2 (by omega) (by decide) (.i true (nm.map S)) d false [41]
 simp only [Nat.add_zero,Int.natCast_zero]at m40 m91
 have two:((2:Nat):Int)=2:=rfl
 rw [two]at m41
 have inf:=ke (sgD l i).text
 have pre:=k8 (sgD l i).text
 unfold opV at inf
 unfold yw at pre
 have e1:w64 ((i:Int)+1)=((i+1:Nat):Int):=by rw [qj]<;>omega
 have e2:w64 ((i:Int)+2)=((i+2:Nat):Int):=by rw [qj]<;>omega
 have e3:w64 ((i:Int)+3)=((i+3:Nat):Int):=by rw [qj]<;>omega
 have d21:decide ((2:Int)=1)=false:=rfl
 have d31:decide ((3:Int)=1)=false:=rfl
 have d41:decide ((4:Int)=1)=false:=rfl
 have d23:decide ((2:Int)=3)=false:=rfl
 have d13:decide ((1:Int)=3)=false:=rfl
 have d12:decide ((1:Int)=2)=false:=rfl
 rw [n40]at m40
 rw [n91]at m91
 have dk1:decide ((sgD l i).kind=1)=false:=decide_eq_false k1
 have dk2:decide ((sgD l i).kind=2)=false:=decide_eq_false k2
 have dk3:decide ((sgD l i).kind=3)=false:=decide_eq_false k3
 rw [qI kI rfl,qK]
 simp only [go_sem,qa,qb,qc,qd,qe,qf,reduceCtorEq,zN,qt,sg,sg1,inf,pre,e1,e2,e3,d21,d31,d41,d23,d13,d12,Bool.false_or,Bool.not_true,m40,m91,dk1,dk2,dk3]
end Go.Vm
namespace Go.Vm
theorem qlZ(l:List Sg) (τ:Bool) (hg:GoodL l) (n:Nat) (hn20:n≤2^20) (hT:IT l τ n) (hA:IA l τ n):IP l τ (n+1):=by
 intro i nm d most hn hi hnm hd
 have hlen:=hg.len
 have bd: ∀ a:Nat,a≤l.length+8*n→l.length+8*(n+1) ≥ a+8:=fun a h=>by omega
 simp only [pP]
 by_cases c1:(sgD l i).kind=1∧(sgD l i).near=true
 ·have h40:=hg.near i c1.2
  have hlt:=(zn h40).1
  obtain ⟨a1,a2⟩:=hA (i+2) nm d (by omega) (by omega) (by omega) hd
  rw [if_pos c1]
  cases hp:pA l n (i+2) nm d with
  |none=>
   refine ⟨fun t q i' nm' h=>by simp at h,fun _=> ?_⟩
   obtain ⟨ks,cs,⟨a,nm1,d1,ha,rfl⟩,hk,hc⟩:=a2 hp
   have:=qj6 l τ hg i hi nm d most c1.1 c1.2 ks a (by omega) nm1 d1 true hc
   simp only [Bool.true_or]at this
   exact ⟨_,_,_,⟨a+1,nm1,d1,by omega,rfl⟩,this⟩
  |some r=>
   obtain ⟨ks,i1,nm1⟩:=r
   have adv:=(zY l n).2.2.2.1 _ _ _ _ _ _ hp
   obtain ⟨hk,hc⟩:=a1 _ _ _ hp
   have:=qj6 l τ hg i hi nm d most c1.1 c1.2 ks i1 (by omega) nm1 d false hc
   simp only [Bool.false_or]at this
   simp only
   by_cases hm:isM l i1 [41]=true∧ks.length≤5
   ·rw [if_pos hm]
    rw [hm.1,decide_eq_false (by omega)]at this
    refine ⟨fun t q i' nm' h=> ?_,fun h=>by simp at h⟩
    simp only [Option.some.injEq,Prod.mk.injEq]at h
    obtain ⟨rfl,rfl,rfl,rfl⟩:=h
    exact this
   ·rw [if_neg hm]
    have hb:(!isM l i1 [41]||decide (5 < ks.length))=true:=by
     cases h:isM l i1 [41]with
     |false=>rfl
     |true=>
      have:5 < ks.length:=by
       apply Nat.lt_of_not_le;intro h5;exact hm ⟨h,h5⟩
      rw [decide_eq_true this];rfl
    rw [hb]at this
    exact ⟨fun t q i' nm' h=>by simp at h,fun _=>⟨_,_,_,⟨i1+1,nm1,d,by omega,rfl⟩,this⟩⟩
 rw [if_neg c1]
 by_cases c2:isM l i [40]=true
 ·have hlt:=(zn c2).1
  rw [if_pos c2]
  by_cases c3:(sgD l (i+1)).kind=1∧isM l (i+2) [41]=true
  ·rw [if_pos c3]
   refine ⟨fun t q i' nm' h=> ?_,fun h=>by simp at h⟩
   simp only [Option.some.injEq,Prod.mk.injEq]at h
   obtain ⟨rfl,rfl,rfl,rfl⟩:=h
   exact qsr l τ hg i hi nm d most c2 c3.1 c3.2
  ·rw [if_neg c3]
   obtain ⟨t1,t2⟩:=hT (i+1) nm d 1200 (by omega) (by omega) (by omega) hd
   cases hp:pT l n (i+1) nm d 1200 with
   |none=>
    refine ⟨fun t q i' nm' h=>by simp at h,fun _=> ?_⟩
    obtain ⟨g,cs,⟨a,nm1,d1,ha,rfl⟩,hc⟩:=t2 hp
    have:=qj7 l τ hg i hi nm d most c2 c3 g a (by omega) nm1 d1 true hc
    simp only [Bool.true_or]at this
    exact ⟨_,_,_,⟨a+1,nm1,d1,by omega,rfl⟩,this⟩
   |some r=>
    obtain ⟨g,i1,nm1⟩:=r
    have adv:=(zY l n).1 _ _ _ _ _ _ _ hp
    have:=qj7 l τ hg i hi nm d most c2 c3 g i1 (by omega) nm1 d false (t1 _ _ _ hp)
    simp only [Bool.false_or]at this
    simp only
    by_cases hm:isM l i1 [41]=true
    ·rw [if_pos hm]
     rw [hm]at this
     refine ⟨fun t q i' nm' h=> ?_,fun h=>by simp at h⟩
     simp only [Option.some.injEq,Prod.mk.injEq]at h
     obtain ⟨rfl,rfl,rfl,rfl⟩:=h
     exact this
    ·rw [if_neg hm]
     have hb:isM l i1 [41]=false:=by cases h:isM l i1 [41];rfl;exact absurd h hm
     rw [hb]at this
     exact ⟨fun t q i' nm' h=>by simp at h,fun _=>⟨_,_,_,⟨i1+1,nm1,d,by omega,rfl⟩,this⟩⟩
 rw [if_neg c2]
 have n40:isM l i [40]=false:=by cases h:isM l i [40];rfl;exact absurd h c2
 by_cases c4:isM l i [91]=true
 ·have hlt:=(zn c4).1
  rw [if_pos c4]
  by_cases c5:isM l (i+1) [93]=true
  ·rw [if_pos c5]
   refine ⟨fun t q i' nm' h=> ?_,fun h=>by simp at h⟩
   simp only [Option.some.injEq,Prod.mk.injEq]at h
   obtain ⟨rfl,rfl,rfl,rfl⟩:=h
   exact Ko l τ hg i hi nm d most c4 yk (i+2) nm d false (qp8 l τ hg i hi nm d c4 c5)
  rw [if_neg c5]
  have n93:isM l (i+1) [93]=false:=by cases h:isM l (i+1) [93];rfl;exact absurd h c5
  obtain ⟨a1,a2⟩:=hA (i+1) nm d (by omega) (by omega) (by omega) hd
  cases hp:pA l n (i+1) nm d with
  |none=>
   refine ⟨fun t q i' nm' h=>by simp at h,fun _=> ?_⟩
   obtain ⟨ks,cs,⟨a,nm1,d1,ha,rfl⟩,hk,hc⟩:=a2 hp
   obtain ⟨k1,k2⟩:=qiQ l τ hg i hi nm d c4 n93 ks (by omega) a (by omega) nm1 d1 true hc
   cases hb:isM l a [124]with
   |false=>
    have:=k1 hb
    simp only [Bool.true_or]at this
    exact ⟨_,_,_,⟨a+1,nm1,d1,by omega,rfl⟩,Ko l τ hg i hi nm d most c4 _ _ _ _ _ this⟩
   |true=>
    have:=k2 hb _ (a+1) nm1 d1 true (by omega) (quI l τ (a+1) nm1 d1 999)
    simp only [Bool.true_or]at this
    exact ⟨_,_,_,⟨a+1+1,nm1,d1,by omega,rfl⟩,Ko l τ hg i hi nm d most c4 _ _ _ _ _ this⟩
  |some r=>
   obtain ⟨ks,i1,nm1⟩:=r
   have adv:=(zY l n).2.2.2.1 _ _ _ _ _ _ hp
   have nl:=(y6 l n).2.2.2.1 _ _ _ _ _ _ hp
   obtain ⟨hk,hc⟩:=a1 _ _ _ hp
   obtain ⟨k1,k2⟩:=qiQ l τ hg i hi nm d c4 n93 ks (by omega) i1 (by omega) nm1 d false hc
   simp only
   cases hb:isM l i1 [124]with
   |true=>
    have hlt1:=(zn hb).1
    rw [if_pos rfl]
    obtain ⟨t1,t2⟩:=hT (i1+1) nm1 d 999 (by omega) (by omega) (by omega) hd
    cases hp2:pT l n (i1+1) nm1 d 999 with
    |none=>
     refine ⟨fun t q i' nm' h=>by simp at h,fun _=> ?_⟩
     obtain ⟨g,cs,⟨a,nm2,d1,ha,rfl⟩,hc2⟩:=t2 hp2
     have:=k2 hb g a nm2 d1 true (by omega) hc2
     simp only [Bool.true_or]at this
     exact ⟨_,_,_,⟨a+1,nm2,d1,by omega,rfl⟩,Ko l τ hg i hi nm d most c4 _ _ _ _ _ this⟩
    |some r2=>
     obtain ⟨r,i2,nm2⟩:=r2
     have adv2:=(zY l n).1 _ _ _ _ _ _ _ hp2
     have:=k2 hb r i2 nm2 d false (by omega) (t1 _ _ _ hp2)
     simp only [Bool.false_or]at this
     have:=Ko l τ hg i hi nm d most c4 _ _ _ _ _ this
     simp only
     by_cases hm:isM l i2 [93]=true
     ·rw [if_pos hm]
      rw [hm]at this
      refine ⟨fun t q i' nm' h=> ?_,fun h=>by simp at h⟩
      simp only [Option.some.injEq,Prod.mk.injEq]at h
      obtain ⟨rfl,rfl,rfl,rfl⟩:=h
      exact this
     ·rw [if_neg hm]
      have hf:isM l i2 [93]=false:=by cases h:isM l i2 [93];rfl;exact absurd h hm
      rw [hf]at this
      exact ⟨fun t q i' nm' h=>by simp at h,fun _=>⟨_,_,_,⟨i2+1,nm2,d,by omega,rfl⟩,this⟩⟩
   |false=>
    rw [if_neg (by decide)]
    have:=k1 hb
    simp only [Bool.false_or]at this
    have:=Ko l τ hg i hi nm d most c4 _ _ _ _ _ this
    by_cases hm:isM l i1 [93]=true
    ·rw [if_pos hm]
     rw [hm]at this
     refine ⟨fun t q i' nm' h=> ?_,fun h=>by simp at h⟩
     simp only [Option.some.injEq,Prod.mk.injEq]at h
     obtain ⟨rfl,rfl,rfl,rfl⟩:=h
     exact this
    ·rw [if_neg hm]
     have hf:isM l i1 [93]=false:=by cases h:isM l i1 [93];rfl;exact absurd h hm
     rw [hf]at this
     exact ⟨fun t q i' nm' h=>by simp at h,fun _=>⟨_,_,_,⟨i1+1,nm1,d,by omega,rfl⟩,this⟩⟩
 rw [if_neg c4]
 have n91:isM l i [91]=false:=by cases h:isM l i [91];rfl;exact absurd h c4
 by_cases c6:(sgD l i).kind=3
 ·rw [if_pos c6]
  refine ⟨fun t q i' nm' h=> ?_,fun h=>by simp at h⟩
  simp only [Option.some.injEq,Prod.mk.injEq]at h
  obtain ⟨rfl,rfl,rfl,rfl⟩:=h
  exact qsw l τ hg i hi nm d most c6
 rw [if_neg c6]
 by_cases c7:(sgD l i).kind=2
 ·rw [if_pos c7]
  refine ⟨fun t q i' nm' h=> ?_,fun h=>by simp at h⟩
  simp only [Option.some.injEq,Prod.mk.injEq]at h
  obtain ⟨rfl,rfl,rfl,rfl⟩:=h
  exact qsy l τ hg i hi nm d most c7 (by omega)
 rw [if_neg c7]
 by_cases k1:(sgD l i).kind=1
 ·have hnr:(sgD l i).near=false:=by
   cases h:(sgD l i).near with
   |true=>exact absurd ⟨k1,h⟩ c1
   |false=>rfl
  by_cases c8:(sgD l i).kind=1∧(sgD l i).text=[45]∧(sgD l (i+1)).kind=3∧(sgD l (i+1)).at_=(sgD l i).at_+1
  ·rw [if_pos c8]
   refine ⟨fun t q i' nm' h=> ?_,fun h=>by simp at h⟩
   simp only [Option.some.injEq,Prod.mk.injEq]at h
   obtain ⟨rfl,rfl,rfl,rfl⟩:=h
   exact qsv l τ hg i hi nm d most k1 hnr c8.2.1 c8.2.2.1 c8.2.2.2
  rw [if_neg c8]
  have hneg:=fun h=>c8 ⟨k1,h⟩
  have hlt:i < l.length:=yx (by rw [k1];decide)
  by_cases hp0:(qT (sgD l i).text).prio=0
  ·rw [if_neg fun h=>h.2.1 hp0]
   by_cases hq0:(qF (sgD l i).text).prio=0
   ·rw [if_pos ⟨k1,hp0,hq0⟩]
    refine ⟨fun t q i' nm' h=> ?_,fun h=>by simp at h⟩
    simp only [Option.some.injEq,Prod.mk.injEq]at h
    obtain ⟨rfl,rfl,rfl,rfl⟩:=h
    exact qsq l τ hg i hi nm d most k1 hnr hneg hp0 hq0
   ·rw [if_neg fun h=>hq0 h.2.2]
    exact ⟨fun t q i' nm' h=>by simp at h,fun _=>⟨_,_,_,⟨i,nm,d,by omega,rfl⟩,qst l τ hg i hi nm d most k1 hnr hneg hp0 hq0⟩⟩
  ·by_cases hm:(qT (sgD l i).text).prio≤most
   ·rw [if_pos ⟨k1,hp0,hm⟩]
    obtain ⟨t1,t2⟩:=hT (i+1) nm d (qT (sgD l i).text).right (by omega) (by omega) (by omega) hd
    cases hp:pT l n (i+1) nm d (qT (sgD l i).text).right with
    |none=>
     refine ⟨fun t q i' nm' h=>by simp at h,fun _=> ?_⟩
     obtain ⟨g,cs,⟨a,nm1,d1,ha,rfl⟩,hc⟩:=t2 hp
     exact ⟨_,_,_,⟨a,nm1,d1,by omega,rfl⟩,qj8 l τ hg i hi nm d most k1 hnr hneg hp0 hm g a nm1 d1 true hc⟩
    |some r=>
     obtain ⟨x,i1,nm1⟩:=r
     refine ⟨fun t q i' nm' h=> ?_,fun h=>by simp at h⟩
     simp only [Option.some.injEq,Prod.mk.injEq]at h
     obtain ⟨rfl,rfl,rfl,rfl⟩:=h
     exact qj8 l τ hg i hi nm d most k1 hnr hneg hp0 hm x i1 nm1 d false (t1 _ _ _ hp)
   ·rw [if_neg fun h=>hm h.2.2,if_neg fun h=>hp0 h.2.1]
    exact ⟨fun t q i' nm' h=>by simp at h,fun _=>⟨_,_,_,⟨i,nm,d,by omega,rfl⟩,qss l τ hg i hi nm d most k1 hnr hneg hp0 hm⟩⟩
 ·rw [if_neg fun h=>k1 h.1,if_neg fun h=>k1 h.1,if_neg fun h=>k1 h.1]
  exact ⟨fun t q i' nm' h=>by simp at h,fun _=>⟨_,_,_,⟨i,nm,d,by omega,rfl⟩,qsu l τ hg i hi nm d most n40 n91 k1 c7 c6⟩⟩
theorem qgw(l:List Sg) (τ:Bool) (hg:GoodL l): ∀ n:Nat,n≤2^20→IT l τ n∧IL l τ n∧IP l τ n∧IA l τ n∧IB l τ n
 |0,_=>⟨fun i nm d most h=>by omega,fun i nm d most t q h=>by omega,fun i nm d most h=>by omega,fun i nm d h=>by omega,fun i nm d acc h=>by omega⟩
 |n+1,hn=>by
  obtain ⟨hT,hL,hP,hA,hB⟩:=qgw l τ hg n (by omega)
  exact ⟨ql0 l τ n hP hL,qlY l τ hg n hT hL,qlZ l τ hg n (by omega) hT hA,qlW l τ hg n hT hB,qlX l τ hg n hT hB⟩
theorem qnw(l:List Sg) (τ:Bool) (hg:GoodL l) (i:Nat) (hi:i≤l.length):
 (∀ t i' nm',pT l 20000 i [] 0 1200=some (t,i',nm')→cw qg ye [.b (.a [.i τ (l.map Sg.v),I i,.o 1 (List.map S []),I ((0:Nat)),B false]),I 1200]=some (oT t,[.b (.a [.i τ (l.map Sg.v),I i',.o 1 (List.map S nm'),I ((0:Nat)),B false]),I 1200]))∧
 (pT l 20000 i [] 0 1200=none→ ∃ g cs,qbk l τ (2^20) cs∧cw qg ye [.b (.a [.i τ (l.map Sg.v),I i,.o 1 (List.map S []),I ((0:Nat)),B false]),I 1200]=some (oT g,[.b (.a cs),I 1200])):=by
 have hlen:=hg.len
 obtain ⟨h1,h2⟩:=(qgw l τ hg 20000 (by omega)).1 i [] 0 1200 (by omega) hi (by simp) (by omega)
 refine ⟨h1,fun h=> ?_⟩
 obtain ⟨g,cs,⟨a,nm,d,ha,rfl⟩,hc⟩:=h2 h
 exact ⟨g,_,⟨a,nm,d,by omega,rfl⟩,hc⟩
end Go.Vm
namespace Go.Vm
def bhd:List Sg→Nat→Nat
 |[],i=>i
 |x::r,i=>if x.kind=5 then i+1 else bhd r (i+1)
def yA(l:List Sg) (n:Int):Nat:=if (max n 0).toNat < l.length then bhd (l.drop (max n 0).toNat) (max n 0).toNat else l.length
def zZ(l:List Sg) (n:Int):Tm × List Str × Nat × Bool:=
 if 0≤n∧n≤(l.length:Int) - 1 then
  match pT l 20000 n.toNat [] 0 1200 with
  |some (t,i',nm')=>if (sgD l i').kind=5∧ku t=true then (t,nm',i'+1,true)else (.mk 0 [] 0 [],[],yA l n,false)
  |none=>(.mk 0 [] 0 [],[],yA l n,false)
 else (.mk 0 [] 0 [],[],yA l n,false)
theorem qg3: ∀ (r:List Sg) (i:Nat),i≤bhd r i∧bhd r i≤i+r.length
 |[],i=>⟨Nat.le_refl _,Nat.le_refl _⟩
 |x::r,i=>by
  have:=qg3 r (i+1)
  simp only [bhd,List.length_cons]
  split<;>omega
theorem qg2(l:List Sg) (τ:Bool) (hl:l.length≤3000): ∀ (r:List Sg) (k:Nat),l.drop k=r→k+r.length=l.length→
 lw qg XQ ⟨[(0,.i τ (l.map Sg.v)),(1,I k)],[]⟩=(if ∃ x ∈ r,x.kind=5 then some (.ret,⟨[(4,I (bhd r k:Nat))],[]⟩)else some (.exit 0,⟨[(0,.i τ (l.map Sg.v))],[]⟩))
 |[],k,h,hk=>by
  have h1: ¬ (k:Int) < (l.length:Int):=by simp only [List.length_nil]at hk;omega
  rw [if_neg (by simp),qn]
  simp only [go_sem,qa,qb,qc,qd,qe,qf,reduceCtorEq,XT,List.length_map,h1]
 |x::r,k,h,hk=>by
  simp only [List.length_cons]at hk
  have hx:l[k]? =some x:=by
   have:=congrArg (fun z=>z[0]?) h
   simpa using this
  have hd:l.drop (k+1)=r:=by
   have:=congrArg (fun z=>z.drop 1) h
   simpa [List.drop_drop,Nat.add_comm]using this
  have h1:(k:Int) < (l.length:Int):=by omega
  have e1:w64 ((k:Int)+1)=((k+1:Nat):Int):=by rw [qj]<;>omega
  have e2:w64 (((k+1:Nat):Int) - 1)=(k:Int):=by rw [qj]<;>omega
  have g:=q7 (f:=Sg.v) hx
  have a1:=fun T=>q8 (τ:=τ) (T:=T) (e:=5) g rfl
  rw [Sg.v]at g
  by_cases h5:x.kind=5
  ·have d5:decide (x.kind=5)=true:=decide_eq_true h5
   rw [if_pos ⟨x,List.mem_cons_self,h5⟩]
   simp only [bhd,if_pos h5]
   rw [qn]
   simp only [go_sem,qa,qb,qc,qd,qe,qf,reduceCtorEq,XT,List.length_map,h1,e1,e2,g,a1,d5]
  ·have d5:decide (x.kind=5)=false:=decide_eq_false h5
   have ih:=qg2 l τ hl r (k+1) hd (by omega)
   have ex:(∃ y ∈ x::r,y.kind=5)↔(∃ y ∈ r,y.kind=5):=by
    simp only [List.mem_cons,exists_eq_or_imp,h5,false_or]
   simp only [bhd,if_neg h5,ex]
   rw [← ih,qn]
   simp only [go_sem,qa,qb,qc,qd,qe,qf,reduceCtorEq,XT,List.length_map,h1,e1,e2,g,a1,d5]
theorem qej: ∀ (r:List Sg) (i:Nat),(¬ ∃ x ∈ r,x.kind=5)→bhd r i=i+r.length
 |[],i,h=>rfl
 |x::r,i,h=>by
  have h5: ¬ x.kind=5:=fun e=>h ⟨x,List.mem_cons_self,e⟩
  have:=qej r (i+1) (fun ⟨y,hy,e⟩=>h ⟨y,List.mem_cons_of_mem _ hy,e⟩)
  simp only [bhd,if_neg h5,this,List.length_cons];omega
theorem qbd(l:List Sg) (τ:Bool) (hl:l.length≤3000) (n:Int) (hn:n≤2^40):
 cr qg qd3 [.i τ (l.map Sg.v),I n]=some (I (yA l n:Nat)):=by
 rw [qv qsc rfl]
 have core: ∀ k:Nat,(max n 0).toNat=k→ ∃ st,lw qg XQ ⟨[(0,.i τ (l.map Sg.v)),(1,I k)],[]⟩=some st∧(st=(.ret,⟨[(4,I (yA l n:Nat))],[]⟩)∨(yA l n=l.length∧st=(.exit 0,⟨[(0,.i τ (l.map Sg.v))],[]⟩))):=by
  intro k hk
  unfold yA
  rw [hk]
  by_cases h:k < l.length
  ·have lp:=qg2 l τ hl (l.drop k) k rfl (by rw [List.length_drop];omega)
   rw [if_pos h]
   by_cases hx: ∃ x ∈ l.drop k,x.kind=5
   ·rw [if_pos hx]at lp
    exact ⟨_,lp,.inl rfl⟩
   ·rw [if_neg hx]at lp
    refine ⟨_,lp,.inr ⟨?_,rfl⟩⟩
    rw [qej _ _ hx,List.length_drop];omega
  ·rw [if_neg h]
   refine ⟨_, ?_,.inr ⟨rfl,rfl⟩⟩
   have h1: ¬ (k:Int) < (l.length:Int):=by omega
   rw [qn]
   simp only [go_sem,qa,qb,qc,qd,qe,qf,reduceCtorEq,XT,List.length_map,h1]
 by_cases hn0:n < 0
 ·have hk:(max n 0).toNat=0:=by omega
  obtain ⟨st,lp,hst⟩:=core 0 hk
  simp only [Int.natCast_zero]at lp
  rcases hst with rfl|⟨hb,rfl⟩
  ·simp only [go_sem,qa,qb,qc,qd,qe,qf,reduceCtorEq,Qy,hn0,lp]
  ·simp only [go_sem,qa,qb,qc,qd,qe,qf,reduceCtorEq,Qy,hn0,lp,List.length_map,hb]
 ·obtain ⟨k,rfl⟩: ∃ k:Nat,n=k:=⟨n.toNat,by omega⟩
  obtain ⟨st,lp,hst⟩:=core k (by omega)
  rcases hst with rfl|⟨hb,rfl⟩
  ·simp only [go_sem,qa,qb,qc,qd,qe,qf,reduceCtorEq,Qy,hn0,lp]
  ·simp only [go_sem,qa,qb,qc,qd,qe,qf,reduceCtorEq,Qy,hn0,lp,List.length_map,hb]
end Go.Vm
namespace Go.Vm
theorem Zv {k:Int} {s:Str} {n:Int} (hk:inI k) (hs:s.length≤Lm) (hn:inI n):WT (.mk k s n []):=qal hk hs hn (Nat.zero_le _) (fun t h=>by cases h)
theorem qeR:inI 0:=by unfold inI;omega
theorem qec: ∀ (ks:List Tm) (r:Tm),(∀ t ∈ ks,WT t)→WT r→WT (zA ks r)
 |[],r,_,h=>h
 |t::ks,r,h,hr=>by
  refine qal (by unfold inI;omega) (by simp [Lm]) qeR (by simp [Lm]) fun u hu=> ?_
  simp only [List.mem_cons,List.not_mem_nil,or_false]at hu
  rcases hu with rfl|rfl
  ·exact h _ List.mem_cons_self
  ·exact qec ks r (fun v hv=>h v (List.mem_cons_of_mem _ hv)) hr
theorem qmf {s:Str} {t y:Tm} (hs:s.length≤3000) (ht:WT t) (hy:WT y):WT (.mk 4 s 0 [t,y]):=
 qal (by unfold inI;omega) (by unfold Lm;omega) qeR (by simp [Lm]) fun u hu=>by
  simp only [List.mem_cons,List.not_mem_nil,or_false]at hu
  rcases hu with rfl|rfl<;>assumption
theorem qmg {nm:List Str} {s:Str} (h:nm.length≤2^30):WT (xX nm s).1:=by
 unfold xX
 split
 ·rename_i hm
  have:=(qaH s nm 0).1 hm.1
  exact Zv (by unfold inI;omega) (by simp [Lm]) (by unfold inI;omega)
 ·exact Zv (by unfold inI;omega) (by simp [Lm]) (by unfold inI;omega)
theorem qjW(l:List Sg) (hg:GoodL l): ∀ n:Nat,
 (∀ i nm d most t i' nm',nm.length≤i→i≤l.length→pT l n i nm d most=some (t,i',nm')→WT t)∧
 (∀ i nm d most t q t' i' nm',nm.length≤i→i≤l.length→WT t→pL l n i nm d most t q=some (t',i',nm')→WT t')∧
 (∀ i nm d most t q i' nm',nm.length≤i→i≤l.length→pP l n i nm d most=some (t,q,i',nm')→WT t)∧
 (∀ i nm d ks i' nm',nm.length≤i→i≤l.length→pA l n i nm d=some (ks,i',nm')→ ∀ t ∈ ks,WT t)∧
 (∀ i nm d acc ks i' nm',nm.length≤i→i≤l.length→(∀ t ∈ acc,WT t)→pB l n i nm d acc=some (ks,i',nm')→ ∀ t ∈ ks,WT t):=by
 have hlen:=hg.len
 have h0:inI 0:=qeR
 intro n
 induction n with
 |zero=>refine ⟨?_, ?_, ?_, ?_, ?_⟩<;>intros<;>simp_all [pT,pL,pP,pA,pB]
 |succ n ih=>
  obtain ⟨hT,hL,hP,hA,hB⟩:=ih
  have ad:=zY l n
  have nl:=y6 l n
  refine ⟨?_, ?_, ?_, ?_, ?_⟩
  ·intro i nm d most t i' nm' hn hi h
   simp only [pT]at h
   split at h
   ·cases h
   split at h
   ·cases h
   ·rename_i t1 q1 i1 nm1 h1
    have a:=ad.2.2.1 _ _ _ _ _ _ _ _ h1
    have b:=nl.2.2.1 _ _ _ _ _ _ _ _ h1
    exact hL _ _ _ _ _ _ _ _ _ (by omega) a.2 (hP _ _ _ _ _ _ _ _ hn hi h1) h
  ·intro i nm d most t q t' i' nm' hn hi ht h
   simp only [pL]at h
   split at h
   ·rename_i hgo
    have:=qcj hgo
    split at h
    ·cases h
    ·rename_i y i1 nm1 h1
     have a:=ad.1 _ _ _ _ _ _ _ h1
     have b:=nl.1 _ _ _ _ _ _ _ h1
     exact hL _ _ _ _ _ _ _ _ _ (by omega) a.2 (qmf (hg.text i) ht (hT _ _ _ _ _ _ _ (by omega) (by omega) h1)) h
   ·cases h;exact ht
  ·intro i nm d most t q i' nm' hn hi h
   have tx:=hg.text i
   simp only [pP]at h
   split at h
   ·rename_i hk
    have h40:=zn (hg.near i hk.2)
    split at h
    ·cases h
    ·rename_i ks i1 nm1 h1
     split at h
     ·rename_i hm
      cases h
      exact qal (by unfold inI;omega) (by unfold Lm;omega) h0 (by unfold Lm;omega) (hA _ _ _ _ _ _ (by omega) (by omega) h1)
     ·cases h
   split at h
   ·rename_i hk
    have:=zn hk
    split at h
    ·have:=hg.text (i+1)
     cases h
     exact Zv (by unfold inI;omega) (by unfold Lm;omega) h0
    ·split at h
     ·cases h
     ·rename_i t1 i1 nm1 h1
      split at h
      ·cases h
       exact hT _ _ _ _ _ _ _ (by omega) (by omega) h1
      ·cases h
   split at h
   ·rename_i hk
    have:=zn hk
    split at h
    ·cases h
     exact Zv (by unfold inI;omega) (by simp [Lm]) h0
    ·split at h
     ·cases h
     ·rename_i ks i1 nm1 h1
      have a:=ad.2.2.2.1 _ _ _ _ _ _ h1
      have b:=nl.2.2.2.1 _ _ _ _ _ _ h1
      have hks:=hA _ _ _ _ _ _ (by omega) (by omega) h1
      split at h
      ·rename_i hb
       have:=zn hb
       split at h
       ·cases h
       ·rename_i r i2 nm2 h2
        split at h
        ·cases h
         exact qec _ _ hks (hT _ _ _ _ _ _ _ (by omega) (by omega) h2)
        ·cases h
      ·split at h
       ·cases h
        exact qec _ _ hks (Zv (by unfold inI;omega) (by simp [Lm]) h0)
       ·cases h
   split at h
   ·cases h
    have:=hg.num i
    exact Zv (by unfold inI;omega) (by simp [Lm]) (by unfold inI;omega)
   split at h
   ·cases h
    exact qmg (by omega)
   split at h
   ·cases h
    have:=hg.num (i+1)
    exact Zv (by unfold inI;omega) (by simp [Lm]) (by unfold inI;omega)
   split at h
   ·rename_i hk
    have hlt:i < l.length:=yx (by rw [hk.1];decide)
    split at h
    ·cases h
    ·rename_i x i1 nm1 h1
     cases h
     refine qal (by unfold inI;omega) (by unfold Lm;omega) h0 (by simp [Lm]) fun u hu=> ?_
     simp only [List.mem_cons,List.not_mem_nil,or_false]at hu
     subst hu
     exact hT _ _ _ _ _ _ _ (by omega) (by omega) h1
   split at h
   ·cases h
    exact Zv (by unfold inI;omega) (by unfold Lm;omega) h0
   ·cases h
  ·intro i nm d ks i' nm' hn hi h
   simp only [pA]at h
   split at h
   ·cases h
   ·rename_i t i1 nm1 h1
    have a:=ad.1 _ _ _ _ _ _ _ h1
    have b:=nl.1 _ _ _ _ _ _ _ h1
    exact hB _ _ _ _ _ _ _ (by omega) a.2 (fun u hu=>by
     simp only [List.mem_cons,List.not_mem_nil,or_false]at hu
     subst hu
     exact hT _ _ _ _ _ _ _ hn hi h1) h
  ·intro i nm d acc ks i' nm' hn hi hacc h
   simp only [pB]at h
   split at h
   ·rename_i hm
    have:=zn hm
    split at h
    ·cases h
    ·rename_i t i1 nm1 h1
     have a:=ad.1 _ _ _ _ _ _ _ h1
     have b:=nl.1 _ _ _ _ _ _ _ h1
     exact hB _ _ _ _ _ _ _ (by omega) a.2 (fun u hu=>by
      rcases List.mem_append.1 hu with hu|hu
      ·exact hacc u hu
      ·simp only [List.mem_cons,List.not_mem_nil,or_false]at hu
       subst hu
       exact hT _ _ _ _ _ _ _ (by omega) (by omega) h1) h
   ·cases h;exact hacc
end Go.Vm
namespace Go.Vm
theorem qnr(l:List Sg) (τ:Bool) (hg:GoodL l) (k:Nat) (hk:k < l.length) (t:Tm) (i':Nat) (hi:i'≤l.length) (nm':List Str) (hw:WT t)
 (hp:cw qg ye [.b (.a [.i τ (l.map Sg.v),I k,.o 1 (List.map S ([]:List Str)),I ((0:Nat)),B false]),I 1200]=some (oT t,[.b (.a [.i τ (l.map Sg.v),I i',.o 1 (List.map S nm'),I ((0:Nat)),B false]),I 1200]))
 (h5:(sgD l i').kind=5) (hok:ku t=true):
 cr qg Ze [.i τ (l.map Sg.v),I k]=some (.t [oT t,.o 1 (nm'.map S),I ((i'+1:Nat):Int),B true]):=by
 have hlen:=hg.len
 have e1:w64 ((l.length:Int) - 1)=(l.length:Int) - 1:=by rw [qj]<;>omega
 have wi:=jp k 0 ((l.length:Int) - 1)
 rw [decide_eq_true ⟨by omega,by omega⟩]at wi
 have sg:=zF l τ hlen i' 0 (by omega) (by decide) (.i true (nm'.map S)) (0:Nat) false
 simp only [Nat.add_zero,Int.natCast_zero]at sg
 rw [Sg.v,h5]at sg
 have e2:w64 ((i':Int)+1)=((i'+1:Nat):Int):=by rw [qj]<;>omega
 have ok:=qig t hw (iT true t) (Zd true t)
 rw [hok]at ok
 rw [yt]at ok
 simp only [List.map_nil,Int.natCast_zero]at hp
 have tk: ∀ x:Tm,(x.kids.map oT).take x.kids.length=x.kids.map oT:=fun x=>List.take_of_length_le (by simp)
 have tk2:(nm'.map S).take nm'.length=nm'.map S:=List.take_of_length_le (by simp)
 rw [qp]at hp
 rw [qv qaT rfl,qp]
 simp only [go_sem,qa,qb,qc,qd,qe,qf,reduceCtorEq,xY,List.length_map,e1,wi,hp,sg,e2,ok,tk,tk2]
theorem qhL(l:List Sg) (τ:Bool) (hl:l.length≤3000): ∀ (r:List Sg) (k:Nat),l.drop k=r→k+r.length=l.length→
 lw qg Yp ⟨[(0,.i τ (l.map Sg.v)),(4,.p (100000,0) 0 0),(10,I k)],[((100000,0),4,[.a [I 0,S [],I 0,.s (100000,1) 0 0]]),((100000,1),4,[])]⟩=(if ∃ x ∈ r,x.kind=5 then some (.ret,⟨[(4,.p (100000,0) 0 0),(5,.n 1),(6,I (bhd r k:Nat)),(7,B false)],[((100000,0),4,[.a [I 0,S [],I 0,.n 4]]),((100000,1),4,[])]⟩)else some (.exit 0,⟨[(0,.i τ (l.map Sg.v)),(4,.p (100000,0) 0 0)],[((100000,0),4,[.a [I 0,S [],I 0,.s (100000,1) 0 0]]),((100000,1),4,[])]⟩))
 |[],k,h,hk=>by
  have h1: ¬ (k:Int) < (l.length:Int):=by simp only [List.length_nil]at hk;omega
  rw [if_neg (by simp),qn]
  simp only [go_sem,qa,qb,qc,qd,qe,qf,reduceCtorEq,XR,List.length_map,h1]
 |x::r,k,h,hk=>by
  simp only [List.length_cons]at hk
  have hx:l[k]? =some x:=by
   have:=congrArg (fun z=>z[0]?) h
   simpa using this
  have hd:l.drop (k+1)=r:=by
   have:=congrArg (fun z=>z.drop 1) h
   simpa [List.drop_drop,Nat.add_comm]using this
  have h1:(k:Int) < (l.length:Int):=by omega
  have e1:w64 ((k:Int)+1)=((k+1:Nat):Int):=by rw [qj]<;>omega
  have e2:w64 (((k+1:Nat):Int) - 1)=(k:Int):=by rw [qj]<;>omega
  have g:=q7 (f:=Sg.v) hx
  have a1:=fun T=>q8 (τ:=τ) (T:=T) (e:=5) g rfl
  rw [Sg.v]at g
  by_cases h5:x.kind=5
  ·have d5:decide (x.kind=5)=true:=decide_eq_true h5
   rw [if_pos ⟨x,List.mem_cons_self,h5⟩]
   simp only [bhd,if_pos h5]
   rw [qn]
   simp only [go_sem,qa,qb,qc,qd,qe,qf,reduceCtorEq,XR,List.length_map,h1,e1,e2,g,a1,d5]
  ·have d5:decide (x.kind=5)=false:=decide_eq_false h5
   have ih:=qhL l τ hl r (k+1) hd (by omega)
   have ex:(∃ y ∈ x::r,y.kind=5)↔(∃ y ∈ r,y.kind=5):=by
    simp only [List.mem_cons,exists_eq_or_imp,h5,false_or]
   simp only [bhd,if_neg h5,ex]
   rw [← ih,qn]
   simp only [go_sem,qa,qb,qc,qd,qe,qf,reduceCtorEq,XR,List.length_map,h1,e1,e2,g,a1,d5]
theorem qch(l:List Sg) (τ:Bool) (hl:l.length≤3000) (n:Int) (k:Nat) (hk:(max n 0).toNat=k):
 lw qg Yp ⟨[(0,.i τ (l.map Sg.v)),(4,.p (100000,0) 0 0),(10,I k)],[((100000,0),4,[.a [I 0,S [],I 0,.s (100000,1) 0 0]]),((100000,1),4,[])]⟩=some (.ret,⟨[(4,.p (100000,0) 0 0),(5,.n 1),(6,I (yA l n:Nat)),(7,B false)],[((100000,0),4,[.a [I 0,S [],I 0,.n 4]]),((100000,1),4,[])]⟩)∨(yA l n=l.length∧lw qg Yp ⟨[(0,.i τ (l.map Sg.v)),(4,.p (100000,0) 0 0),(10,I k)],[((100000,0),4,[.a [I 0,S [],I 0,.s (100000,1) 0 0]]),((100000,1),4,[])]⟩=some (.exit 0,⟨[(0,.i τ (l.map Sg.v)),(4,.p (100000,0) 0 0)],[((100000,0),4,[.a [I 0,S [],I 0,.s (100000,1) 0 0]]),((100000,1),4,[])]⟩)):=by
 unfold yA
 rw [hk]
 by_cases h:k < l.length
 ·have lp:=qhL l τ hl (l.drop k) k rfl (by rw [List.length_drop];omega)
  rw [if_pos h]
  by_cases hx: ∃ x ∈ l.drop k,x.kind=5
  ·rw [if_pos hx]at lp;exact .inl lp
  ·rw [if_neg hx]at lp
   refine .inr ⟨?_,lp⟩
   rw [qej _ _ hx,List.length_drop];omega
 ·rw [if_neg h]
  refine .inr ⟨rfl, ?_⟩
  have h1: ¬ (k:Int) < (l.length:Int):=by omega
  rw [qn]
  simp only [go_sem,qa,qb,qc,qd,qe,qf,reduceCtorEq,XR,List.length_map,h1]
theorem qnu(l:List Sg) (τ:Bool) (hg:GoodL l) (n:Int) (hn:n≤2^40) (ho: ¬ (0≤n∧n≤(l.length:Int) - 1)):
 cr qg Ze [.i τ (l.map Sg.v),I n]=some (.t [oT (.mk 0 [] 0 []),.o 1 [],I (yA l n:Nat),B false]):=by
 have hlen:=hg.len
 have e1:w64 ((l.length:Int) - 1)=(l.length:Int) - 1:=by rw [qj]<;>omega
 have wi:=jp n 0 ((l.length:Int) - 1)
 rw [decide_eq_false ho]at wi
 have hm:(if 0 > n then (0:Int)else n)=((max n 0).toNat:Int):=by split<;>omega
 rw [qv qaT rfl,qK]
 rcases qch l τ hlen n _ rfl with lp|⟨hb,lp⟩
 ·simp only [go_sem,qa,qb,qc,qd,qe,qf,reduceCtorEq,xY,List.length_map,e1,wi,hm,lp]
 ·simp only [go_sem,qa,qb,qc,qd,qe,qf,reduceCtorEq,xY,List.length_map,e1,wi,hm,lp,hb]
theorem qnq(l:List Sg) (τ:Bool) (hg:GoodL l) (k:Nat) (hk:k < l.length) (g:Tm) (a:Nat) (nm':List Str) (d':Int)
 (hp:cw qg ye [.b (.a [.i τ (l.map Sg.v),I k,.o 1 (List.map S ([]:List Str)),I ((0:Nat)),B false]),I 1200]=some (oT g,[.b (.a [.i τ (l.map Sg.v),I a,.o 1 (List.map S nm'),I (d'),B true]),I 1200])):
 cr qg Ze [.i τ (l.map Sg.v),I k]=some (.t [oT (.mk 0 [] 0 []),.o 1 [],I (yA l k:Nat),B false]):=by
 have hlen:=hg.len
 have e1:w64 ((l.length:Int) - 1)=(l.length:Int) - 1:=by rw [qj]<;>omega
 have wi:=jp k 0 ((l.length:Int) - 1)
 rw [decide_eq_true ⟨by omega,by omega⟩]at wi
 have hm:(if 0 > (k:Int)then (0:Int)else (k:Int))=(k:Int):=by rw [if_neg (by omega)]
 simp only [List.map_nil,Int.natCast_zero]at hp
 have tk: ∀ x:Tm,(x.kids.map oT).take x.kids.length=x.kids.map oT:=fun x=>List.take_of_length_le (by simp)
 rw [qv qaT rfl,qK]
 rw [qp]at hp
 rcases qch l τ hlen k k (by omega)with lp|⟨hb,lp⟩
 ·simp only [go_sem,qa,qb,qc,qd,qe,qf,reduceCtorEq,xY,List.length_map,e1,wi,hm,hp,tk,lp]
 ·simp only [go_sem,qa,qb,qc,qd,qe,qf,reduceCtorEq,xY,List.length_map,e1,wi,hm,hp,tk,lp,hb]
theorem qns(l:List Sg) (τ:Bool) (hg:GoodL l) (k:Nat) (hk:k < l.length) (t:Tm) (i':Nat) (hi:i'≤l.length) (nm':List Str) (hw:WT t)
 (hp:cw qg ye [.b (.a [.i τ (l.map Sg.v),I k,.o 1 (List.map S ([]:List Str)),I ((0:Nat)),B false]),I 1200]=some (oT t,[.b (.a [.i τ (l.map Sg.v),I i',.o 1 (List.map S nm'),I ((0:Nat)),B false]),I 1200])) (h5:(sgD l i').kind ≠ 5):
 cr qg Ze [.i τ (l.map Sg.v),I k]=some (.t [oT (.mk 0 [] 0 []),.o 1 [],I (yA l k:Nat),B false]):=by
 have hlen:=hg.len
 have e1:w64 ((l.length:Int) - 1)=(l.length:Int) - 1:=by rw [qj]<;>omega
 have wi:=jp k 0 ((l.length:Int) - 1)
 rw [decide_eq_true ⟨by omega,by omega⟩]at wi
 have hm:(if 0 > (k:Int)then (0:Int)else (k:Int))=(k:Int):=by rw [if_neg (by omega)]
 simp only [List.map_nil,Int.natCast_zero]at hp
 have tk: ∀ x:Tm,(x.kids.map oT).take x.kids.length=x.kids.map oT:=fun x=>List.take_of_length_le (by simp)
 have sg:=zF l τ hlen i' 0 (by omega) (by decide) (.i true (nm'.map S)) (0:Nat) false
 simp only [Nat.add_zero,Int.natCast_zero]at sg
 rw [Sg.v]at sg
 have d5:decide ((sgD l i').kind=5)=false:=decide_eq_false h5
 rw [qv qaT rfl,qK]
 rw [qp]at hp
 rcases qch l τ hlen k k (by omega)with lp|⟨hb,lp⟩
 ·simp only [go_sem,qa,qb,qc,qd,qe,qf,reduceCtorEq,xY,List.length_map,e1,wi,hm,hp,tk,lp,sg,d5]
 ·simp only [go_sem,qa,qb,qc,qd,qe,qf,reduceCtorEq,xY,List.length_map,e1,wi,hm,hp,tk,lp,hb,sg,d5]
theorem qnt(l:List Sg) (τ:Bool) (hg:GoodL l) (k:Nat) (hk:k < l.length) (t:Tm) (i':Nat) (hi:i'≤l.length) (nm':List Str) (hw:WT t)
 (hp:cw qg ye [.b (.a [.i τ (l.map Sg.v),I k,.o 1 (List.map S ([]:List Str)),I ((0:Nat)),B false]),I 1200]=some (oT t,[.b (.a [.i τ (l.map Sg.v),I i',.o 1 (List.map S nm'),I ((0:Nat)),B false]),I 1200])) (h5:(sgD l i').kind=5) (hok:ku t=false):
 cr qg Ze [.i τ (l.map Sg.v),I k]=some (.t [oT (.mk 0 [] 0 []),.o 1 [],I (yA l k:Nat),B false]):=by
 have hlen:=hg.len
 have e1:w64 ((l.length:Int) - 1)=(l.length:Int) - 1:=by rw [qj]<;>omega
 have wi:=jp k 0 ((l.length:Int) - 1)
 rw [decide_eq_true ⟨by omega,by omega⟩]at wi
 have hm:(if 0 > (k:Int)then (0:Int)else (k:Int))=(k:Int):=by rw [if_neg (by omega)]
 simp only [List.map_nil,Int.natCast_zero]at hp
 have tk: ∀ x:Tm,(x.kids.map oT).take x.kids.length=x.kids.map oT:=fun x=>List.take_of_length_le (by simp)
 have sg:=zF l τ hlen i' 0 (by omega) (by decide) (.i true (nm'.map S)) (0:Nat) false
 simp only [Nat.add_zero,Int.natCast_zero]at sg
 rw [Sg.v]at sg
 rw [h5]at sg
 have ok:=qig t hw (iT true t) (Zd true t)
 rw [hok]at ok
 rw [yt]at ok
 rw [qv qaT rfl,qK]
 rw [qp]at hp
 rcases qch l τ hlen k k (by omega)with lp|⟨hb,lp⟩
 ·simp only [go_sem,qa,qb,qc,qd,qe,qf,reduceCtorEq,xY,List.length_map,e1,wi,hm,hp,tk,lp,sg,ok]
 ·simp only [go_sem,qa,qb,qc,qd,qe,qf,reduceCtorEq,xY,List.length_map,e1,wi,hm,hp,tk,lp,hb,sg,ok]
def rV(r:Tm × List Str × Nat × Bool):V:= .t [oT r.1,.o 1 (r.2.1.map S),I (r.2.2.1:Nat),B r.2.2.2]
theorem qnh(l:List Sg) (τ:Bool) (hg:GoodL l) (n:Int) (hn:n≤2^40):
 cr qg Ze [.i τ (l.map Sg.v),I n]=some (rV (zZ l n)):=by
 have hlen:=hg.len
 unfold zZ
 by_cases ho:0≤n∧n≤(l.length:Int) - 1
 ·rw [if_pos ho]
  obtain ⟨k,rfl⟩: ∃ k:Nat,n=k:=⟨n.toNat,by omega⟩
  have hk:k < l.length:=by omega
  obtain ⟨h1,h2⟩:=qnw l τ hg k (by omega)
  simp only [Int.toNat_natCast]
  cases hp:pT l 20000 k [] 0 1200 with
  |none=>
   obtain ⟨g,cs,⟨a,nm,d,ha,rfl⟩,hc⟩:=h2 hp
   exact qnq l τ hg k hk g a nm d hc
  |some r=>
   obtain ⟨t,i',nm'⟩:=r
   have hc:=h1 _ _ _ hp
   have adv:=(zY l 20000).1 _ _ _ _ _ _ _ hp
   have hw:=(qjW l hg 20000).1 _ _ _ _ _ _ _ (by simp) (by omega) hp
   simp only
   by_cases h5:(sgD l i').kind=5
   ·cases hok:ku t with
    |true=>
     rw [if_pos ⟨h5,rfl⟩]
     exact qnr l τ hg k hk t i' adv.2 nm' hw hc h5 hok
    |false=>
     rw [if_neg (fun h=>by cases h.2)]
     exact qnt l τ hg k hk t i' adv.2 nm' hw hc h5 hok
   ·rw [if_neg (fun h=>h5 h.1)]
    exact qns l τ hg k hk t i' adv.2 nm' hw hc h5
 ·rw [if_neg ho]
  exact qnu l τ hg n hn ho
end Go.Vm
namespace Go.Vm
theorem qul(l:List Sg) (τ:Bool) (hg:GoodL l) (n:Int) (hn:n≤2^40) (ho: ¬ (0≤n∧n≤(l.length:Int) - 1)):
 cr qg Zh [.i τ (l.map Sg.v),I n]=some (.t [oT (.mk 0 [] 0 []),.o 1 [],I (yA l n:Nat),B false]):=by
 have hlen:=hg.len
 have bh:=qbd l τ hlen n hn
 have e1:w64 ((l.length:Int) - 1)=(l.length:Int) - 1:=by rw [qj]<;>omega
 have wi:=QO n 0 ((l.length:Int) - 1)
 rw [decide_eq_false ho]at wi
 rw [qv qaV rfl,qK]
 simp only [go_sem,qa,qb,qc,qd,qe,qf,reduceCtorEq,jR,List.length_map,bh,e1,wi]
theorem quh(l:List Sg) (τ:Bool) (hg:GoodL l) (k:Nat) (hk:k < l.length) (g:Tm) (a:Nat) (ha:a≤2^30) (nm':List Str) (d':Int)
 (hp:cw qg zP [.b (.a [.i τ (l.map Sg.v),I k,B false,I ((0:Nat)),.o 1 (List.map S ([]:List Str))]),I 1200]=some (oT g,[.b (.a [.i τ (l.map Sg.v),I a,B true,I (d'),.o 1 (List.map S nm')]),I 1200])):
 cr qg Zh [.i τ (l.map Sg.v),I k]=some (.t [oT (.mk 0 [] 0 []),.o 1 [],I (yA l k:Nat),B false]):=by
 have hlen:=hg.len
 have bh:=qbd l τ hlen k (by omega)
 have e1:w64 ((l.length:Int) - 1)=(l.length:Int) - 1:=by rw [qj]<;>omega
 have wi:=QO k 0 ((l.length:Int) - 1)
 rw [decide_eq_true ⟨by omega,by omega⟩]at wi
 simp only [List.map_nil,Int.natCast_zero]at hp
 have tk: ∀ x:Tm,(x.kids.map oT).take x.kids.length=x.kids.map oT:=fun x=>List.take_of_length_le (by simp)
 rw [qp]at hp
 have i5:=zC l τ hlen a (by omega) (.i true (nm'.map S)) d' true 5 []
 rw [qv qaV rfl,qK]
 simp only [go_sem,qa,qb,qc,qd,qe,qf,reduceCtorEq,jR,List.length_map,bh,e1,wi,hp,tk,i5,Bool.not_true,Bool.false_and]
theorem quj(l:List Sg) (τ:Bool) (hg:GoodL l) (k:Nat) (hk:k < l.length) (t:Tm) (i':Nat) (hi:i'≤l.length) (nm':List Str) (hw:WT t)
 (hp:cw qg zP [.b (.a [.i τ (l.map Sg.v),I k,B false,I ((0:Nat)),.o 1 (List.map S ([]:List Str))]),I 1200]=some (oT t,[.b (.a [.i τ (l.map Sg.v),I i',B false,I ((0:Nat)),.o 1 (List.map S nm')]),I 1200])) (h5:(sgD l i').kind ≠ 5):
 cr qg Zh [.i τ (l.map Sg.v),I k]=some (.t [oT (.mk 0 [] 0 []),.o 1 [],I (yA l k:Nat),B false]):=by
 have hlen:=hg.len
 have bh:=qbd l τ hlen k (by omega)
 have e1:w64 ((l.length:Int) - 1)=(l.length:Int) - 1:=by rw [qj]<;>omega
 have wi:=QO k 0 ((l.length:Int) - 1)
 rw [decide_eq_true ⟨by omega,by omega⟩]at wi
 simp only [List.map_nil,Int.natCast_zero]at hp
 have tk: ∀ x:Tm,(x.kids.map oT).take x.kids.length=x.kids.map oT:=fun x=>List.take_of_length_le (by simp)
 rw [qp]at hp
 have i5:=zC l τ hlen i' (by omega) (.i true (nm'.map S)) (0:Nat) false 5 []
 rw [zW l i' 5 (by decide)]at i5
 simp only [Int.natCast_zero]at i5
 rw [decide_eq_false h5]at i5
 rw [qv qaV rfl,qK]
 simp only [go_sem,qa,qb,qc,qd,qe,qf,reduceCtorEq,jR,List.length_map,bh,e1,wi,hp,tk,i5,Bool.not_false,Bool.true_and]
theorem quk(l:List Sg) (τ:Bool) (hg:GoodL l) (k:Nat) (hk:k < l.length) (t:Tm) (i':Nat) (hi:i'≤l.length) (nm':List Str) (hw:WT t)
 (hp:cw qg zP [.b (.a [.i τ (l.map Sg.v),I k,B false,I ((0:Nat)),.o 1 (List.map S ([]:List Str))]),I 1200]=some (oT t,[.b (.a [.i τ (l.map Sg.v),I i',B false,I ((0:Nat)),.o 1 (List.map S nm')]),I 1200])) (h5:(sgD l i').kind=5) (hok:ku t=false):
 cr qg Zh [.i τ (l.map Sg.v),I k]=some (.t [oT (.mk 0 [] 0 []),.o 1 [],I (yA l k:Nat),B false]):=by
 have hlen:=hg.len
 have bh:=qbd l τ hlen k (by omega)
 have e1:w64 ((l.length:Int) - 1)=(l.length:Int) - 1:=by rw [qj]<;>omega
 have wi:=QO k 0 ((l.length:Int) - 1)
 rw [decide_eq_true ⟨by omega,by omega⟩]at wi
 simp only [List.map_nil,Int.natCast_zero]at hp
 have tk: ∀ x:Tm,(x.kids.map oT).take x.kids.length=x.kids.map oT:=fun x=>List.take_of_length_le (by simp)
 rw [qp]at hp
 have i5:=zC l τ hlen i' (by omega) (.i true (nm'.map S)) (0:Nat) false 5 []
 rw [zW l i' 5 (by decide)]at i5
 simp only [Int.natCast_zero]at i5
 rw [decide_eq_true h5]at i5
 have ok:=qlo t hw (iT true t) (Zd true t)
 rw [hok]at ok
 rw [yt]at ok
 rw [qv qaV rfl,qK]
 simp only [go_sem,qa,qb,qc,qd,qe,qf,reduceCtorEq,jR,List.length_map,bh,e1,wi,hp,tk,i5,ok,Bool.not_false,Bool.true_and]
theorem qui(l:List Sg) (τ:Bool) (hg:GoodL l) (k:Nat) (hk:k < l.length) (t:Tm) (i':Nat) (hi:i'≤l.length) (nm':List Str) (hw:WT t)
 (hp:cw qg zP [.b (.a [.i τ (l.map Sg.v),I k,B false,I ((0:Nat)),.o 1 (List.map S ([]:List Str))]),I 1200]=some (oT t,[.b (.a [.i τ (l.map Sg.v),I i',B false,I ((0:Nat)),.o 1 (List.map S nm')]),I 1200])) (hn:nm'.length≤2^30) (h5:(sgD l i').kind=5) (hok:ku t=true):
 cr qg Zh [.i τ (l.map Sg.v),I k]=some (.t [oT t,.o 1 (nm'.map S),I ((i'+1:Nat):Int),B true]):=by
 have hlen:=hg.len
 have bh:=qbd l τ hlen k (by omega)
 have e1:w64 ((l.length:Int) - 1)=(l.length:Int) - 1:=by rw [qj]<;>omega
 have wi:=QO k 0 ((l.length:Int) - 1)
 rw [decide_eq_true ⟨by omega,by omega⟩]at wi
 simp only [List.map_nil,Int.natCast_zero]at hp
 have tk: ∀ x:Tm,(x.kids.map oT).take x.kids.length=x.kids.map oT:=fun x=>List.take_of_length_le (by simp)
 rw [qp]at hp
 have i5:=zC l τ hlen i' (by omega) (.i true (nm'.map S)) (0:Nat) false 5 []
 rw [zW l i' 5 (by decide)]at i5
 simp only [Int.natCast_zero]at i5
 rw [decide_eq_true h5]at i5
 have ok:=qlo t hw (iT true t) (Zd true t)
 rw [hok]at ok
 rw [yt]at ok
 have e2:w64 ((i':Int)+1)=((i'+1:Nat):Int):=by rw [qj]<;>omega
 have z1:yc (nm'.map S)=true:=qbh (f:=S) (fun _=>rfl) nm'
 have z2:kU 1 (nm'.map S)=true:=qao (f:=S) (fun _=>⟨rfl,rfl⟩) nm'
 have l1:decide (nm'.length*16≤lim)=true:=decide_eq_true (by rw [qW];omega)
 have l2:decide (nm'.length≤lim)=true:=decide_eq_true (by rw [qW];omega)
 have tk2:(nm'.map S).take nm'.length=nm'.map S:=List.take_of_length_le (by simp)
 rw [qv qaV rfl,qp]
 simp only [go_sem,qa,qb,qc,qd,qe,qf,reduceCtorEq,jR,List.length_map,bh,e1,wi,hp,tk,i5,ok,e2,l1,l2,z1,z2,tk2,Bool.not_false,Bool.true_and,Nat.zero_add,List.nil_append,List.length_nil]
theorem qua(l:List Sg) (τ:Bool) (hg:GoodL l) (n:Int) (hn:n≤2^40):
 cr qg Zh [.i τ (l.map Sg.v),I n]=some (rV (zZ l n)):=by
 have hlen:=hg.len
 unfold zZ
 by_cases ho:0≤n∧n≤(l.length:Int) - 1
 ·rw [if_pos ho]
  obtain ⟨k,rfl⟩: ∃ k:Nat,n=k:=⟨n.toNat,by omega⟩
  have hk:k < l.length:=by omega
  obtain ⟨h1,h2⟩:=qum l τ hg k (by omega)
  simp only [Int.toNat_natCast]
  cases hp:pT l 20000 k [] 0 1200 with
  |none=>
   obtain ⟨g,cs,⟨a,nm,d,ha,rfl⟩,hc⟩:=h2 hp
   exact quh l τ hg k hk g a (by omega) nm d hc
  |some r=>
   obtain ⟨t,i',nm'⟩:=r
   have hc:=h1 _ _ _ hp
   have adv:=(zY l 20000).1 _ _ _ _ _ _ _ hp
   have nl:=(y6 l 20000).1 _ _ _ _ _ _ _ hp
   simp only [List.length_nil]at nl
   have hw:=(qjW l hg 20000).1 _ _ _ _ _ _ _ (by simp) (by omega) hp
   simp only
   by_cases h5:(sgD l i').kind=5
   ·cases hok:ku t with
    |true=>
     rw [if_pos ⟨h5,rfl⟩]
     exact qui l τ hg k hk t i' adv.2 nm' hw hc (by omega) h5 hok
    |false=>
     rw [if_neg (fun h=>by cases h.2)]
     exact quk l τ hg k hk t i' adv.2 nm' hw hc h5 hok
   ·rw [if_neg (fun h=>h5 h.1)]
    exact quj l τ hg k hk t i' adv.2 nm' hw hc h5
 ·rw [if_neg ho]
  exact qul l τ hg n hn ho
end Go.Vm
namespace Go.Vm
theorem qfE(l:List Sg) (k:Nat) (hk:k < l.length):k < (zZ l k).2.2.1∧(zZ l k).2.2.1≤l.length+1:=by
 have hb:k < yA l k∧yA l k≤l.length:=by
  unfold yA
  have h0:(max (k:Int) 0).toNat=k:=by omega
  rw [h0,if_pos hk]
  cases hd:l.drop k with
  |nil=>have:=congrArg List.length hd;rw [List.length_drop,List.length_nil]at this;omega
  |cons x r=>
   have hl:=congrArg List.length hd
   rw [List.length_drop,List.length_cons]at hl
   have:=qg3 r (k+1)
   simp only [bhd]
   split<;>omega
 unfold zZ
 split
 ·split
  ·rename_i t i' nm' hp
   have adv:=(zY l 20000).1 _ _ _ _ _ _ _ hp
   simp only [Int.toNat_natCast]at adv
   split
   ·simp only;omega
   ·simp only;omega
  ·simp only;omega
 ·simp only;omega
def yL(l:List Sg):Nat→Nat→List Tm→Nat→List Tm × Nat
 |0,_,ts,b=>(ts,b)
 |n+1,k,ts,b=>if k < l.length then
  if (zZ l k).2.2.2=true then yL l n (zZ l k).2.2.1 (ts++[(zZ l k).1]) b else yL l n (zZ l k).2.2.1 ts (b+1)
  else (ts,b)
theorem qck(l:List Sg) (hg:GoodL l): ∀ (n k:Nat) (ts:List Tm) (b:Nat),l.length+2≤k+n→ts.length≤k→b≤k→k≤l.length+1→
 lw qg JA ⟨[(4,.s (100000,0) 0 l.length),(6,.s (100000,1) 0 ts.length),(7,I b),(8,I k)],[((100000,0),5,l.map Sg.v),((100000,1),4,ts.map oT)]⟩=some (.exit 0,⟨[(6,.s (100000,1) 0 (yL l n k ts b).1.length),(7,I ((yL l n k ts b).2:Nat))],[((100000,0),5,l.map Sg.v),((100000,1),4,(yL l n k ts b).1.map oT)]⟩)
 |0,k,ts,b,hn,ht,hb,hk=>by omega
 |n+1,k,ts,b,hn,ht,hb,hk=>by
  have hlen:=hg.len
  have tk3:(l.map Sg.v).take l.length=l.map Sg.v:=List.take_of_length_le (by simp)
  have tk2:(ts.map oT).take ts.length=ts.map oT:=List.take_of_length_le (by simp)
  by_cases h:k < l.length
  ·have h1:(k:Int) < (l.length:Int):=by omega
   have he:=qfE l k h
   have rd:=qnh l true hg k (by omega)
   unfold rV at rd
   have l1:decide ((ts.length+1)*56≤lim)=true:=decide_eq_true (by rw [qW];omega)
   have l2:decide (ts.length+1≤lim)=true:=decide_eq_true (by rw [qW];omega)
   have eb:w64 ((b:Int)+1)=((b+1:Nat):Int):=by rw [qj]<;>omega
   have rp:=fun k' ob (y:V) (ys:List V)=>kp k' ob (ts.map oT) (y::ys) (x6 _)
   have tk: ∀ x:Tm,(x.kids.map oT).take x.kids.length=x.kids.map oT:=fun x=>List.take_of_length_le (by simp)
   cases hok:(zZ l k).2.2.2 with
   |true=>
    have ih:=qck l hg n (zZ l k).2.2.1 (ts++[(zZ l k).1]) b (by omega) (by simp only [List.length_append,List.length_cons,List.length_nil];omega) (by omega) (by omega)
    simp only [yL,if_pos h,hok,if_true]
    rw [← ih]
    rw [hok,qp (zZ l k).1]at rd
    simp only [List.map_append,List.map_cons,List.map_nil,List.length_append,List.length_cons,List.length_nil,qp (zZ l k).1]
    rw [qn]
    simp only [go_sem,qa,qb,qc,qd,qe,qf,reduceCtorEq,JZ,List.length_map,h1,rd,l1,l2,rp,Option.map_some,yM,tk,tk2,tk3]
   |false=>
    have ih:=qck l hg n (zZ l k).2.2.1 ts (b+1) (by omega) (by omega) (by omega) (by omega)
    simp only [yL,if_pos h,hok,Bool.false_eq_true,if_false]
    rw [← ih]
    rw [hok,qp (zZ l k).1]at rd
    rw [qn]
    simp only [go_sem,qa,qb,qc,qd,qe,qf,reduceCtorEq,JZ,List.length_map,h1,rd,eb,tk,tk2,tk3]
  ·have h1: ¬ (k:Int) < (l.length:Int):=by omega
   simp only [yL,if_neg h]
   rw [qn]
   simp only [go_sem,qa,qb,qc,qd,qe,qf,reduceCtorEq,JZ,List.length_map,h1]
theorem qdi(l:List Sg) (hg:GoodL l): ∀ (n k:Nat) (ts:List Tm) (b:Nat),l.length+2≤k+n→ts.length≤k→b≤k→k≤l.length+1→
 lw qg JO ⟨[(4,.s (100000,0) 0 ts.length),(5,I b),(6,.s (100000,1) 0 l.length),(8,I k)],[((100000,0),4,ts.map oT),((100000,1),5,l.map Sg.v)]⟩=some (.exit 0,⟨[(4,.s (100000,0) 0 (yL l n k ts b).1.length),(5,I ((yL l n k ts b).2:Nat))],[((100000,0),4,(yL l n k ts b).1.map oT),((100000,1),5,l.map Sg.v)]⟩)
 |0,k,ts,b,hn,ht,hb,hk=>by omega
 |n+1,k,ts,b,hn,ht,hb,hk=>by
  have hlen:=hg.len
  have tk3:(l.map Sg.v).take l.length=l.map Sg.v:=List.take_of_length_le (by simp)
  have tk2:(ts.map oT).take ts.length=ts.map oT:=List.take_of_length_le (by simp)
  by_cases h:k < l.length
  ·have h1:(k:Int) < (l.length:Int):=by omega
   have he:=qfE l k h
   have rd:=qua l true hg k (by omega)
   unfold rV at rd
   have l1:decide ((ts.length+1)*56≤lim)=true:=decide_eq_true (by rw [qW];omega)
   have l2:decide (ts.length+1≤lim)=true:=decide_eq_true (by rw [qW];omega)
   have eb:w64 ((b:Int)+1)=((b+1:Nat):Int):=by rw [qj]<;>omega
   have rp:=fun k' ob (y:V) (ys:List V)=>kp k' ob (ts.map oT) (y::ys) (x6 _)
   have tk: ∀ x:Tm,(x.kids.map oT).take x.kids.length=x.kids.map oT:=fun x=>List.take_of_length_le (by simp)
   cases hok:(zZ l k).2.2.2 with
   |true=>
    have ih:=qdi l hg n (zZ l k).2.2.1 (ts++[(zZ l k).1]) b (by omega) (by simp only [List.length_append,List.length_cons,List.length_nil];omega) (by omega) (by omega)
    simp only [yL,if_pos h,hok,if_true]
    rw [← ih]
    rw [hok,qp (zZ l k).1]at rd
    simp only [List.map_append,List.map_cons,List.map_nil,List.length_append,List.length_cons,List.length_nil,qp (zZ l k).1]
    rw [qn]
    simp only [go_sem,qa,qb,qc,qd,qe,qf,reduceCtorEq,qad,List.length_map,h1,rd,l1,l2,rp,Option.map_some,yM,tk,tk2,tk3]
   |false=>
    have ih:=qdi l hg n (zZ l k).2.2.1 ts (b+1) (by omega) (by omega) (by omega) (by omega)
    simp only [yL,if_pos h,hok,Bool.false_eq_true,if_false]
    rw [← ih]
    rw [hok,qp (zZ l k).1]at rd
    rw [qn]
    simp only [go_sem,qa,qb,qc,qd,qe,qf,reduceCtorEq,qad,List.length_map,h1,rd,eb,tk,tk2,tk3]
  ·have h1: ¬ (k:Int) < (l.length:Int):=by omega
   simp only [yL,if_neg h]
   rw [qn]
   simp only [go_sem,qa,qb,qc,qd,qe,qf,reduceCtorEq,qad,List.length_map,h1]
theorem qeL {s:Str} (h:s.length≤3000):GoodL (xB s):=qnb h
def kT(s:Str):List Tm × Nat:=if s.length≤3000 then yL (xB s) ((xB s).length+2) 0 [] 0 else ([],0)
theorem qng(s:Str):cr qg qdE [S s]=some (.t [.o 4 ((kT s).1.map oT),I ((kT s).2:Nat)]):=by
 have sg:=qnj s
 unfold Ky at sg
 unfold kT
 rw [qv qq3 rfl]
 by_cases hl:s.length≤3000
 ·rw [if_pos hl]at sg
  rw [if_pos hl]
  have lp:=qck (xB s) (qeL hl) ((xB s).length+2) 0 [] 0 (by omega) (by simp) (by omega) (by omega)
  simp only [List.map_nil,List.length_nil,Int.natCast_zero]at lp
  have tk2: ∀ ts:List Tm,(ts.map oT).take ts.length=ts.map oT:=fun ts=>List.take_of_length_le (by simp)
  simp only [go_sem,qa,qb,qc,qd,qe,qf,reduceCtorEq,ZT,sg,lp,tk2,List.length_map]
 ·rw [if_neg hl]at sg
  rw [if_neg hl]
  have g0:GoodL []:=⟨by simp,fun i h=>by simp [sgD,sg0]at h,fun i h=>by simp [sgD,sg0]at h,fun i=>by simp [sgD,sg0],fun i=>by simp [sgD,sg0],fun i=>by simp [sgD,sg0]⟩
  have lp:=qck [] g0 2 0 [] 0 (by simp) (by simp) (by omega) (by simp)
  simp only [List.map_nil,List.length_nil,Int.natCast_zero,yL,Nat.lt_irrefl,if_false]at lp
  simp only [go_sem,qa,qb,qc,qd,qe,qf,reduceCtorEq,ZT,sg,lp,List.map_nil,List.length_nil,Int.natCast_zero]
theorem qt9(s:Str):cr qg qdU [S s]=some (.t [.o 4 ((kT s).1.map oT),I ((kT s).2:Nat)]):=by
 have sg:=quc s
 unfold Ky at sg
 unfold kT
 rw [qv qrP rfl]
 by_cases hl:s.length≤3000
 ·rw [if_pos hl]at sg
  rw [if_pos hl]
  have lp:=qdi (xB s) (qeL hl) ((xB s).length+2) 0 [] 0 (by omega) (by simp) (by omega) (by omega)
  simp only [List.map_nil,List.length_nil,Int.natCast_zero]at lp
  have tk2: ∀ ts:List Tm,(ts.map oT).take ts.length=ts.map oT:=fun ts=>List.take_of_length_le (by simp)
  simp only [go_sem,qa,qb,qc,qd,qe,qf,reduceCtorEq,Z7,sg,lp,tk2,List.length_map]
 ·rw [if_neg hl]at sg
  rw [if_neg hl]
  have g0:GoodL []:=⟨by simp,fun i h=>by simp [sgD,sg0]at h,fun i h=>by simp [sgD,sg0]at h,fun i=>by simp [sgD,sg0],fun i=>by simp [sgD,sg0],fun i=>by simp [sgD,sg0]⟩
  have lp:=qdi [] g0 2 0 [] 0 (by simp) (by simp) (by omega) (by simp)
  simp only [List.map_nil,List.length_nil,Int.natCast_zero,yL,Nat.lt_irrefl,if_false]at lp
  simp only [go_sem,qa,qb,qc,qd,qe,qf,reduceCtorEq,Z7,sg,lp,List.map_nil,List.length_nil,Int.natCast_zero]
end Go.Vm
namespace Go.Vm
theorem qh5(τ:Bool) (nm:List Str) (s:Str) (hl:nm.length≤2^40): ∀ (r:List Str) (k:Nat),nm.drop k=r→k+r.length=nm.length→
 lw qg JW ⟨[(0,.i τ (nm.map S)),(1,S s),(5,I k)],[]⟩=(if s ∈ r then some (.ret,⟨[(4,B true)],[]⟩)else some (.exit 0,⟨[],[]⟩))
 |[],k,h,hk=>by
  have h1: ¬ (k:Int) < (nm.length:Int):=by simp only [List.length_nil]at hk;omega
  rw [if_neg (by simp),qn]
  simp only [go_sem,qa,qb,qc,qd,qe,qf,reduceCtorEq,qak,List.length_map,h1]
 |x::r,k,h,hk=>by
  simp only [List.length_cons]at hk
  have hx:nm[k]? =some x:=by
   have:=congrArg (fun z=>z[0]?) h
   simpa using this
  have hd:nm.drop (k+1)=r:=by
   have:=congrArg (fun z=>z.drop 1) h
   simpa [List.drop_drop,Nat.add_comm]using this
  have h1:(k:Int) < (nm.length:Int):=by omega
  have e1:w64 ((k:Int)+1)=((k+1:Nat):Int):=by rw [qj]<;>omega
  have g:=q7 (f:=S) hx
  have a1:=fun T=>q8 (τ:=τ) (T:=T) (e:=1) g rfl
  by_cases h5:x=s
  ·have d5:decide (x=s)=true:=decide_eq_true h5
   rw [if_pos (by rw [h5];exact List.mem_cons_self)]
   rw [qn]
   simp only [go_sem,qa,qb,qc,qd,qe,qf,reduceCtorEq,qak,List.length_map,h1,e1,g,a1,d5]
  ·have d5:decide (x=s)=false:=decide_eq_false h5
   have ih:=qh5 τ nm s hl r (k+1) hd (by omega)
   have ex:(s ∈ x::r)↔(s ∈ r):=by
    rw [List.mem_cons]
    exact ⟨fun h=>h.elim (fun e=>absurd e.symm h5) id,.inr⟩
   simp only [ex]
   rw [← ih,qn]
   simp only [go_sem,qa,qb,qc,qd,qe,qf,reduceCtorEq,qak,List.length_map,h1,e1,g,a1,d5]
theorem qct(τ:Bool) (nm:List Str) (s:Str) (hl:nm.length≤2^40):cr qg Ym [.i τ (nm.map S),S s]=some (B (decide (s ∈ nm))):=by
 have lp:=qh5 τ nm s hl nm 0 rfl (by omega)
 simp only [Int.natCast_zero]at lp
 rw [qv qsh rfl]
 by_cases h:s ∈ nm
 ·rw [if_pos h]at lp
  rw [decide_eq_true h]
  simp only [go_sem,qa,qb,qc,qd,qe,qf,reduceCtorEq,Ye,lp]
 ·rw [if_neg h]at lp
  rw [decide_eq_false h]
  simp only [go_sem,qa,qb,qc,qd,qe,qf,reduceCtorEq,Ye,lp]
def qX(nm:List Str) (s:Str):List Str:=if s ∈ nm then nm else nm++[s]
theorem qno(nm:List Str) (s:Str) (hl:nm.length≤2^20):cw qg Ji [.o 1 (nm.map S),S s]=some (.o 1 ((qX nm s).map S),[.d,S s]):=by
 have h:=Jg true nm s (by omega)
 have l1:decide ((nm.length+1)*16≤lim)=true:=decide_eq_true (by rw [qW];omega)
 have l2:decide (nm.length+1≤lim)=true:=decide_eq_true (by rw [qW];omega)
 have tk:(nm.map S).take nm.length=nm.map S:=List.take_of_length_le (by simp)
 have tk2:((nm++[s]).map S).take (nm.length+1)=(nm++[s]).map S:=List.take_of_length_le (by simp)
 rw [qI qjN rfl]
 unfold qX
 by_cases hm:s ∈ nm
 ·rw [decide_eq_true hm]at h
  rw [if_pos hm]
  simp only [go_sem,qa,qb,qc,qd,qe,qf,reduceCtorEq,Qv,qt,h,tk,List.length_map]
 ·rw [decide_eq_false hm]at h
  rw [if_neg hm]
  simp only [go_sem,qa,qb,qc,qd,qe,qf,reduceCtorEq,Qv,qt,h,tk,tk2,l1,l2,List.length_map]
theorem qpF(nm:List Str) (s:Str) (hl:nm.length≤2^20):cw qg XH [.o 1 (nm.map S),S s]=some (.o 1 ((qX nm s).map S),[(if s ∈ nm then .d else .o 1 (nm.map S)),S s]):=by
 have h:=qct true nm s (by omega)
 have l1:decide ((nm.length+1)*16≤lim)=true:=decide_eq_true (by rw [qW];omega)
 have l2:decide (nm.length+1≤lim)=true:=decide_eq_true (by rw [qW];omega)
 have l3:decide (nm.length*16≤lim)=true:=decide_eq_true (by rw [qW];omega)
 have l4:decide (nm.length≤lim)=true:=decide_eq_true (by rw [qW];omega)
 have z1:yc (nm.map S)=true:=qbh (f:=S) (fun _=>rfl) nm
 have z2:kU 1 (nm.map S)=true:=qao (f:=S) (fun _=>⟨rfl,rfl⟩) nm
 have tk:(nm.map S).take nm.length=nm.map S:=List.take_of_length_le (by simp)
 have tk2:((nm++[s]).map S).take (nm.length+1)=(nm++[s]).map S:=List.take_of_length_le (by simp)
 rw [qI qjU rfl]
 unfold qX
 by_cases hm:s ∈ nm
 ·rw [decide_eq_true hm]at h
  rw [if_pos hm,if_pos hm]
  simp only [go_sem,qa,qb,qc,qd,qe,qf,reduceCtorEq,QB,qt,h,tk,List.length_map]
 ·rw [decide_eq_false hm]at h
  rw [if_neg hm,if_neg hm]
  simp only [go_sem,qa,qb,qc,qd,qe,qf,reduceCtorEq,QB,qt,h,tk,tk2,l1,l2,l3,l4,z1,z2,List.length_map,Nat.zero_add,List.nil_append,List.length_nil]
def qeS(t:Tm):Option Str:=
 if jb t [58,45] 1=true then
  match t.kids with
  |[x]=>if jb x [105,110,99,108,117,100,101] 1=true then
   match x.kids with
   |[y]=>if y.kind=2 then some y.name else none
   |_=>none
   else none
  |_=>none
 else none
def kz(nm:List Str) (t:Tm):List Str:=match qeS t with|some s=>qX nm s|none=>nm
theorem qco {t:Tm} {s:Str} (h:jb t s 1=true): ∃ x,t.kids=[x]:=by
 unfold jb at h
 simp only [Bool.and_eq_true,decide_eq_true_eq]at h
 have h3:t.kids.length=1:=by omega
 exact List.length_eq_one_iff.1 h3
theorem qnk(xs zs:List Tm) (t:Tm) (n k:Nat) (hk:xs.length=k) (hn:xs.length+1+zs.length=n) (hn3:n≤2^20) (nm:List Str) (hm:nm.length≤2^19):
 lw qg Yo ⟨[(5,.s (100000,0) 0 (nm).length),(13,.s (100000,1) 0 n),(14,I n),(15,I k)],[((100000,0),1,(nm).map S),((100000,1),4,xs.map oT++oT t::zs.map oT)]⟩=lw qg Yo ⟨[(5,.s (100000,0) 0 ((kz nm t)).length),(13,.s (100000,1) 0 n),(14,I n),(15,I ((k+1:Nat):Int))],[((100000,0),1,((kz nm t)).map S),((100000,1),4,xs.map oT++oT t::zs.map oT)]⟩:=by
 have h1:(k:Int) < (n:Int):=by omega
 have hlen:(xs.map oT).length=k:=by rw [List.length_map];exact hk
 have e1:w64 ((k:Int)+1)=((k+1:Nat):Int):=by rw [qj]<;>omega
 have ix:=fun y=>xL (k:=(100000,1)) (e:=4) (xs:=xs.map oT++y::zs.map oT) (i:=k) (len:=n) (by omega) (by simp only [List.length_append,List.length_map,List.length_cons];omega)
 have cg:=fun y zs=>X0 (xs.map oT) y zs k hlen
 have cs:=fun y y' zs=>X1 (xs.map oT) y y' zs k hlen
 have rp:=fun k' ob (y:V) (ys:List V)=>kp k' ob (xs.map oT) (y::ys) (x6 _)
 have tk: ∀ x:Tm,(x.kids.map oT).take x.kids.length=x.kids.map oT:=fun x=>List.take_of_length_le (by simp)
 have tkn:(nm.map S).take nm.length=nm.map S:=List.take_of_length_le (by simp)
 have i1:=qij t (iT true t) (Zd true t) [58,45] 1
 rw [yt]at i1
 unfold kz qeS
 rw [qp t]
 cases h2:jb t [58,45] 1 with
 |false=>
  rw [h2]at i1
  simp only [Bool.false_eq_true,if_false]
  rw [qn]
  simp only [go_sem,qa,qb,qc,qd,qe,qf,reduceCtorEq,Yr,h1,ix,cg,cs,rp,Option.map_some,yM,tk,i1,e1]
 |true=>
  obtain ⟨x,hx⟩:=qco h2
  rw [h2]at i1
  have i2:=qij x (iT true x) (Zd true x) [105,110,99,108,117,100,101] 1
  rw [yt]at i2
  simp only [if_true,hx]
  rw [hx]at i1
  simp only [List.map_cons,List.map_nil,yt true x]at i1
  cases h3:jb x [105,110,99,108,117,100,101] 1 with
  |false=>
   rw [h3]at i2
   simp only [Bool.false_eq_true,if_false,List.map_cons,List.map_nil,qp x,List.length_cons,List.length_nil]
   rw [qn]
   simp only [go_sem,qa,qb,qc,qd,qe,qf,reduceCtorEq,Yr,h1,ix,cg,cs,rp,Option.map_some,yM,tk,i1,i2,e1,qp x]
  |true=>
   obtain ⟨y,hy⟩:=qco h3
   rw [h3,hy]at i2
   rw [hy]at i1
   simp only [List.map_cons,List.map_nil,yt true y]at i1 i2
   simp only [if_true,hy,List.map_cons,List.map_nil,qp x,qp y,List.length_cons,List.length_nil]
   by_cases h4:y.kind=2
   ·have d4:decide (y.kind=2)=true:=decide_eq_true h4
    rw [if_pos h4]
    simp only
    have on:=qno nm y.name (by omega)
    have tko:((qX nm y.name).map S).take (qX nm y.name).length=(qX nm y.name).map S:=List.take_of_length_le (by simp)
    rw [qn]
    simp only [go_sem,qa,qb,qc,qd,qe,qf,reduceCtorEq,Yr,h1,ix,cg,cs,rp,Option.map_some,yM,tk,tkn,tko,i1,i2,e1,d4,on,qp x,qp y]
   ·have d4:decide (y.kind=2)=false:=decide_eq_false h4
    rw [if_neg h4]
    simp only
    rw [qn]
    simp only [go_sem,qa,qb,qc,qd,qe,qf,reduceCtorEq,Yr,h1,ix,cg,cs,rp,Option.map_some,yM,tk,i1,i2,e1,d4,qp x,qp y]
theorem que(xs zs:List Tm) (t:Tm) (n k:Nat) (hk:xs.length=k) (hn:xs.length+1+zs.length=n) (hn3:n≤2^20) (nm:List Str) (hm:nm.length≤2^19):
 lw qg Yq ⟨[(3,.s (100000,0) 0 (nm).length),(4,.s (100000,1) 0 n),(6,I k)],[((100000,0),1,(nm).map S),((100000,1),4,xs.map oT++oT t::zs.map oT)]⟩=lw qg Yq ⟨[(3,.s (100000,0) 0 ((kz nm t)).length),(4,.s (100000,1) 0 n),(6,I ((k+1:Nat):Int))],[((100000,0),1,((kz nm t)).map S),((100000,1),4,xs.map oT++oT t::zs.map oT)]⟩:=by
 have h1:(k:Int) < (n:Int):=by omega
 have hlen:(xs.map oT).length=k:=by rw [List.length_map];exact hk
 have e1:w64 ((k:Int)+1)=((k+1:Nat):Int):=by rw [qj]<;>omega
 have ix:=fun y=>xL (k:=(100000,1)) (e:=4) (xs:=xs.map oT++y::zs.map oT) (i:=k) (len:=n) (by omega) (by simp only [List.length_append,List.length_map,List.length_cons];omega)
 have cg:=fun y zs=>X0 (xs.map oT) y zs k hlen
 have cs:=fun y y' zs=>X1 (xs.map oT) y y' zs k hlen
 have rp:=fun k' ob (y:V) (ys:List V)=>kp k' ob (xs.map oT) (y::ys) (x6 _)
 have tk: ∀ x:Tm,(x.kids.map oT).take x.kids.length=x.kids.map oT:=fun x=>List.take_of_length_le (by simp)
 have tkn:(nm.map S).take nm.length=nm.map S:=List.take_of_length_le (by simp)
 have i1:=qiy t (iT true t) (Zd true t) [58,45] 1
 rw [yt]at i1
 unfold kz qeS
 rw [qp t]
 cases h2:jb t [58,45] 1 with
 |false=>
  rw [h2]at i1
  simp only [Bool.false_eq_true,if_false]
  rw [qn]
  simp only [go_sem,qa,qb,qc,qd,qe,qf,reduceCtorEq,Zp,h1,ix,cg,cs,rp,Option.map_some,yM,tk,i1,e1]
 |true=>
  obtain ⟨x,hx⟩:=qco h2
  rw [h2]at i1
  have i2:=qiy x (iT true x) (Zd true x) [105,110,99,108,117,100,101] 1
  rw [yt]at i2
  simp only [if_true,hx]
  rw [hx]at i1
  simp only [List.map_cons,List.map_nil,yt true x]at i1
  cases h3:jb x [105,110,99,108,117,100,101] 1 with
  |false=>
   rw [h3]at i2
   simp only [Bool.false_eq_true,if_false,List.map_cons,List.map_nil,qp x,List.length_cons,List.length_nil]
   rw [qn]
   simp only [go_sem,qa,qb,qc,qd,qe,qf,reduceCtorEq,Zp,h1,ix,cg,cs,rp,Option.map_some,yM,tk,i1,i2,e1,qp x]
  |true=>
   obtain ⟨y,hy⟩:=qco h3
   rw [h3,hy]at i2
   rw [hy]at i1
   simp only [List.map_cons,List.map_nil,yt true y]at i1 i2
   simp only [if_true,hy,List.map_cons,List.map_nil,qp x,qp y,List.length_cons,List.length_nil]
   by_cases h4:y.kind=2
   ·have d4:decide (y.kind=2)=true:=decide_eq_true h4
    rw [if_pos h4]
    simp only
    have on:=qpF nm y.name (by omega)
    have tko:((qX nm y.name).map S).take (qX nm y.name).length=(qX nm y.name).map S:=List.take_of_length_le (by simp)
    by_cases hmem:y.name ∈ nm
    ·rw [if_pos hmem]at on
     rw [qn]
     simp only [go_sem,qa,qb,qc,qd,qe,qf,reduceCtorEq,Zp,h1,ix,cg,cs,rp,Option.map_some,yM,tk,tkn,tko,i1,i2,e1,d4,on,qp x,qp y]
    ·rw [if_neg hmem]at on
     rw [qn]
     simp only [go_sem,qa,qb,qc,qd,qe,qf,reduceCtorEq,Zp,h1,ix,cg,cs,rp,Option.map_some,yM,tk,tkn,tko,i1,i2,e1,d4,on,qp x,qp y]
   ·have d4:decide (y.kind=2)=false:=decide_eq_false h4
    rw [if_neg h4]
    simp only
    rw [qn]
    simp only [go_sem,qa,qb,qc,qd,qe,qf,reduceCtorEq,Zp,h1,ix,cg,cs,rp,Option.map_some,yM,tk,i1,i2,e1,d4,qp x,qp y]
def yK(nm:List Str):List Tm→List Str
 |[]=>nm
 |t::r=>yK (kz nm t) r
theorem qed(nm:List Str) (t:Tm):(kz nm t).length≤nm.length+1:=by
 unfold kz qX
 split
 ·split
  ·omega
  ·simp
 ·omega
theorem qii(ts:List Tm) (hl:ts.length≤2^18): ∀ (r:List Tm) (k:Nat) (nm:List Str),ts.drop k=r→k+r.length=ts.length→nm.length≤k→
 lw qg Yo ⟨[(5,.s (100000,0) 0 (nm).length),(13,.s (100000,1) 0 ts.length),(14,I ts.length),(15,I k)],[((100000,0),1,(nm).map S),((100000,1),4,ts.map oT)]⟩=some (.exit 0,⟨[(5,.s (100000,0) 0 ((yK nm r)).length)],[((100000,0),1,((yK nm r)).map S),((100000,1),4,ts.map oT)]⟩)
 |[],k,nm,h,hk,hn=>by
  have h1: ¬ (k:Int) < (ts.length:Int):=by simp only [List.length_nil]at hk;omega
  rw [qn]
  simp only [go_sem,qa,qb,qc,qd,qe,qf,reduceCtorEq,Yr,yK,h1]
 |t::r,k,nm,h,hk,hn=>by
  simp only [List.length_cons]at hk
  have hx:ts[k]? =some t:=by
   have:=congrArg (fun z=>z[0]?) h
   simpa using this
  have hd:ts.drop (k+1)=r:=by
   have:=congrArg (fun z=>z.drop 1) h
   simpa [List.drop_drop,Nat.add_comm]using this
  have hlk:k < ts.length:=by omega
  have ht:ts.take k++t::r=ts:=by
   have:=List.take_append_drop k ts
   rw [h]at this;exact this
  have hrow:ts.map oT=(ts.take k).map oT++oT t::r.map oT:=by
   have:=congrArg (List.map oT) ht
   simpa using this.symm
  have ih:=qii ts hl r (k+1) (kz nm t) hd (by omega) (by have:=qed nm t;omega)
  have stp:=qnk (ts.take k) r t ts.length k (by rw [List.length_take];omega) (by rw [List.length_take];omega) (by omega) nm (by omega)
  simp only [yK]
  rw [← ih,hrow]
  exact stp
theorem qlq(ts:List Tm) (hl:ts.length≤2^18): ∀ (r:List Tm) (k:Nat) (nm:List Str),ts.drop k=r→k+r.length=ts.length→nm.length≤k→
 lw qg Yq ⟨[(3,.s (100000,0) 0 (nm).length),(4,.s (100000,1) 0 ts.length),(6,I k)],[((100000,0),1,(nm).map S),((100000,1),4,ts.map oT)]⟩=some (.exit 0,⟨[(3,.s (100000,0) 0 ((yK nm r)).length)],[((100000,0),1,((yK nm r)).map S),((100000,1),4,ts.map oT)]⟩)
 |[],k,nm,h,hk,hn=>by
  have h1: ¬ (k:Int) < (ts.length:Int):=by simp only [List.length_nil]at hk;omega
  rw [qn]
  simp only [go_sem,qa,qb,qc,qd,qe,qf,reduceCtorEq,Zp,yK,h1]
 |t::r,k,nm,h,hk,hn=>by
  simp only [List.length_cons]at hk
  have hx:ts[k]? =some t:=by
   have:=congrArg (fun z=>z[0]?) h
   simpa using this
  have hd:ts.drop (k+1)=r:=by
   have:=congrArg (fun z=>z.drop 1) h
   simpa [List.drop_drop,Nat.add_comm]using this
  have hlk:k < ts.length:=by omega
  have ht:ts.take k++t::r=ts:=by
   have:=List.take_append_drop k ts
   rw [h]at this;exact this
  have hrow:ts.map oT=(ts.take k).map oT++oT t::r.map oT:=by
   have:=congrArg (List.map oT) ht
   simpa using this.symm
  have ih:=qlq ts hl r (k+1) (kz nm t) hd (by omega) (by have:=qed nm t;omega)
  have stp:=que (ts.take k) r t ts.length k (by rw [List.length_take];omega) (by rw [List.length_take];omega) (by omega) nm (by omega)
  simp only [yK]
  rw [← ih,hrow]
  exact stp
theorem qei(l:List Sg): ∀ (n k:Nat) (ts:List Tm) (b:Nat),ts.length≤k→k≤l.length+1→(yL l n k ts b).1.length≤l.length+1
 |0,k,ts,b,h,hk=>by simp only [yL];omega
 |n+1,k,ts,b,h,hk=>by
  simp only [yL]
  split
  ·rename_i hlt
   have:=qfE l k hlt
   split
   ·exact qei l n _ _ _ (by simp only [List.length_append,List.length_cons,List.length_nil];omega) this.2
   ·exact qei l n _ _ _ (by omega) this.2
  ·simp only;omega
theorem qeg(s:Str):(kT s).1.length≤3001:=by
 unfold kT
 split
 ·rename_i h
  have:=qei (xB s) ((xB s).length+2) 0 [] 0 (by simp) (by omega)
  have:=(qeL h).len
  omega
 ·simp
def jG(s:Str):List Str:=yK [] (kT s).1
theorem qif(s:Str):cr qg qdC [S s]=some (.o 1 ((jG s).map S)):=by
 have ra:=qng s
 have hl:=qeg s
 unfold jG
 generalize (kT s).1=ts at*
 have lp:=qii ts (by omega) ts 0 [] rfl (by omega) (by simp)
 simp only [List.map_nil,List.length_nil,Int.natCast_zero]at lp
 have tk:(ts.map oT).take ts.length=ts.map oT:=List.take_of_length_le (by simp)
 have tk2:((yK [] ts).map S).take (yK [] ts).length=(yK [] ts).map S:=List.take_of_length_le (by simp)
 rw [qv qq1 rfl]
 simp only [go_sem,qa,qb,qc,qd,qe,qf,reduceCtorEq,Y1,ra,lp,tk,tk2]
theorem qt7(s:Str):cr qg qdR [S s]=some (.o 1 ((jG s).map S)):=by
 have ra:=qt9 s
 have hl:=qeg s
 unfold jG
 generalize (kT s).1=ts at*
 have lp:=qlq ts (by omega) ts 0 [] rfl (by omega) (by simp)
 simp only [List.map_nil,List.length_nil,Int.natCast_zero]at lp
 have tk:(ts.map oT).take ts.length=ts.map oT:=List.take_of_length_le (by simp)
 have tk2:((yK [] ts).map S).take (yK [] ts).length=(yK [] ts).map S:=List.take_of_length_le (by simp)
 rw [qv qrM rfl]
 simp only [go_sem,qa,qb,qc,qd,qe,qf,reduceCtorEq,Xm,ra,lp,tk,tk2]
end Go.Vm
namespace Go.Vm
theorem qgL: ∀ (ts:List Tm) (nm:List Str),(yK nm ts).length≤nm.length+ts.length
 |[],nm=>Nat.le_refl _
 |t::r,nm=>by
  have:=qgL r (kz nm t)
  have:=qed nm t
  simp only [yK,List.length_cons];omega
theorem qiq(s:Str):(jG s).length≤3001:=by
 have:=qgL (kT s).1 []
 have:=qeg s
 unfold jG
 simp only [List.length_nil]at*
 omega
end Go.Vm
namespace Go.Vm
def zU:List Fl→Str→Option Fl
 |[],_=>none
 |x::r,s=>if x.name=s then some x else zU r s
def kZ:Option Fl→V
 |some x=> .t [S x.text,B true]
 |none=> .t [S [],B false]
theorem qih(τ τ':Bool) (fs:List Fl) (s:Str) (hl:fs.length≤2^40): ∀ (r:List Fl) (k:Nat),fs.drop k=r→k+r.length=fs.length→
 (zU r s=none→lw qg Zj ⟨[(1,S s),(8,.i τ (fs.map (iFl τ'))),(9,I fs.length),(10,I k)],[]⟩=some (.exit 0,⟨[],[]⟩))∧
 (∀ x,zU r s=some x→lw qg Zj ⟨[(1,S s),(8,.i τ (fs.map (iFl τ'))),(9,I fs.length),(10,I k)],[]⟩=some (.ret,⟨[(4,S x.text),(5,B true)],[((7,0),2,[.a [S x.name,S x.text]])]⟩))
 |[],k,h,hk=>by
  have h1: ¬ (k:Int) < (fs.length:Int):=by simp only [List.length_nil]at hk;omega
  refine ⟨fun _=> ?_,fun x h=>by cases h⟩
  rw [qn]
  simp only [go_sem,qa,qb,qc,qd,qe,qf,reduceCtorEq,JY,List.length_map,h1]
 |y::r,k,h,hk=>by
  simp only [List.length_cons]at hk
  have hx:fs[k]? =some y:=by
   have:=congrArg (fun z=>z[0]?) h
   simpa using this
  have hd:fs.drop (k+1)=r:=by
   have:=congrArg (fun z=>z.drop 1) h
   simpa [List.drop_drop,Nat.add_comm]using this
  have h1:(k:Int) < (fs.length:Int):=by omega
  have e1:w64 ((k:Int)+1)=((k+1:Nat):Int):=by rw [qj]<;>omega
  have g:=q7 (f:=iFl τ') hx
  have a1:=fun T=>q8 (τ:=τ) (T:=T) (e:=2) g rfl
  have ih:=qih τ τ' fs s hl r (k+1) hd (by omega)
  rw [iFl]at g
  by_cases h5:y.name=s
  ·have d5:decide (y.name=s)=true:=decide_eq_true h5
   refine ⟨fun h=>by simp only [zU,if_pos h5,reduceCtorEq]at h,fun x h=> ?_⟩
   simp only [zU,if_pos h5,Option.some.injEq]at h
   subst h
   rw [qn]
   simp only [go_sem,qa,qb,qc,qd,qe,qf,reduceCtorEq,JY,List.length_map,h1,e1,g,a1,d5]
  ·have d5:decide (y.name=s)=false:=decide_eq_false h5
   have stp:lw qg Zj ⟨[(1,S s),(8,.i τ (fs.map (iFl τ'))),(9,I fs.length),(10,I k)],[]⟩=lw qg Zj ⟨[(1,S s),(8,.i τ (fs.map (iFl τ'))),(9,I fs.length),(10,I ((k+1:Nat):Int))],[]⟩:=by
    rw [qn]
    simp only [go_sem,qa,qb,qc,qd,qe,qf,reduceCtorEq,JY,List.length_map,h1,e1,g,a1,d5]
   rw [stp]
   simp only [zU,if_neg h5]
   exact ih
theorem qlp(τ τ':Bool) (fs:List Fl) (s:Str) (hl:fs.length≤2^40): ∀ (r:List Fl) (k:Nat),fs.drop k=r→k+r.length=fs.length→
 (zU r s=none→lw qg Zn ⟨[(0,.i τ (fs.map (iFl τ'))),(1,S s),(6,I k)],[]⟩=some (.exit 0,⟨[],[]⟩))∧
 (∀ x,zU r s=some x→lw qg Zn ⟨[(0,.i τ (fs.map (iFl τ'))),(1,S s),(6,I k)],[]⟩=some (.ret,⟨[(4,S x.text),(5,B true)],[]⟩))
 |[],k,h,hk=>by
  have h1: ¬ (k:Int) < (fs.length:Int):=by simp only [List.length_nil]at hk;omega
  refine ⟨fun _=> ?_,fun x h=>by cases h⟩
  rw [qn]
  simp only [go_sem,qa,qb,qc,qd,qe,qf,reduceCtorEq,qab,List.length_map,h1]
 |y::r,k,h,hk=>by
  simp only [List.length_cons]at hk
  have hx:fs[k]? =some y:=by
   have:=congrArg (fun z=>z[0]?) h
   simpa using this
  have hd:fs.drop (k+1)=r:=by
   have:=congrArg (fun z=>z.drop 1) h
   simpa [List.drop_drop,Nat.add_comm]using this
  have h1:(k:Int) < (fs.length:Int):=by omega
  have e1:w64 ((k:Int)+1)=((k+1:Nat):Int):=by rw [qj]<;>omega
  have g:=q7 (f:=iFl τ') hx
  have a1:=fun T=>q8 (τ:=τ) (T:=T) (e:=2) g rfl
  have ih:=qlp τ τ' fs s hl r (k+1) hd (by omega)
  rw [iFl]at g
  by_cases h5:y.name=s
  ·have d5:decide (y.name=s)=true:=decide_eq_true h5
   refine ⟨fun h=>by simp only [zU,if_pos h5,reduceCtorEq]at h,fun x h=> ?_⟩
   simp only [zU,if_pos h5,Option.some.injEq]at h
   subst h
   rw [qn]
   simp only [go_sem,qa,qb,qc,qd,qe,qf,reduceCtorEq,qab,List.length_map,h1,e1,g,a1,d5]
  ·have d5:decide (y.name=s)=false:=decide_eq_false h5
   have stp:lw qg Zn ⟨[(0,.i τ (fs.map (iFl τ'))),(1,S s),(6,I k)],[]⟩=lw qg Zn ⟨[(0,.i τ (fs.map (iFl τ'))),(1,S s),(6,I ((k+1:Nat):Int))],[]⟩:=by
    rw [qn]
    simp only [go_sem,qa,qb,qc,qd,qe,qf,reduceCtorEq,qab,List.length_map,h1,e1,g,a1,d5]
   rw [stp]
   simp only [zU,if_neg h5]
   exact ih
theorem qeN(τ τ':Bool) (fs:List Fl) (s:Str) (hl:fs.length≤2^40):cr qg QD [.i τ (fs.map (iFl τ')),S s]=some (kZ (zU fs s)):=by
 obtain ⟨l1,l2⟩:=qih τ τ' fs s hl fs 0 rfl (by omega)
 simp only [Int.natCast_zero]at l1 l2
 rw [qv qqZ rfl]
 cases h:zU fs s with
 |none=>
  have lp:=l1 h
  unfold kZ
  simp only [go_sem,qa,qb,qc,qd,qe,qf,reduceCtorEq,ZS,lp,List.length_map]
 |some x=>
  have lp:=l2 x h
  unfold kZ
  simp only [go_sem,qa,qb,qc,qd,qe,qf,reduceCtorEq,ZS,lp,List.length_map]
theorem qgd(τ τ':Bool) (fs:List Fl) (s:Str) (hl:fs.length≤2^40):cr qg Jl [.i τ (fs.map (iFl τ')),S s]=some (kZ (zU fs s)):=by
 obtain ⟨l1,l2⟩:=qlp τ τ' fs s hl fs 0 rfl (by omega)
 simp only [Int.natCast_zero]at l1 l2
 rw [qv qrK rfl]
 cases h:zU fs s with
 |none=>
  have lp:=l1 h
  unfold kZ
  simp only [go_sem,qa,qb,qc,qd,qe,qf,reduceCtorEq,Z5,lp,List.length_map]
 |some x=>
  have lp:=l2 x h
  unfold kZ
  simp only [go_sem,qa,qb,qc,qd,qe,qf,reduceCtorEq,Z5,lp,List.length_map]
def qz(fs:List Fl) (s:Str):List Str:=match zU fs s with|some x=>jG x.text|none=>[]
theorem qnA:jG []=[]:=by rfl
theorem qeQ(τ τ':Bool) (fs:List Fl) (s:Str) (hl:fs.length≤2^40):cr qg Zf [.i τ (fs.map (iFl τ')),S s]=some (.o 1 ((qz fs s).map S)):=by
 have f1:=qeN τ τ' fs s hl
 have f2:=qeN true true fs s hl
 rw [qv qrb rfl]
 unfold qz
 cases h:zU fs s with
 |none=>
  have ii:=qif []
  rw [qnA]at ii
  rw [h,kZ]at f1 f2
  simp only [go_sem,qa,qb,qc,qd,qe,qf,reduceCtorEq,ZW,f1,f2,ii,List.map_nil]
 |some x=>
  have ii:=qif x.text
  rw [h,kZ]at f1 f2
  simp only [go_sem,qa,qb,qc,qd,qe,qf,reduceCtorEq,ZW,f1,f2,ii,List.map_nil]
theorem qgg(τ τ':Bool) (fs:List Fl) (s:Str) (hl:fs.length≤2^40):cr qg Ju [.i τ (fs.map (iFl τ')),S s]=some (.o 1 ((qz fs s).map S)):=by
 have f1:=qgd τ τ' fs s hl
 have f2:=qgd true true fs s hl
 rw [qv qsi rfl]
 unfold qz
 cases h:zU fs s with
 |none=>
  rw [h,kZ]at f1 f2
  simp only [go_sem,qa,qb,qc,qd,qe,qf,reduceCtorEq,Yf,f1,f2,List.map_nil]
 |some x=>
  have ii:=qt7 x.text
  rw [h,kZ]at f1 f2
  simp only [go_sem,qa,qb,qc,qd,qe,qf,reduceCtorEq,Yf,f1,f2,ii]
end Go.Vm
namespace Go.Vm
theorem qnn(nm:List Str) (s:Str) (hl:nm.length < 2^36):cw qg Ji [.o 1 (nm.map S),S s]=some (.o 1 ((qX nm s).map S),[.d,S s]):=by
 have h:=Jg true nm s (by omega)
 have l1:decide ((nm.length+1)*16≤lim)=true:=decide_eq_true (by rw [qW];omega)
 have l2:decide (nm.length+1≤lim)=true:=decide_eq_true (by rw [qW];omega)
 have tk:(nm.map S).take nm.length=nm.map S:=List.take_of_length_le (by simp)
 have tk2:((nm++[s]).map S).take (nm.length+1)=(nm++[s]).map S:=List.take_of_length_le (by simp)
 rw [qI qjN rfl]
 unfold qX
 by_cases hm:s ∈ nm
 ·rw [decide_eq_true hm]at h
  rw [if_pos hm]
  simp only [go_sem,qa,qb,qc,qd,qe,qf,reduceCtorEq,Qv,qt,h,tk,List.length_map]
 ·rw [decide_eq_false hm]at h
  rw [if_neg hm]
  simp only [go_sem,qa,qb,qc,qd,qe,qf,reduceCtorEq,Qv,qt,h,tk,tk2,l1,l2,List.length_map]
theorem qiD(nm:List Str) (s:Str) (hl:nm.length < 2^36):cw qg XH [.o 1 (nm.map S),S s]=some (.o 1 ((qX nm s).map S),[(if s ∈ nm then .d else .o 1 (nm.map S)),S s]):=by
 have h:=qct true nm s (by omega)
 have l1:decide ((nm.length+1)*16≤lim)=true:=decide_eq_true (by rw [qW];omega)
 have l2:decide (nm.length+1≤lim)=true:=decide_eq_true (by rw [qW];omega)
 have l3:decide (nm.length*16≤lim)=true:=decide_eq_true (by rw [qW];omega)
 have l4:decide (nm.length≤lim)=true:=decide_eq_true (by rw [qW];omega)
 have z1:yc (nm.map S)=true:=qbh (f:=S) (fun _=>rfl) nm
 have z2:kU 1 (nm.map S)=true:=qao (f:=S) (fun _=>⟨rfl,rfl⟩) nm
 have tk:(nm.map S).take nm.length=nm.map S:=List.take_of_length_le (by simp)
 have tk2:((nm++[s]).map S).take (nm.length+1)=(nm++[s]).map S:=List.take_of_length_le (by simp)
 rw [qI qjU rfl]
 unfold qX
 by_cases hm:s ∈ nm
 ·rw [decide_eq_true hm]at h
  rw [if_pos hm,if_pos hm]
  simp only [go_sem,qa,qb,qc,qd,qe,qf,reduceCtorEq,QB,qt,h,tk,List.length_map]
 ·rw [decide_eq_false hm]at h
  rw [if_neg hm,if_neg hm]
  simp only [go_sem,qa,qb,qc,qd,qe,qf,reduceCtorEq,QB,qt,h,tk,tk2,l1,l2,l3,l4,z1,z2,List.length_map,Nat.zero_add,List.nil_append,List.length_nil]
def yq(nm:List Str):List Str→List Str
 |[]=>nm
 |s::r=>yq (qX nm s) r
def yb(fs:List Fl):Nat→Nat→List Str→List Str
 |0,_,l=>l
 |n+1,i,l=>match l[i]? with
  |none=>l
  |some s=>yb fs n (i+1) (yq l (qz fs s))
theorem qqR {U nm:List Str} {s:Str} (h: ∀ x ∈ nm,x ∈ U) (hs:s ∈ U): ∀ x ∈ qX nm s,x ∈ U:=by
 intro x hx
 unfold qX at hx
 split at hx
 ·exact h x hx
 ·rcases List.mem_append.1 hx with hx|hx
  ·exact h x hx
  ·simp only [List.mem_cons,List.not_mem_nil,or_false]at hx;subst hx;exact hs
theorem qjE {nm:List Str} {s:Str} (h:nm.Nodup):(qX nm s).Nodup:=by
 unfold qX
 split
 ·exact h
 ·rename_i hn
  rw [List.nodup_append]
  refine ⟨h,by simp, ?_⟩
  intro a ha b hb
  simp only [List.mem_cons,List.not_mem_nil,or_false]at hb
  subst hb
  intro e;subst e;exact hn ha
theorem qjD(nm:List Str) (s:Str):nm.length≤(qX nm s).length:=by
 unfold qX
 split
 ·exact Nat.le_refl _
 ·simp
theorem XV {U:List Str}: ∀ (r nm:List Str),(∀ x ∈ nm,x ∈ U)→(∀ x ∈ r,x ∈ U)→nm.Nodup→(∀ x ∈ yq nm r,x ∈ U)∧(yq nm r).Nodup∧nm.length≤(yq nm r).length
 |[],nm,h1,h2,h3=>⟨h1,h3,Nat.le_refl _⟩
 |s::r,nm,h1,h2,h3=>by
  have:=XV r (qX nm s) (qqR h1 (h2 s List.mem_cons_self)) (fun x hx=>h2 x (List.mem_cons_of_mem _ hx)) (qjE h3)
  have g:=qjD nm s
  simp only [yq]
  exact ⟨this.1,this.2.1,by omega⟩
theorem QR {U l:List Str} (h: ∀ x ∈ l,x ∈ U) (hn:l.Nodup):l.length≤U.length:=by
 induction l generalizing U with
 |nil=>simp
 |cons x l ih=>
  rw [List.nodup_cons]at hn
  have hx:=h x List.mem_cons_self
  have:=ih (U:=U.erase x) (fun y hy=>by
   have hne:y ≠ x:=fun e=>hn.1 (e ▸ hy)
   exact (List.mem_erase_of_ne hne).2 (h y (List.mem_cons_of_mem _ hy))) hn.2
  rw [List.length_erase_of_mem hx]at this
  have hp:=List.length_pos_of_mem hx
  simp only [List.length_cons];omega
def zD(fs:List Fl) (s:Str):List Str:=s::fs.flatMap fun x=>jG x.text
theorem k9(fs:List Fl) (s0 s:Str): ∀ x ∈ qz fs s,x ∈ zD fs s0:=by
 intro x hx
 have key: ∀ (fs:List Fl) (y:Fl),zU fs s=some y→y ∈ fs:=by
  intro fs
  induction fs with
  |nil=>intro y h;cases h
  |cons z r ih=>
   intro y h
   simp only [zU]at h
   split at h
   ·cases h;exact List.mem_cons_self
   ·exact List.mem_cons_of_mem _ (ih y h)
 unfold qz at hx
 split at hx
 ·rename_i y hy
  exact List.mem_cons_of_mem _ (List.mem_flatMap.2 ⟨y,key fs y hy,hx⟩)
 ·cases hx
theorem jN(fs:List Fl) (s:Str) (h:fs.length≤Lm):(zD fs s).length < 60000000000:=by
 have key: ∀ fs:List Fl,(fs.flatMap fun x=>jG x.text).length≤3001*fs.length:=by
  intro fs
  induction fs with
  |nil=>simp
  |cons y r ih=>
   have:=qiq y.text
   simp only [List.flatMap_cons,List.length_append,List.length_cons];omega
 have:=key fs
 unfold zD
 simp only [List.length_cons]
 unfold Lm at h;omega
end Go.Vm
namespace Go.Vm
theorem qim(τ τ':Bool) (fs:List Fl) (i:Nat) (ws:List Str) (hw:ws.length < 2^36): ∀ (r:List Str) (j:Nat) (nm:List Str),ws.drop j=r→j+r.length=ws.length→nm.length+r.length < 2^36→
 lw qg JE ⟨[(0,.i τ (fs.map (iFl τ'))),(5,.s (100000,0) 0 (nm).length),(6,I i),(22,.s (100000,1) 0 ws.length),(23,I ws.length),(24,I j)],[((100000,0),1,(nm).map S),((100000,1),1,ws.map S)]⟩=some (.exit 2,⟨[(0,.i τ (fs.map (iFl τ'))),(5,.s (100000,0) 0 ((yq nm r)).length),(6,I i)],[((100000,0),1,((yq nm r)).map S),((100000,1),1,ws.map S)]⟩)
 |[],j,nm,h,hj,hn=>by
  have h1: ¬ (j:Int) < (ws.length:Int):=by simp only [List.length_nil]at hj;omega
  simp only [yq]
  rw [qn]
  simp only [go_sem,qa,qb,qc,qd,qe,qf,reduceCtorEq,J2,h1]
 |s::r,j,nm,h,hj,hn=>by
  simp only [List.length_cons]at hj hn
  have hx:ws[j]? =some s:=by
   have:=congrArg (fun z=>z[0]?) h
   simpa using this
  have hd:ws.drop (j+1)=r:=by
   have:=congrArg (fun z=>z.drop 1) h
   simpa [List.drop_drop,Nat.add_comm]using this
  have h1:(j:Int) < (ws.length:Int):=by omega
  have e1:w64 ((j:Int)+1)=((j+1:Nat):Int):=by rw [qj]<;>omega
  have g:=q7 (f:=S) hx
  have ix:=xL (k:=(100000,1)) (e:=1) (xs:=ws.map S) (i:=j) (len:=ws.length) (by omega) (by simp)
  have on:=qnn nm s (by omega)
  have tkn:(nm.map S).take nm.length=nm.map S:=List.take_of_length_le (by simp)
  have tko:((qX nm s).map S).take (qX nm s).length=(qX nm s).map S:=List.take_of_length_le (by simp)
  have ol:(qX nm s).length≤nm.length+1:=by unfold qX;split;omega;simp
  have ih:=qim τ τ' fs i ws hw r (j+1) (qX nm s) hd (by omega) (by omega)
  simp only [yq]
  rw [← ih]
  by_cases hm:s ∈ nm
  ·try simp only [if_pos hm]at on
   rw [qn]
   simp only [go_sem,qa,qb,qc,qd,qe,qf,reduceCtorEq,J2,h1,e1,g,ix,on,tkn,tko]
  ·try simp only [if_neg hm]at on
   rw [qn]
   simp only [go_sem,qa,qb,qc,qd,qe,qf,reduceCtorEq,J2,h1,e1,g,ix,on,tkn,tko]
theorem qls(τ τ':Bool) (fs:List Fl) (i:Nat) (ws:List Str) (hw:ws.length < 2^36): ∀ (r:List Str) (j:Nat) (nm:List Str),ws.drop j=r→j+r.length=ws.length→nm.length+r.length < 2^36→
 lw qg JM ⟨[(0,.i τ (fs.map (iFl τ'))),(5,.s (100000,0) 0 (nm).length),(6,I i),(7,.s (100000,1) 0 ws.length),(8,I j)],[((100000,0),1,(nm).map S),((100000,1),1,ws.map S)]⟩=some (.exit 2,⟨[(0,.i τ (fs.map (iFl τ'))),(5,.s (100000,0) 0 ((yq nm r)).length),(6,I i)],[((100000,0),1,((yq nm r)).map S),((100000,1),1,ws.map S)]⟩)
 |[],j,nm,h,hj,hn=>by
  have h1: ¬ (j:Int) < (ws.length:Int):=by simp only [List.length_nil]at hj;omega
  simp only [yq]
  rw [qn]
  simp only [go_sem,qa,qb,qc,qd,qe,qf,reduceCtorEq,qac,h1]
 |s::r,j,nm,h,hj,hn=>by
  simp only [List.length_cons]at hj hn
  have hx:ws[j]? =some s:=by
   have:=congrArg (fun z=>z[0]?) h
   simpa using this
  have hd:ws.drop (j+1)=r:=by
   have:=congrArg (fun z=>z.drop 1) h
   simpa [List.drop_drop,Nat.add_comm]using this
  have h1:(j:Int) < (ws.length:Int):=by omega
  have e1:w64 ((j:Int)+1)=((j+1:Nat):Int):=by rw [qj]<;>omega
  have g:=q7 (f:=S) hx
  have ix:=xL (k:=(100000,1)) (e:=1) (xs:=ws.map S) (i:=j) (len:=ws.length) (by omega) (by simp)
  have on:=qiD nm s (by omega)
  have tkn:(nm.map S).take nm.length=nm.map S:=List.take_of_length_le (by simp)
  have tko:((qX nm s).map S).take (qX nm s).length=(qX nm s).map S:=List.take_of_length_le (by simp)
  have ol:(qX nm s).length≤nm.length+1:=by unfold qX;split;omega;simp
  have ih:=qls τ τ' fs i ws hw r (j+1) (qX nm s) hd (by omega) (by omega)
  simp only [yq]
  rw [← ih]
  by_cases hm:s ∈ nm
  ·try simp only [if_pos hm]at on
   rw [qn]
   simp only [go_sem,qa,qb,qc,qd,qe,qf,reduceCtorEq,qac,h1,e1,g,ix,on,tkn,tko]
  ·try simp only [if_neg hm]at on
   rw [qn]
   simp only [go_sem,qa,qb,qc,qd,qe,qf,reduceCtorEq,qac,h1,e1,g,ix,on,tkn,tko]
end Go.Vm
namespace Go.Vm
theorem X7(fs:List Fl) (s:Str):(qz fs s).length≤3001:=by
 unfold qz
 split
 ·exact qiq _
 ·simp
theorem qin(τ τ':Bool) (fs:List Fl) (hfs:fs.length≤2^40) (U:List Str) (hU:U.length < 60000000000) (hI: ∀ s,∀ x ∈ qz fs s,x ∈ U): ∀ (n i:Nat) (nm:List Str),nm.Nodup→(∀ x ∈ nm,x ∈ U)→i≤nm.length→U.length < i+n→
 lw qg JF ⟨[(0,.i τ (fs.map (iFl τ'))),(5,.s (100000,0) 0 (nm).length),(6,I i)],[((100000,0),1,(nm).map S)]⟩=some (.exit 0,⟨[(5,.s (100000,0) 0 (yb fs n i nm).length)],[((100000,0),1,(yb fs n i nm).map S)]⟩)
 |0,i,nm,h1,h2,h3,h4=>by
  have:=QR h2 h1
  omega
 |n+1,i,nm,h1,h2,h3,h4=>by
  have hl:=QR h2 h1
  cases hx:nm[i]? with
  |none=>
   have hge:nm.length≤i:=by rw [List.getElem?_eq_none_iff]at hx;exact hx
   have c1: ¬ (i:Int) < (nm.length:Int):=by omega
   simp only [yb,hx]
   rw [qn]
   simp only [go_sem,qa,qb,qc,qd,qe,qf,reduceCtorEq,qbT,c1]
  |some s=>
   have hlt:=(List.getElem?_eq_some_iff.1 hx).1
   have c1:(i:Int) < (nm.length:Int):=by omega
   have e1:w64 ((i:Int)+1)=((i+1:Nat):Int):=by rw [qj]<;>omega
   have g:=q7 (f:=S) hx
   have ix:=xL (k:=(100000,0)) (e:=1) (xs:=nm.map S) (i:=i) (len:=nm.length) (by omega) (by simp)
   have ic:=qeQ τ τ' fs s hfs
   have il:=X7 fs s
   have lp:=qim τ τ' fs i (qz fs s) (by omega) (qz fs s) 0 nm rfl (by omega) (by omega)
   have ad:=XV (U:=U) (qz fs s) nm h2 (hI s) h1
   have ih:=qin τ τ' fs hfs U hU hI n (i+1) (yq nm (qz fs s)) ad.2.1 ad.1 (by omega) (by omega)
   simp only [Int.natCast_zero]at lp
   simp only [yb,hx]
   rw [← ih,qn]
   simp only [go_sem,qa,qb,qc,qd,qe,qf,reduceCtorEq,qbT,c1,e1,g,ix,ic,lp,List.length_map]
theorem qlt(τ τ':Bool) (fs:List Fl) (hfs:fs.length≤2^40) (U:List Str) (hU:U.length < 60000000000) (hI: ∀ s,∀ x ∈ qz fs s,x ∈ U): ∀ (n i:Nat) (nm:List Str),nm.Nodup→(∀ x ∈ nm,x ∈ U)→i≤nm.length→U.length < i+n→
 lw qg JN ⟨[(0,.i τ (fs.map (iFl τ'))),(5,.s (100000,0) 0 (nm).length),(6,I i)],[((100000,0),1,(nm).map S)]⟩=some (.exit 0,⟨[(5,.s (100000,0) 0 (yb fs n i nm).length)],[((100000,0),1,(yb fs n i nm).map S)]⟩)
 |0,i,nm,h1,h2,h3,h4=>by
  have:=QR h2 h1
  omega
 |n+1,i,nm,h1,h2,h3,h4=>by
  have hl:=QR h2 h1
  cases hx:nm[i]? with
  |none=>
   have hge:nm.length≤i:=by rw [List.getElem?_eq_none_iff]at hx;exact hx
   have c1: ¬ (i:Int) < (nm.length:Int):=by omega
   simp only [yb,hx]
   rw [qn]
   simp only [go_sem,qa,qb,qc,qd,qe,qf,reduceCtorEq,qbY,c1]
  |some s=>
   have hlt:=(List.getElem?_eq_some_iff.1 hx).1
   have c1:(i:Int) < (nm.length:Int):=by omega
   have e1:w64 ((i:Int)+1)=((i+1:Nat):Int):=by rw [qj]<;>omega
   have g:=q7 (f:=S) hx
   have ix:=xL (k:=(100000,0)) (e:=1) (xs:=nm.map S) (i:=i) (len:=nm.length) (by omega) (by simp)
   have ic:=qgg τ τ' fs s hfs
   have il:=X7 fs s
   have lp:=qls τ τ' fs i (qz fs s) (by omega) (qz fs s) 0 nm rfl (by omega) (by omega)
   have ad:=XV (U:=U) (qz fs s) nm h2 (hI s) h1
   have ih:=qlt τ τ' fs hfs U hU hI n (i+1) (yq nm (qz fs s)) ad.2.1 ad.1 (by omega) (by omega)
   simp only [Int.natCast_zero]at lp
   simp only [yb,hx]
   rw [← ih,qn]
   simp only [go_sem,qa,qb,qc,qd,qe,qf,reduceCtorEq,qbY,c1,e1,g,ix,ic,lp,List.length_map]
def qH(fs:List Fl) (ws:List Str):List Str:=yb fs 60000000000 0 ws
theorem qio(τ τ':Bool) (fs:List Fl) (hfs:fs.length≤Lm) (ws:List Str) (h1:ws.Nodup) (U:List Str) (hU:U.length < 60000000000) (hI: ∀ s,∀ x ∈ qz fs s,x ∈ U) (h2: ∀ x ∈ ws,x ∈ U) (hw:ws.length≤3001):
 cr qg qbu [.i τ (fs.map (iFl τ')),.i true (ws.map S)]=some (.o 1 ((qH fs ws).map S)):=by
 have lp:=qin τ τ' fs (by unfold Lm at hfs;omega) U hU hI 60000000000 0 ws h1 h2 (Nat.zero_le _) (by omega)
 simp only [Int.natCast_zero]at lp
 have l3:decide (ws.length*16≤lim)=true:=decide_eq_true (by rw [qW];omega)
 have l4:decide (ws.length≤lim)=true:=decide_eq_true (by rw [qW];omega)
 have z1:yc (ws.map S)=true:=qbh (f:=S) (fun _=>rfl) ws
 have z2:kU 1 (ws.map S)=true:=qao (f:=S) (fun _=>⟨rfl,rfl⟩) ws
 unfold qH
 generalize yb fs 60000000000 0 ws=R at*
 have tk:(R.map S).take R.length=R.map S:=List.take_of_length_le (by simp)
 have tk2:(ws.map S).take ws.length=ws.map S:=List.take_of_length_le (by simp)
 rw [qv qrn rfl]
 simp only [go_sem,qa,qb,qc,qd,qe,qf,reduceCtorEq,Y8,lp,tk,tk2,l3,l4,z1,z2,List.length_map,Nat.zero_add,List.nil_append,List.length_nil]
theorem qnf(τ τ':Bool) (fs:List Fl) (hfs:fs.length≤Lm) (s:Str):
 cr qg qdB [.i τ (fs.map (iFl τ')),S s]=some (.o 1 ((qH fs [s]).map S)):=by
 have h:=fun t=>qio t τ' fs hfs [s] (by simp) (zD fs s) (jN fs s hfs) (k9 fs s) (by simp [zD]) (by simp)
 simp only [List.map_cons,List.map_nil]at h
 generalize qH fs [s]=R at*
 have tk:(R.map S).take R.length=R.map S:=List.take_of_length_le (by simp)
 rw [qv qq0 rfl]
 simp only [go_sem,qa,qb,qc,qd,qe,qf,reduceCtorEq,Y0,h,tk]
theorem qln(τ τ':Bool) (fs:List Fl) (hfs:fs.length≤Lm) (s:Str):
 cr qg qbD [.i τ (fs.map (iFl τ')),S s]=some (.o 1 ((qH fs [s]).map S)):=by
 have lp:=qlt τ τ' fs (by unfold Lm at hfs;omega) (zD fs s) (jN fs s hfs) (k9 fs s) 60000000000 0 [s] (by simp) (by simp [zD]) (Nat.zero_le _) (by have:=jN fs s hfs;omega)
 simp only [Int.natCast_zero,List.map_cons,List.map_nil,List.length_cons,List.length_nil]at lp
 unfold qH
 generalize yb fs 60000000000 0 [s]=R at*
 have tk:(R.map S).take R.length=R.map S:=List.take_of_length_le (by simp)
 rw [qv qrL rfl]
 simp only [go_sem,qa,qb,qc,qd,qe,qf,reduceCtorEq,Xl,lp,tk]
end Go.Vm
namespace Go.Vm
theorem qfC(fs:List Fl) (U:List Str) (hI: ∀ s,∀ x ∈ qz fs s,x ∈ U): ∀ (n i:Nat) (nm:List Str),nm.Nodup→(∀ x ∈ nm,x ∈ U)→(yb fs n i nm).length≤U.length
 |0,i,nm,h1,h2=>QR h2 h1
 |n+1,i,nm,h1,h2=>by
  simp only [yb]
  split
  ·exact QR h2 h1
  ·rename_i s hs
   have ad:=XV (U:=U) (qz fs s) nm h2 (hI s) h1
   exact qfC fs U hI n _ _ ad.2.1 ad.1
theorem qfD(fs:List Fl) (hfs:fs.length≤Lm) (s:Str):(qH fs [s]).length < 60000000000:=by
 have:=qfC fs (zD fs s) (k9 fs s) 60000000000 0 [s] (by simp) (by simp [zD])
 have:=jN fs s hfs
 unfold qH;omega
inductive Rch (fs:List Fl):Str→Str→Prop
 |refl (x:Str):Rch fs x x
 |step {x y z:Str}:Rch fs x y→z ∈ qz fs y→Rch fs x z
theorem Rch.trans {fs:List Fl} {x y z:Str} (h:Rch fs x y) (h':Rch fs y z):Rch fs x z:=by
 induction h' with
 |refl=>exact h
 |step _ hz ih=>exact .step ih hz
theorem qqC(nm:List Str) (s x:Str):x ∈ qX nm s↔x ∈ nm∨x=s:=by
 unfold qX
 split
 ·rename_i h
  exact ⟨.inl,fun h'=>h'.elim id (fun e=>e ▸ h)⟩
 ·simp
theorem qcG: ∀ (ws nm:List Str) (x:Str),x ∈ yq nm ws↔x ∈ nm∨x ∈ ws
 |[],nm,x=>by simp [yq]
 |s::r,nm,x=>by
  simp only [yq,qcG r (qX nm s) x,qqC,List.mem_cons]
  constructor
  ·rintro ((h|h)|h)
   ·exact .inl h
   ·exact .inr (.inl h)
   ·exact .inr (.inr h)
  ·rintro (h|h|h)
   ·exact .inl (.inl h)
   ·exact .inl (.inr h)
   ·exact .inr h
theorem qsp(nm:List Str) (s:Str) (j:Nat) (hj:j < nm.length):(qX nm s)[j]? =nm[j]? :=by
 unfold qX
 split
 ·rfl
 ·rw [List.getElem?_append_left hj]
theorem qj3: ∀ (ws nm:List Str) (j:Nat),j < nm.length→(yq nm ws)[j]? =nm[j]?
 |[],nm,j,h=>rfl
 |s::r,nm,j,h=>by
  have g:=qjD nm s
  simp only [yq]
  rw [qj3 r (qX nm s) j (by omega),qsp nm s j h]
theorem qkE(fs:List Fl): ∀ (n i:Nat) (nm:List Str) (x:Str),x ∈ yb fs n i nm→ ∃ g ∈ nm,Rch fs g x
 |0,i,nm,x,h=>⟨x,h,.refl x⟩
 |n+1,i,nm,x,h=>by
  simp only [yb]at h
  split at h
  ·exact ⟨x,h,.refl x⟩
  ·rename_i s hs
   obtain ⟨g,hg,hr⟩:=qkE fs n _ _ x h
   rcases (qcG _ _ _).1 hg with hg|hg
   ·exact ⟨g,hg,hr⟩
   ·exact ⟨s,List.mem_of_getElem? hs,Rch.trans (.step (.refl s) hg) hr⟩
theorem qkC(fs:List Fl) (U:List Str) (hI: ∀ s,∀ x ∈ qz fs s,x ∈ U): ∀ (n i:Nat) (nm:List Str),nm.Nodup→(∀ x ∈ nm,x ∈ U)→i≤nm.length→U.length < i+n→
 (∀ j y,j < i→nm[j]? =some y→ ∀ z ∈ qz fs y,z ∈ nm)→
 (∀ x ∈ nm,x ∈ yb fs n i nm)∧(∀ y ∈ yb fs n i nm,∀ z ∈ qz fs y,z ∈ yb fs n i nm)
 |0,i,nm,h1,h2,h3,h4,hinv=>by
  have:=QR h2 h1
  omega
 |n+1,i,nm,h1,h2,h3,h4,hinv=>by
  cases hx:nm[i]? with
  |none=>
   have hge:nm.length≤i:=by rw [List.getElem?_eq_none_iff]at hx;exact hx
   simp only [yb,hx]
   refine ⟨fun x h=>h,fun y hy z hz=> ?_⟩
   obtain ⟨j,hj,rfl⟩:=List.getElem_of_mem hy
   exact hinv j _ (by omega) (List.getElem?_eq_getElem hj) z hz
  |some s=>
   have hlt:=(List.getElem?_eq_some_iff.1 hx).1
   have ad:=XV (U:=U) (qz fs s) nm h2 (hI s) h1
   have ih:=qkC fs U hI n (i+1) (yq nm (qz fs s)) ad.2.1 ad.1 (by omega) (by omega) (fun j y hj hy z hz=>by
    rw [qj3 _ _ j (by omega)]at hy
    rw [qcG]
    by_cases hji:j < i
    ·exact .inl (hinv j y hji hy z hz)
    ·obtain rfl:j=i:=by omega
     rw [hx]at hy
     obtain rfl:=Option.some.inj hy
     exact .inr hz)
   simp only [yb,hx]
   exact ⟨fun x h=>ih.1 x ((qcG _ _ _).2 (.inl h)),ih.2⟩
theorem QQ(fs:List Fl) (ws:List Str) (hn:ws.Nodup) (U:List Str) (hU:U.length < 60000000000) (hI: ∀ s,∀ x ∈ qz fs s,x ∈ U) (hw: ∀ x ∈ ws,x ∈ U) (x:Str):x ∈ qH fs ws↔ ∃ g ∈ ws,Rch fs g x:=by
 unfold qH
 refine ⟨qkE fs _ _ _ x, ?_⟩
 rintro ⟨g,hg,hr⟩
 obtain ⟨c1,c2⟩:=qkC fs U hI 60000000000 0 ws hn hw (Nat.zero_le _) (by omega) (fun j y hj=>by omega)
 induction hr with
 |refl=>exact c1 g hg
 |step _ hz ih=>exact c2 _ ih _ hz
def cyc(fs:List Fl) (s:Str):Prop:= ∃ f g,Rch fs s f∧g ∈ qz fs f∧Rch fs g f
theorem qgM: ∀ (ts:List Tm) (nm:List Str),nm.Nodup→(yK nm ts).Nodup
 |[],nm,h=>h
 |t::r,nm,h=>by
  simp only [yK]
  refine qgM r _ ?_
  unfold kz
  split
  ·exact qjE h
  ·exact h
theorem qcm(fs:List Fl) (s:Str):(qz fs s).Nodup:=by
 unfold qz
 split
 ·unfold jG;exact qgM _ _ (by simp)
 ·simp
end Go.Vm
namespace Go.Vm
theorem qsP(fs:List Fl) (hfs:fs.length≤Lm) (f:Str):(qH fs (qz fs f)).length < 60000000000:=by
 have:=qfC fs (zD fs f) (k9 fs f) 60000000000 0 (qz fs f) (qcm fs f) (k9 fs f f)
 have:=jN fs f hfs
 unfold qH;omega
theorem qmL(τ τ':Bool) (fs:List Fl) (hfs:fs.length≤Lm) (f:Str):cr qg jv [S f,.q true [.i τ (fs.map (iFl τ'))] 0 0]=some (B (decide (f ∈ qH fs (qz fs f)))):=by
 have ii:=qeQ τ τ' fs f (by unfold Lm at hfs;omega)
 have rb:=qio τ τ' fs hfs (qz fs f) (qcm fs f) (zD fs f) (jN fs f hfs) (k9 fs f) (k9 fs f f) (X7 fs f)
 have rl:=qsP fs hfs f
 have co:=Jg true (qH fs (qz fs f)) f (by omega)
 generalize qH fs (qz fs f)=R at*
 generalize qz fs f=ws at*
 have tk:(R.map S).take R.length=R.map S:=List.take_of_length_le (by simp)
 have tk2:(ws.map S).take ws.length=ws.map S:=List.take_of_length_le (by simp)
 rw [qv qqY rfl]
 simp only [go_sem,qa,qb,qc,qd,qe,qf,reduceCtorEq,YZ,ii,rb,co,tk,tk2]
theorem qia(q:V) (g:Str→Bool) (R:List Str) (hl:R.length < 2^40) (hg: ∀ x ∈ R,cr qg jv [S x,.q true [q] 0 0]=some (B (g x))): ∀ (r:List Str) (k:Nat),R.drop k=r→k+r.length=R.length→
 (r.any g=false→lw qg Zk ⟨[(0,.i true (R.map S)),(1,.f (Fn.func jv) [] [.q true [q] 0 0]),(7,I R.length),(8,I k)],[]⟩=some (.exit 0,⟨[],[]⟩))∧
 (r.any g=true→ ∃ j:Nat,lw qg Zk ⟨[(0,.i true (R.map S)),(1,.f (Fn.func jv) [] [.q true [q] 0 0]),(7,I R.length),(8,I k)],[]⟩=some (.ret,⟨[(4,I j)],[]⟩))
 |[],k,h,hk=>by
  have h1: ¬ (k:Int) < (R.length:Int):=by simp only [List.length_nil]at hk;omega
  refine ⟨fun _=> ?_,fun h=>by simp at h⟩
  rw [qn]
  simp only [go_sem,qa,qb,qc,qd,qe,qf,reduceCtorEq,J7,h1]
 |y::r,k,h,hk=>by
  simp only [List.length_cons]at hk
  have hx:R[k]? =some y:=by
   have:=congrArg (fun z=>z[0]?) h
   simpa using this
  have hd:R.drop (k+1)=r:=by
   have:=congrArg (fun z=>z.drop 1) h
   simpa [List.drop_drop,Nat.add_comm]using this
  have h1:(k:Int) < (R.length:Int):=by omega
  have e1:w64 ((k:Int)+1)=((k+1:Nat):Int):=by rw [qj]<;>omega
  have gg:=q7 (f:=S) hx
  have a1:=fun T=>q8 (τ:=true) (T:=T) (e:=1) gg rfl
  have hy:=hg y (List.mem_of_getElem? hx)
  have ih:=qia q g R hl hg r (k+1) hd (by omega)
  cases hgy:g y with
  |true=>
   rw [hgy]at hy
   refine ⟨fun h=>by simp [hgy]at h,fun _=>⟨k, ?_⟩⟩
   rw [qn]
   simp only [go_sem,qa,qb,qc,qd,qe,qf,reduceCtorEq,J7,h1,e1,gg,a1,hy]
  |false=>
   rw [hgy]at hy
   have stp:lw qg Zk ⟨[(0,.i true (R.map S)),(1,.f (Fn.func jv) [] [.q true [q] 0 0]),(7,I R.length),(8,I k)],[]⟩=lw qg Zk ⟨[(0,.i true (R.map S)),(1,.f (Fn.func jv) [] [.q true [q] 0 0]),(7,I R.length),(8,I ((k+1:Nat):Int))],[]⟩:=by
    rw [qn]
    simp only [go_sem,qa,qb,qc,qd,qe,qf,reduceCtorEq,J7,h1,e1,gg,a1,hy]
   rw [stp]
   simp only [List.any_cons,hgy,Bool.false_or]
   exact ih
theorem qmE(q:V) (g:Str→Bool) (R:List Str) (hl:R.length < 2^40) (hg: ∀ x ∈ R,cr qg jv [S x,.q true [q] 0 0]=some (B (g x))):
 cr qg qdP [.i true (R.map S),.f (Fn.func jv) [] [.q true [q] 0 0]]=some (B (R.any g)):=by
 obtain ⟨l1,l2⟩:=qia q g R hl hg R 0 rfl (by omega)
 simp only [Int.natCast_zero]at l1 l2
 have ix: ∃ n:Int,cr qg qdQ [.i true (R.map S),.f (Fn.func jv) [] [.q true [q] 0 0]]=some (I n)∧(R.any g=decide (0≤n)):=by
  rw [qv qrH rfl]
  cases h:R.any g with
  |false=>
   have lp:=l1 h
   refine ⟨-1, ?_,rfl⟩
   simp only [go_sem,qa,qb,qc,qd,qe,qf,reduceCtorEq,Z2,lp,List.length_map]
  |true=>
   obtain ⟨j,lp⟩:=l2 h
   refine ⟨j, ?_,(decide_eq_true (by omega)).symm⟩
   simp only [go_sem,qa,qb,qc,qd,qe,qf,reduceCtorEq,Z2,lp,List.length_map]
 obtain ⟨n,hn,he⟩:=ix
 rw [qv qrF rfl,he]
 simp only [go_sem,qa,qb,qc,qd,qe,qf,reduceCtorEq,Xj,hn]
theorem qie(τ τ':Bool) (fs:List Fl) (hfs:fs.length≤Lm) (s:Str):cr qg qbn [.i τ (fs.map (iFl τ')),S s]=some (B ((qH fs [s]).any fun f=>decide (f ∈ qH fs (qz fs f)))):=by
 have i1:=fun t=>qnf t τ' fs hfs s
 have rl:=qfD fs hfs s
 have cf:=qmE (.i τ (fs.map (iFl τ'))) (fun f=>decide (f ∈ qH fs (qz fs f))) (qH fs [s]) (by omega) (fun x _=>qmL τ τ' fs hfs x)
 generalize qH fs [s]=R at*
 have tk:(R.map S).take R.length=R.map S:=List.take_of_length_le (by simp)
 rw [qv qqX rfl]
 simp only [go_sem,qa,qb,qc,qd,qe,qf,reduceCtorEq,YY,i1,tk,cf]
end Go.Vm
namespace Go.Vm
theorem qhE(τ τ':Bool) (fs:List Fl) (hfs:fs.length≤Lm) (R:List Str) (hR:R.length < 60000000000) (i:Nat) (f:Str) (hf:R[i]? =some f) (ws:List Str) (hw:ws.length≤3001): ∀ (r:List Str) (j:Nat),ws.drop j=r→j+r.length=ws.length→
 (r.any (fun g=>decide (f ∈ qH fs [g]))=true→lw qg Zl ⟨[(0,.i τ (fs.map (iFl τ'))),(5,.i false (R.map S)),(6,I i),(7,.i false (ws.map S)),(8,I j)],[]⟩=some (.ret,⟨[(4,B true)],[]⟩))∧(r.any (fun g=>decide (f ∈ qH fs [g]))=false→lw qg Zl ⟨[(0,.i τ (fs.map (iFl τ'))),(5,.i false (R.map S)),(6,I i),(7,.i false (ws.map S)),(8,I j)],[]⟩=some (.exit 2,⟨[(0,.i τ (fs.map (iFl τ'))),(5,.i false (R.map S)),(6,I i)],[]⟩))
 |[],j,h,hj=>by
  have h1: ¬ (j:Int) < (ws.length:Int):=by simp only [List.length_nil]at hj;omega
  refine ⟨fun h=>by simp at h,fun _=> ?_⟩
  rw [qn]
  simp only [go_sem,qa,qb,qc,qd,qe,qf,reduceCtorEq,J9,h1,List.length_map]
 |y::r,j,h,hj=>by
  simp only [List.length_cons]at hj
  have hx:ws[j]? =some y:=by
   have:=congrArg (fun z=>z[0]?) h
   simpa using this
  have hd:ws.drop (j+1)=r:=by
   have:=congrArg (fun z=>z.drop 1) h
   simpa [List.drop_drop,Nat.add_comm]using this
  have h1:(j:Int) < (ws.length:Int):=by omega
  have e1:w64 ((j:Int)+1)=((j+1:Nat):Int):=by rw [qj]<;>omega
  have g1:=q7 (f:=S) hx
  have a1:=fun T=>q8 (τ:=false) (T:=T) (e:=1) g1 rfl
  have g2:=q7 (f:=S) hf
  have a2:=fun T=>q8 (τ:=false) (T:=T) (e:=1) g2 rfl
  have fr:=qln τ τ' fs hfs y
  have rl:=qfD fs hfs y
  have hs:=fun t=>qct t (qH fs [y]) f (by omega)
  have ih:=qhE τ τ' fs hfs R hR i f hf ws hw r (j+1) hd (by omega)
  by_cases hm:f ∈ qH fs [y]
  ·have hs': ∀ t,cr qg Ym [.i t ((qH fs [y]).map S),S f]=some (B true):=fun t=>by rw [hs t,decide_eq_true hm]
   refine ⟨fun _=> ?_,fun h=>by rw [List.any_cons,decide_eq_true hm]at h;cases h⟩
   rw [qn]
   simp only [go_sem,qa,qb,qc,qd,qe,qf,reduceCtorEq,J9,h1,e1,g1,a1,g2,a2,fr,hs',List.length_map]
  ·have hs': ∀ t,cr qg Ym [.i t ((qH fs [y]).map S),S f]=some (B false):=fun t=>by rw [hs t,decide_eq_false hm]
   have stp:lw qg Zl ⟨[(0,.i τ (fs.map (iFl τ'))),(5,.i false (R.map S)),(6,I i),(7,.i false (ws.map S)),(8,I j)],[]⟩=lw qg Zl ⟨[(0,.i τ (fs.map (iFl τ'))),(5,.i false (R.map S)),(6,I i),(7,.i false (ws.map S)),(8,I ((j+1:Nat):Int))],[]⟩:=by
    rw [qn]
    simp only [go_sem,qa,qb,qc,qd,qe,qf,reduceCtorEq,J9,h1,e1,g1,a1,g2,a2,fr,hs',List.length_map]
   rw [stp,List.any_cons,decide_eq_false hm,Bool.false_or]
   exact ih
theorem qhF(τ τ':Bool) (fs:List Fl) (hfs:fs.length≤Lm) (R:List Str) (hR:R.length < 60000000000): ∀ (r:List Str) (i:Nat),R.drop i=r→i+r.length=R.length→
 (r.any (fun f=>(qz fs f).any (fun g=>decide (f ∈ qH fs [g])))=true→lw qg Zm ⟨[(0,.i τ (fs.map (iFl τ'))),(5,.i false (R.map S)),(6,I i)],[]⟩=some (.ret,⟨[(4,B true)],[]⟩))∧(r.any (fun f=>(qz fs f).any (fun g=>decide (f ∈ qH fs [g])))=false→lw qg Zm ⟨[(0,.i τ (fs.map (iFl τ'))),(5,.i false (R.map S)),(6,I i)],[]⟩=some (.exit 0,⟨[],[]⟩))
 |[],i,h,hi=>by
  have h1: ¬ (i:Int) < (R.length:Int):=by simp only [List.length_nil]at hi;omega
  refine ⟨fun h=>by simp at h,fun _=> ?_⟩
  rw [qn]
  simp only [go_sem,qa,qb,qc,qd,qe,qf,reduceCtorEq,qaa,h1,List.length_map]
 |f::r,i,h,hi=>by
  simp only [List.length_cons]at hi
  have hx:R[i]? =some f:=by
   have:=congrArg (fun z=>z[0]?) h
   simpa using this
  have hd:R.drop (i+1)=r:=by
   have:=congrArg (fun z=>z.drop 1) h
   simpa [List.drop_drop,Nat.add_comm]using this
  have h1:(i:Int) < (R.length:Int):=by omega
  have e1:w64 ((i:Int)+1)=((i+1:Nat):Int):=by rw [qj]<;>omega
  have g1:=q7 (f:=S) hx
  have a1:=fun T=>q8 (τ:=false) (T:=T) (e:=1) g1 rfl
  have ii:=qgg τ τ' fs f (by unfold Lm at hfs;omega)
  have lp:=qhE τ τ' fs hfs R hR i f hx (qz fs f) (X7 fs f) (qz fs f) 0 rfl (by omega)
  have ih:=qhF τ τ' fs hfs R hR r (i+1) hd (by omega)
  simp only [Int.natCast_zero]at lp
  cases hm:(qz fs f).any (fun g=>decide (f ∈ qH fs [g]))with
  |true=>
   have lp1:=lp.1 hm
   refine ⟨fun _=> ?_,fun h=>by rw [List.any_cons,hm]at h;cases h⟩
   rw [qn]
   simp only [go_sem,qa,qb,qc,qd,qe,qf,reduceCtorEq,qaa,h1,e1,g1,a1,ii,lp1,List.length_map]
  |false=>
   have lp1:=lp.2 hm
   have stp:lw qg Zm ⟨[(0,.i τ (fs.map (iFl τ'))),(5,.i false (R.map S)),(6,I i)],[]⟩=lw qg Zm ⟨[(0,.i τ (fs.map (iFl τ'))),(5,.i false (R.map S)),(6,I ((i+1:Nat):Int))],[]⟩:=by
    rw [qn]
    simp only [go_sem,qa,qb,qc,qd,qe,qf,reduceCtorEq,qaa,h1,e1,g1,a1,ii,lp1,List.length_map]
   rw [stp,List.any_cons,hm,Bool.false_or]
   exact ih
theorem qt6(τ τ':Bool) (fs:List Fl) (hfs:fs.length≤Lm) (s:Str):cr qg qbC [.i τ (fs.map (iFl τ')),S s]=some (B ((qH fs [s]).any fun f=>(qz fs f).any (fun g=>decide (f ∈ qH fs [g])))):=by
 have fr:=qln τ τ' fs hfs s
 have rl:=qfD fs hfs s
 have lp:=qhF τ τ' fs hfs (qH fs [s]) rl (qH fs [s]) 0 rfl (by omega)
 simp only [Int.natCast_zero]at lp
 rw [qv qrJ rfl]
 cases hm:(qH fs [s]).any fun f=>(qz fs f).any (fun g=>decide (f ∈ qH fs [g]))with
 |true=>
  have lp1:=lp.1 hm
  simp only [go_sem,qa,qb,qc,qd,qe,qf,reduceCtorEq,Z4,fr,lp1,List.length_map]
 |false=>
  have lp1:=lp.2 hm
  simp only [go_sem,qa,qb,qc,qd,qe,qf,reduceCtorEq,Z4,fr,lp1,List.length_map]
theorem qmM(fs:List Fl) (hfs:fs.length≤Lm) (f:Str):(qz fs f).any (fun g=>decide (f ∈ qH fs [g]))=decide (f ∈ qH fs (qz fs f)):=by
 have hl:=jN fs f hfs
 have hI:=k9 fs f
 rw [Bool.eq_iff_iff,List.any_eq_true,decide_eq_true_eq,QQ fs (qz fs f) (qcm fs f) (zD fs f) hl hI (hI f)]
 constructor
 ·rintro ⟨g,hg,h⟩
  rw [decide_eq_true_eq,QQ fs [g] (by simp) (zD fs f) hl hI (fun x hx=>by
   simp only [List.mem_cons,List.not_mem_nil,or_false]at hx;subst hx;exact hI f _ hg)]at h
  obtain ⟨y,hy,hr⟩:=h
  simp only [List.mem_cons,List.not_mem_nil,or_false]at hy
  subst hy
  exact ⟨y,hg,hr⟩
 ·rintro ⟨g,hg,h⟩
  refine ⟨g,hg, ?_⟩
  rw [decide_eq_true_eq,QQ fs [g] (by simp) (zD fs f) hl hI (fun x hx=>by
   simp only [List.mem_cons,List.not_mem_nil,or_false]at hx;subst hx;exact hI f _ hg)]
  exact ⟨g,by simp,h⟩
theorem qt5(τ τ':Bool) (fs:List Fl) (hfs:fs.length≤Lm) (s:Str):cr qg qbC [.i τ (fs.map (iFl τ')),S s]=some (B ((qH fs [s]).any fun f=>decide (f ∈ qH fs (qz fs f)))):=by
 rw [qt6 τ τ' fs hfs s]
 simp only [qmM fs hfs]
end Go.Vm
namespace Go.Vm
theorem qqA: ∀ (n:Nat) (k:Int) (l:Str),k≤n→0≤k→k < 9223372036854775808→l.length+n≤2^62→
 ∃ l',lw qg JK ⟨[(0,I k),(3,S l)],[]⟩=some (.exit 0,⟨[(3,S l')],[]⟩)∧l'.length≤2^62:=by
 intro n
 induction n with
 |zero=>
  intro k l h1 h2 hbig h3
  obtain rfl:k=0:=by omega
  rw [qn]
  simp only [go_sem,qa,qb,qc,qd,qe,qf,reduceCtorEq,J6,show ¬ (0:Int) < 0 by decide]
  exact ⟨l,rfl,by omega⟩
 |succ n ih=>
  intro k l h1 h2 hbig h3
  rw [qn]
  by_cases h:0 < k
  ·have e1:zw .rem (I k) (I 10)=_:=qmo (by decide)
   have e2:zw .quo (I k) (I 10)=_:=qmn (by decide)
   have hq:k.tdiv 10=k / 10:=Int.tdiv_eq_ediv_of_nonneg h2
   have e3:w64 (k.tdiv 10)=k / 10:=by rw [hq,qj]<;>omega
   have hm:k.tmod 10=k % 10:=Int.tmod_eq_emod_of_nonneg h2
   have e4:w64 (48+k.tmod 10)=48+k % 10:=by rw [hm,qj]<;>omega
   have e5:IntKind.u8.wrap (48+k % 10)=48+k % 10:=by
    have:(48+k % 10) % 256=48+k % 10:=by omega
    exact this
   have e6:kV [U8 (48+k % 10)]=some [UInt8.ofNat (48+k % 10).toNat]:=rfl
   have e7:zw .add (S [UInt8.ofNat (48+k % 10).toNat]) (S l)=_:=qg5 (by simp only [List.length_cons,List.length_nil];omega)
   obtain ⟨l',g1,g2⟩:=ih (k / 10) ([UInt8.ofNat (48+k % 10).toNat]++l) (by omega) (by omega) (by omega) (by simp only [List.length_append,List.length_cons,List.length_nil];omega)
   refine ⟨l', ?_,g2⟩
   simp only [go_sem,qa,qb,qc,qd,qe,qf,reduceCtorEq,J6,h,e1,e2,e3,e4,e5,e6,e7,List.cons_append,List.nil_append]at g1 ⊢
   exact g1
  ·obtain rfl:k=0:=by omega
   simp only [go_sem,qa,qb,qc,qd,qe,qf,reduceCtorEq,J6,show ¬ (0:Int) < 0 by decide]
   exact ⟨l,rfl,by omega⟩
theorem qjd(k:Int) (hk:k < 4000000000000000000): ∃ s:Str,s.length≤2^62+1∧cr qg Yj [I k]=some (S s):=by
 rw [qv qrB rfl]
 by_cases h:k≤0
 ·simp only [go_sem,qa,qb,qc,qd,qe,qf,reduceCtorEq,Z1,h]
  exact ⟨_,by decide,rfl⟩
 ·obtain ⟨l',g1,g2⟩:=qqA k.toNat k [] (by omega) (by omega) (by omega) (by simp only [List.length_nil];omega)
  have e7:zw .add (S [109]) (S l')=_:=qg5 (by simp only [List.length_cons,List.length_nil];omega)
  simp only [go_sem,qa,qb,qc,qd,qe,qf,reduceCtorEq,Z1,h,g1,e7]
  exact ⟨_,by simp only [List.length_append,List.length_cons,List.length_nil];omega,rfl⟩
end Go.Vm
namespace Go.Vm
open Classical in
noncomputable def mkT(k:Int):Str:=if h:k < 4000000000000000000 then (qjd k h).choose else []
theorem qcI(k:Int) (h:k < 4000000000000000000):cr qg Yj [I k]=some (S (mkT k)):=by
 unfold mkT;rw [dif_pos h];exact (qjd k h).choose_spec.2
mutual
noncomputable def qaM:Tm→Int→Tm × Int
 | .mk _ _ _ ks,k=>(.mk k (mkT (k+1)) (k+2) (YI ks (k+3)).1,(YI ks (k+3)).2)
noncomputable def YI:List Tm→Int→List Tm × Int
 |[],k=>([],k)
 |t::ts,k=>((qaM t k).1::(YI ts (qaM t k).2).1,(YI ts (qaM t k).2).2)
end
mutual
theorem qqz: ∀ (t:Tm) (k:Int),(qaM t k).2=k+3*nT t
 | .mk _ _ _ ks,k=>by simp only [qaM,nT,qje ks (k+3)];omega
theorem qje: ∀ (ts:List Tm) (k:Int),(YI ts k).2=k+3*nTs ts
 |[],k=>by simp [YI,nTs]
 |t::ts,k=>by simp only [YI,nTs,qje ts,qqz t k];omega
end
end Go.Vm
namespace Go.Vm
noncomputable def mkL:Int→List Str→List Str
 |_,[]=>[]
 |k,_::r=>mkT k::mkL (k+1) r
theorem Ki: ∀ (r:List Str) (k:Int),(mkL k r).length=r.length
 |[],k=>rfl
 |x::r,k=>by simp only [mkL,List.length_cons,Ki r]
end Go.Vm
namespace Go.Vm
end Go.Vm
namespace Go.Vm
theorem qjb(n:Nat) (hn:n≤2^37): ∀ (r ys:List Str) (k:Int),ys.length+r.length=n→0≤k→k+r.length≤2^40→
 lw qg JJ ⟨[(0,.s (0,0) 0 n),(1,I k),(5,I (ys.length:Nat))],[((0,0),1,(ys++r).map S)]⟩=
  some (.exit 0,⟨[(1,I (k+(r.length:Nat)))],[((0,0),1,(ys++mkL k r).map S)]⟩)
 |[],ys,k,h,h0,hk=>by
  have h1: ¬ ((ys.length:Nat):Int) < (n:Int):=by simp only [List.length_nil]at h;omega
  simp only [mkL,List.length_nil,Int.natCast_zero,Int.add_zero]
  rw [qn]
  simp only [go_sem,qa,qb,qc,qd,qe,qf,reduceCtorEq,qbW,h1]
 |x::r,ys,k,h,h0,hk=>by
  simp only [List.length_cons]at h hk
  have h1:((ys.length:Nat):Int) < (n:Int):=by omega
  have mk:=qcI k (by omega)
  have e1:w64 (k+1)=k+1:=by rw [qj]<;>omega
  have e2:w64 (((ys.length:Nat):Int)+1)=((ys.length+1:Nat):Int):=by rw [qj]<;>omega
  have ix:=fun y=>xL (k:=(0,0)) (e:=1) (xs:=ys.map S++y::r.map S) (i:=ys.length) (len:=n) (by omega) (by simp only [List.length_append,List.length_map,List.length_cons];omega)
  have cg:=fun y zs=>X0 (ys.map S) y zs ys.length (by simp)
  have cs:=fun y y' zs=>X1 (ys.map S) y y' zs ys.length (by simp)
  have ih:=qjb n hn r (ys++[mkT k]) (k+1) (by simp only [List.length_append,List.length_cons,List.length_nil];omega) (by omega) (by omega)
  have ek:k+((r.length+1:Nat):Int)=k+1+(r.length:Int):=by omega
  have e3:(ys++x::r).map S=ys.map S++S x::r.map S:=by simp
  have e4:ys++[mkT k]++r=ys++mkT k::r:=by simp
  have e5:ys++[mkT k]++mkL (k+1) r=ys++mkT k::mkL (k+1) r:=by simp
  have e6:(ys++mkT k::r).map S=ys.map S++S (mkT k)::r.map S:=by simp
  rw [e4,e5,e6]at ih
  simp only [List.length_append,List.length_cons,List.length_nil,Nat.zero_add]at ih
  simp only [mkL,List.length_cons,ek]
  rw [← ih,e3,qn]
  simp only [go_sem,qa,qb,qc,qd,qe,qf,reduceCtorEq,qbW,h1,mk,e1,e2,ix,cg,cs]
theorem qjc(ts:List Str) (hl:ts.length≤2^37) (k:Int) (h0:0≤k) (hk:k≤2^20):
 cw qg qdN [.o 1 (ts.map S),I k]=some (I (k+(ts.length:Nat)),[.o 1 ((mkL k ts).map S),I k]):=by
 have lp:=qjb ts.length hl ts [] k (by simp) h0 (by omega)
 simp only [List.nil_append,List.length_nil,Int.natCast_zero]at lp
 have tk:((mkL k ts).map S).take ts.length=(mkL k ts).map S:=List.take_of_length_le (by simp [Ki])
 have ml:=Ki ts k
 rw [qI qrA rfl]
 simp only [go_sem,qa,qb,qc,qd,qe,qf,reduceCtorEq,Xg,qt,lp,tk,ml,List.length_map]
theorem qh7(τ:Bool) (n:Nat) (hn:n≤2^37) (all:List Str) (ha:all.length=n): ∀ (r:List Str) (i:Nat) (k:Int),all.drop i=mkL k r→i+r.length=n→0≤k→k+r.length≤2^40→
 lw qg JH ⟨[(0,.i τ (all.map S)),(1,I k),(5,I i)],[]⟩=some (.exit 0,⟨[(1,I (k+(r.length:Nat)))],[]⟩)
 |[],i,k,h,hi,h0,hk=>by
  have h1: ¬ (i:Int) < (n:Int):=by simp only [List.length_nil]at hi;omega
  simp only [List.length_nil,Int.natCast_zero,Int.add_zero]
  rw [qn]
  simp only [go_sem,qa,qb,qc,qd,qe,qf,reduceCtorEq,qbU,List.length_map,ha,h1]
 |x::r,i,k,h,hi,h0,hk=>by
  simp only [List.length_cons]at hi hk
  simp only [mkL]at h
  have hx:all[i]? =some (mkT k):=by
   have:=congrArg (fun z=>z[0]?) h
   simpa using this
  have hd:all.drop (i+1)=mkL (k+1) r:=by
   have:=congrArg (fun z=>z.drop 1) h
   simpa [List.drop_drop,Nat.add_comm]using this
  have h1:(i:Int) < (n:Int):=by omega
  have mk:=qcI k (by omega)
  have e1:w64 (k+1)=k+1:=by rw [qj]<;>omega
  have e2:w64 ((i:Int)+1)=((i+1:Nat):Int):=by rw [qj]<;>omega
  have g:=q7 (f:=S) hx
  have a1:=fun T=>q8 (τ:=τ) (T:=T) (e:=1) g rfl
  have ih:=qh7 τ n hn all ha r (i+1) (k+1) hd (by omega) (by omega) (by omega)
  have ek:k+((r.length+1:Nat):Int)=k+1+(r.length:Int):=by omega
  have dd:decide (mkT k=mkT k)=true:=decide_eq_true rfl
  simp only [List.length_cons,ek]
  rw [← ih,qn]
  simp only [go_sem,qa,qb,qc,qd,qe,qf,reduceCtorEq,qbU,List.length_map,ha,h1,mk,e1,e2,g,a1,dd]
theorem qh8(τ:Bool) (ts:List Str) (hl:ts.length≤2^37) (k:Int) (h0:0≤k) (hk:k≤2^20):
 cr qg qby [.i τ ((mkL k ts).map S),I k]=some (I (k+(ts.length:Nat))):=by
 have lp:=qh7 τ ts.length hl (mkL k ts) (Ki ts k) ts 0 k rfl (by omega) h0 (by omega)
 simp only [Int.natCast_zero]at lp
 rw [qv qry rfl]
 simp only [go_sem,qa,qb,qc,qd,qe,qf,reduceCtorEq,Xe,lp]
theorem qm4(τ τ':Bool) (ts ts':List Str) (hl:ts'.length=ts.length) (hlim:ts.length < 2^61):
 lw qg XK ⟨[(0,.i τ (ts.map S)),(1,.i τ' (ts'.map S)),(5,I 0)],[]⟩=if ts=ts' then some (.exit 0,⟨[],[]⟩)else some (.ret,⟨[(4,B false)],[]⟩):=by
 refine Qg ts (fun i r=>lw qg XK ⟨[(0,.i τ (ts.map S)),(1,.i τ' (ts'.map S)),(5,I i)],[]⟩=if r=ts'.drop i then some (.exit 0,⟨[],[]⟩)else some (.ret,⟨[(4,B false)],[]⟩)) (by omega) ?_ ?_
 ·rw [List.drop_eq_nil_of_le (by omega),if_pos rfl,qn]
  simp only [go_sem,qa,qb,qc,qd,qe,qf,reduceCtorEq,J5]
 ·intro i t r ht hi hlt e1 hir hm hr ih
  obtain ⟨t',ht'⟩:=yh (l:=ts') (i:=i) (by omega)
  have g:=q7 (f:=S) ht
  have g':=q7 (f:=S) ht'
  have a1:=q8 (τ:=τ) (T:=[]) (e:=1) g rfl
  have a2:=q8 (τ:=τ') (T:=[]) (e:=1) g' rfl
  rw [kE ht',qn]
  by_cases he:t=t'
  ·subst he
   have:(t::r=t::ts'.drop (i+1))=(r=ts'.drop (i+1)):=by simp
   simp only [this]
   rw [← ih]
   simp only [go_sem,qa,qb,qc,qd,qe,qf,reduceCtorEq,J5,hlt,a1,a2,g,g',e1]
  ·rw [if_neg (fun h=>he (by cases h;rfl))]
   simp only [go_sem,qa,qb,qc,qd,qe,qf,reduceCtorEq,J5,hlt,a1,a2,g,g',e1,he]
theorem qhO(τ τ':Bool) (ts ts':List Str) (hw:ts.length < 2^61):
 cr qg Jk [.i τ (ts.map S),.i τ' (ts'.map S)]=some (B (decide (ts=ts'))):=by
 rw [qv qrx rfl]
 by_cases hl:ts'.length=ts.length
 ·have h:=qm4 τ τ' ts ts' hl hw
  by_cases he:ts=ts'
  ·rw [if_pos he]at h
   subst he
   simp only [go_sem,qa,qb,qc,qd,qe,qf,reduceCtorEq,Q5,h]
  ·rw [if_neg he]at h
   simp only [go_sem,qa,qb,qc,qd,qe,qf,reduceCtorEq,Q5,hl,h,he]
 ·have he: ¬ ts=ts':=fun h=>hl (by rw [h])
  have hne: ¬ (ts.length:Int)=ts'.length:=by omega
  simp only [go_sem,qa,qb,qc,qd,qe,qf,reduceCtorEq,Q5,hne,he]
noncomputable def mkF:Int→List Fl→List Fl
 |_,[]=>[]
 |k,_::r=>⟨mkT k,mkT (k+1)⟩::mkF (k+2) r
theorem qcH: ∀ (r:List Fl) (k:Int),(mkF k r).length=r.length
 |[],k=>rfl
 |x::r,k=>by simp only [mkF,List.length_cons,qcH r]
theorem qja(n:Nat) (hn:n≤2^30): ∀ (r ys:List Fl) (k:Int),ys.length+r.length=n→0≤k→k+2*r.length≤2^40→
 lw qg JI ⟨[(0,.s (0,0) 0 n),(1,I k),(5,I (ys.length:Nat))],[((0,0),2,(ys++r).map oFl)]⟩=
  some (.exit 0,⟨[(1,I (k+2*(r.length:Nat)))],[((0,0),2,(ys++mkF k r).map oFl)]⟩)
 |[],ys,k,h,h0,hk=>by
  have h1: ¬ ((ys.length:Nat):Int) < (n:Int):=by simp only [List.length_nil]at h;omega
  simp only [mkF,List.length_nil,Int.natCast_zero,Int.mul_zero,Int.add_zero]
  rw [qn]
  simp only [go_sem,qa,qb,qc,qd,qe,qf,reduceCtorEq,qbV,h1]
 |x::r,ys,k,h,h0,hk=>by
  simp only [List.length_cons]at h hk
  have h1:((ys.length:Nat):Int) < (n:Int):=by omega
  have mk:=qcI k (by omega)
  have mk1:=qcI (k+1) (by omega)
  have e1:w64 (k+1)=k+1:=by rw [qj]<;>omega
  have e1b:w64 (k+1+1)=k+2:=by rw [qj]<;>omega
  have e2:w64 (((ys.length:Nat):Int)+1)=((ys.length+1:Nat):Int):=by rw [qj]<;>omega
  have ix:=fun y=>xL (k:=(0,0)) (e:=2) (xs:=ys.map oFl++y::r.map oFl) (i:=ys.length) (len:=n) (by omega) (by simp only [List.length_append,List.length_map,List.length_cons];omega)
  have cg:=fun y zs=>X0 (ys.map oFl) y zs ys.length (by simp)
  have cs:=fun y y' zs=>X1 (ys.map oFl) y y' zs ys.length (by simp)
  have ih:=qja n hn r (ys++[⟨mkT k,mkT (k+1)⟩]) (k+2) (by simp only [List.length_append,List.length_cons,List.length_nil];omega) (by omega) (by omega)
  have ek:k+2*((r.length+1:Nat):Int)=k+2+2*(r.length:Int):=by omega
  have e3:(ys++x::r).map oFl=ys.map oFl++ .a [S x.name,S x.text]::r.map oFl:=by simp [oFl]
  have e4:ys++[(⟨mkT k,mkT (k+1)⟩:Fl)]++r=ys++⟨mkT k,mkT (k+1)⟩::r:=by simp
  have e5:ys++[(⟨mkT k,mkT (k+1)⟩:Fl)]++mkF (k+2) r=ys++⟨mkT k,mkT (k+1)⟩::mkF (k+2) r:=by simp
  have e6:(ys++(⟨mkT k,mkT (k+1)⟩:Fl)::r).map oFl=ys.map oFl++ .a [S (mkT k),S (mkT (k+1))]::r.map oFl:=by simp [oFl]
  rw [e4,e5,e6]at ih
  simp only [List.length_append,List.length_cons,List.length_nil,Nat.zero_add]at ih
  simp only [mkF,List.length_cons,ek]
  rw [← ih,e3,qn]
  simp only [go_sem,qa,qb,qc,qd,qe,qf,reduceCtorEq,qbV,h1,mk,mk1,e1,e1b,e2,ix,cg,cs]
theorem qqy(ts:List Fl) (hl:ts.length≤2^30) (k:Int) (h0:0≤k) (hk:k≤2^20):
 cw qg qdM [.o 2 (ts.map oFl),I k]=some (I (k+2*(ts.length:Nat)),[.o 2 ((mkF k ts).map oFl),I k]):=by
 have lp:=qja ts.length hl ts [] k (by simp) h0 (by omega)
 simp only [List.nil_append,List.length_nil,Int.natCast_zero]at lp
 have tk:((mkF k ts).map oFl).take ts.length=(mkF k ts).map oFl:=List.take_of_length_le (by simp [qcH])
 have ml:=qcH ts k
 rw [qI qrz rfl]
 simp only [go_sem,qa,qb,qc,qd,qe,qf,reduceCtorEq,Xf,qt,lp,tk,ml,List.length_map]
end Go.Vm
namespace Go.Proofs
open Go.Shelf
def qgF:Go.Shelf.Ren:=⟨fun|137=>66|217=>84|266=>104|n=>n,fun|9=>9|5=>5|3=>3|n=>n,fun|n=>n⟩
theorem qgE:Go.Proofs.Lays.n137 Tryz.prog qgF where
 mixed:=by kernel_rfl
 f137:=Tryz.func66.trans (congrArg some (by kernel_rfl))
 f217:=Tryz.func84.trans (congrArg some (by kernel_rfl))
 f266:=Tryz.func104.trans (congrArg some (by kernel_rfl))
 t3:=Tryz.underlying3
 a3:=Tryz.isAgg3
 z3:=Tryz.sizeOf3
 v3:=Tryz.zeroValue3
 t5:=Tryz.underlying5
 a5:=Tryz.isAgg5
 z5:=Tryz.sizeOf5
 v5:=Tryz.zeroValue5
 t9:=Tryz.underlying9
 a9:=Tryz.isAgg9
 z9:=Tryz.sizeOf9
 v9:=Tryz.zeroValue9
end Go.Proofs
namespace Go.Vm
open Go.Proofs
instance lay0:Lay:=⟨fun _=>False,fun _=>True,fun _ _ _ _=>trivial⟩
theorem qnE: ∀ args r outs,qaJ args=some (r,outs)→Je Tryz.prog (qgF.f 137) args r outs:=by
 intro args r outs h
 unfold qaJ at h
 split at h
 case h_2=>cases h
 rename_i s n
 simp only [Option.some.injEq,Prod.mk.injEq]at h
 obtain ⟨rfl,rfl⟩:=h
 have hz: ∀ (E:Env) vs c,qk E.cl [.v (.string s),.v (.int .u8 n)] vs c→c=c0∧vs=[.string s,.int .u8 n]:=by
  intro E vs c hx
  simp only [qk,Rel]at hx
  obtain ⟨y,ys,c1,c2,rfl,⟨rfl,-,rfl⟩,⟨y',ys',c3,c4,rfl,⟨rfl,-,rfl⟩,⟨rfl,rfl⟩,rfl⟩,rfl⟩:=hx
  exact ⟨rfl,rfl⟩
 refine qsx (x:= .int .i64 (Lib.indexByte s.data.toList n.toNat.toUInt8)) qgE.f137 rfl rfl rfl rfl ?_ (fun E vs c hx=>(hz E vs c hx).1)
 intro E vs hx hL
 obtain ⟨-,rfl⟩:=hz E vs c0 hx
 refine (Any.strings_IndexByte qgE s n E.w).mono ?_
 rintro e w' ⟨rfl,rfl⟩
 exact ⟨rfl,Adds.refl _⟩
end Go.Vm
