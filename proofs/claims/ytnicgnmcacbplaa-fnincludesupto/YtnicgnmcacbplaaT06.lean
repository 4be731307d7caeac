import Derived.Test.YtnicgnmcacbplaaT05
import Derived.Test.YtnicgnmcacbplaaT03
import Derived.Shelf.Small.Strs
import Derived.Test.YtnicgnmcacbplaaProg
import Derived.KernelRfl
open Nat renaming reduceAdd → qa, reduceSub → qb, reduceMul → qc, reduceEqDiff → qd, reduceLeDiff → qe, reduceBEq → qf
set_option autoImplicit false
set_option maxHeartbeats 16000000
set_option maxRecDepth 100000
set_option linter.unusedSimpArgs false
set_option linter.unusedVariables false
namespace Go.Vm
theorem qmF(l:List Sg) (τ:Bool) (hg:GoodL l) (i:Nat) (hi:i≤l.length) (nm:List Str) (d:Int) (h1:isM l i [91]=true) (h2:isM l (i+1) [93]=true):
 cw qh Ys [.b (.a [.i τ (l.map Sg.v),I i,.o 1 (List.map S nm),I (d),B false])]=some (oT jy,[.b (.a [.i τ (l.map Sg.v),I ((i+2:Nat):Int),.o 1 (List.map S nm),I (d),B false])]):=by
 have hlen:=hg.len
 have m1:=Zw l τ hlen i (by omega) nm d false [91]
 rw [h1]at m1
 have im:=qU l τ hlen (i+1) 0 (by omega) (by decide) (.i true (nm.map S)) d false [93]
 simp only [Nat.add_zero,Int.natCast_zero,h2]at im
 have at1:=J6 [91,93]
 rw [zL]at at1
 have e1:w64 (((i+1:Nat):Int)+1)=((i+2:Nat):Int):=by rw [qo]<;>omega
 rw [qZ qcJ rfl]
 unfold jy
 rw [zL]
 simp only [go_sem,qa,qb,qc,qd,qe,qf,reduceCtorEq,Qc,qC,m1,im,at1,e1,Bool.false_or,Bool.not_true]
theorem qf7(l:List Sg) (τ:Bool) (hg:GoodL l) (i:Nat) (hi:i≤l.length) (nm:List Str) (d:Int) (h1:isM l i [91]=true) (h2:isM l (i+1) [93]=false)
 (ks:List Tm) (hk:ks.length≤2^30) (a1:Nat) (ha1:a1≤2^30) (nm1:List Str) (d1:Int) (b1:Bool)
 (hA:cw qh Qj [.b (.a [.i τ (l.map Sg.v),I ((i+1:Nat):Int),.o 1 (List.map S nm),I (d),B false])]=some (.o 4 (ks.map oT),[.b (.a [.i τ (l.map Sg.v),I a1,.o 1 (List.map S nm1),I (d1),B b1])])):
 (isM l a1 [124]=false→cw qh Ys [.b (.a [.i τ (l.map Sg.v),I i,.o 1 (List.map S nm),I (d),B false])]=some (oT (yA ks jy),[.b (.a [.i τ (l.map Sg.v),I ((a1+1:Nat):Int),.o 1 (List.map S nm1),I (d1),B (b1|| !isM l a1 [93])])]))∧
 (isM l a1 [124]=true→ ∀ (r:Tm) (a2:Nat) (nm2:List Str) (d2:Int) (b2:Bool),a2≤2^30→
  cw qh zY [.b (.a [.i τ (l.map Sg.v),I ((a1+1:Nat):Int),.o 1 (List.map S nm1),I (d1),B b1]),I 999]=some (oT r,[.b (.a [.i τ (l.map Sg.v),I a2,.o 1 (List.map S nm2),I (d2),B b2]),I 999])→
  cw qh Ys [.b (.a [.i τ (l.map Sg.v),I i,.o 1 (List.map S nm),I (d),B false])]=some (oT (yA ks r),[.b (.a [.i τ (l.map Sg.v),I ((a2+1:Nat):Int),.o 1 (List.map S nm2),I (d2),B (b2|| !isM l a2 [93])])])):=by
 have hlen:=hg.len
 have m1:=Zw l τ hlen i (by omega) nm d false [91]
 rw [h1]at m1
 have im:=qU l τ hlen (i+1) 0 (by omega) (by decide) (.i true (nm.map S)) d false [93]
 simp only [Nat.add_zero,Int.natCast_zero,h2]at im
 have ib:=qU l τ hlen a1 0 (by omega) (by decide) (.i true (nm1.map S)) d1 b1 [124]
 simp only [Nat.add_zero,Int.natCast_zero]at ib
 have at1:=J6 [91,93]
 rw [zL]at at1
 have e1:w64 ((a1:Int)+1)=((a1+1:Nat):Int):=by rw [qo]<;>omega
 have e2:w64 ((ks.length:Int) - 1)=(ks.length:Int) - 1:=by rw [qo]<;>omega
 have tk: ∀ x:Tm,(x.kids.map oT).take x.kids.length=x.kids.map oT:=fun x=>List.take_of_length_le (by simp)
 have tk2:(ks.map oT).take ks.length=ks.map oT:=List.take_of_length_le (by simp)
 refine ⟨?_, ?_⟩
 ·intro hbar
  rw [hbar]at ib
  have m2:=Zw l τ hlen a1 (by omega) nm1 d1 b1 [93]
  have lp:=qbZ l τ ((a1+1:Nat):Int) nm1 d1 (b1|| !isM l a1 [93]) ks hk ks.length (Nat.le_refl _) (.mk 2 [91,93] 0 [])
  rw [List.take_of_length_le (Nat.le_refl _),List.drop_of_length_le (Nat.le_refl _),List.map_nil,List.append_nil]at lp
  simp only [Kx,Ky,Kz,Qs,List.map_nil,List.length_nil]at lp
  rw [qZ qcJ rfl,qH (yA ks jy)]
  unfold jy
  simp only [go_sem,qa,qb,qc,qd,qe,qf,reduceCtorEq,Qc,qC,m1,im,at1,e1,e2,ib,hA,m2,lp,tk,tk2,Bool.false_or,Bool.not_true]
 ·intro hbar r a2 nm2 d2 b2 ha2 hT
  rw [hbar]at ib
  have m2:=Zw l τ hlen a2 (by omega) nm2 d2 b2 [93]
  have lp:=qbZ l τ ((a2+1:Nat):Int) nm2 d2 (b2|| !isM l a2 [93]) ks hk ks.length (Nat.le_refl _) r
  rw [List.take_of_length_le (Nat.le_refl _),List.drop_of_length_le (Nat.le_refl _),List.map_nil,List.append_nil]at lp
  rw [qH r]at hT
  rw [qZ qcJ rfl,qH (yA ks r)]
  simp only [go_sem,qa,qb,qc,qd,qe,qf,reduceCtorEq,Qc,qC,m1,im,at1,e1,e2,ib,hA,hT,m2,lp,tk,tk2,Bool.false_or,Bool.not_true]
end Go.Vm
namespace Go.Vm
def EXr(l:List Sg) (τ:Bool) (a:Nat) (nm:List Str) (d:Int) (b:Bool) (ks:List Tm) (out:Tm) (st:St):Prop:=
 (b=true∧out=jy∧st=⟨[(0,.p (0,0) 0 0),(2,.p (100000,0) 0 0),(3,.s (100000,1) 0 (ks).length),(4,.p (100000,2) 0 0)],[((0,0),5,[.a [.i τ (l.map Sg.v),I a,B true,I (d),.o 1 (List.map S nm)]]),((100000,0),4,[.a [I 0,S [],I 0,.s (100000,3) 0 0]]),((100000,1),4,(ks).map oT),((100000,2),4,[.a [I 2,S [91,93],I 0,.s (100000,4) 0 0]]),((100000,3),4,[]),((100000,4),4,[])]⟩)∨(b=false∧out=jy∧ ∃ (acc:List Tm) (y:Tm),ks=acc++[y]∧st=⟨[(0,.p (0,0) 0 0),(2,.p (100000,0) 0 0),(3,.s (20,0) 0 ((acc).length+1)),(4,.p (100000,2) 0 0)],[((0,0),5,[.a [.i τ (l.map Sg.v),I a,B false,I (d),.o 1 (List.map S nm)]]),((20,0),4,(acc).map oT++[.a [I (Tm.kind y),S (Tm.name y),I (Tm.num y),.s (18,0) 0 (Tm.kids y).length]]),((19,0),4,[.a [I (Tm.kind y),S (Tm.name y),I (Tm.num y),.s (18,0) 0 (Tm.kids y).length]]),((18,0),4,(Tm.kids y).map oT),((100000,0),4,[.a [I 0,S [],I 0,.s (100000,3) 0 0]]),((100000,2),4,[.a [I 2,S [91,93],I 0,.s (100000,4) 0 0]]),((100000,3),4,[]),((100000,4),4,[])]⟩)∨(∃ (acc:List Tm) (y:Tm),ks=acc++[y]∧st=⟨[(0,.p (0,0) 0 0),(2,.p (100000,0) 0 0),(3,.s (20,0) 0 ((acc).length+1)),(4,.p (100000,2) 0 0)],[((0,0),5,[.a [.i τ (l.map Sg.v),I a,B b,I (d),.o 1 (List.map S nm)]]),((100000,2),4,[.a [I (Tm.kind out),S (Tm.name out),I (Tm.num out),.s (26,0) 0 (Tm.kids out).length]]),((26,0),4,(Tm.kids out).map oT),((20,0),4,(acc).map oT++[.a [I (Tm.kind y),S (Tm.name y),I (Tm.num y),.s (18,0) 0 (Tm.kids y).length]]),((19,0),4,[.a [I (Tm.kind y),S (Tm.name y),I (Tm.num y),.s (18,0) 0 (Tm.kids y).length]]),((18,0),4,(Tm.kids y).map oT),((100000,0),4,[.a [I 0,S [],I 0,.s (100000,3) 0 0]]),((100000,3),4,[]),((100000,4),4,[])]⟩)
end Go.Vm
namespace Go.Vm
end Go.Vm
namespace Go.Vm
end Go.Vm
namespace Go.Vm
theorem qqf(s:Str) (t:Tm):cw qh jO [S s,.o 4 [.a [I t.kind,S t.name,I t.num,.o 4 (t.kids.map oT)]]]=
 some (.a [I 4,S s,I 0,.o 4 [.a [I t.kind,S t.name,I t.num,.o 4 (t.kids.map oT)]]],[S s,.d]):=by
 have:=qdu s [t]
 rw [ZG]at this
 simp only [List.map_cons,List.map_nil,qH t]at this
 exact this
theorem qoI(l:List Sg) (τ:Bool) (hg:GoodL l) (i:Nat) (hi:i≤l.length) (nm:List Str) (d:Nat) (most:Int) (hk:(sgD l i).kind=3):
 cw qh yW [.b (.a [.i τ (l.map Sg.v),I i,.o 1 (List.map S nm),I (d),B false]),I most]=some (.t [oT (.mk 3 [] (sgD l i).num []),I 0],[.b (.a [.i τ (l.map Sg.v),I ((i+1:Nat):Int),.o 1 (List.map S nm),I (d),B false]),I most]):=by
 have hlen:=hg.len
 have sg:=zz l τ hlen i 0 (by omega) (by decide) (.i true (nm.map S)) d false
 simp only [Nat.add_zero,Int.natCast_zero]at sg
 rw [Sg.v]at sg
 have sg1:=zz l τ hlen i 1 (by omega) (by decide) (.i true (nm.map S)) d false
 rw [Sg.v]at sg1
 simp only [Int.natCast_one]at sg1
 have m40:=qU l τ hlen i 0 (by omega) (by decide) (.i true (nm.map S)) d false [40]
 have m91:=qU l τ hlen i 0 (by omega) (by decide) (.i true (nm.map S)) d false [91]
 have m41:=qU l τ hlen i 2 (by omega) (by decide) (.i true (nm.map S)) d false [41]
 simp only [Nat.add_zero,Int.natCast_zero]at m40 m91
 have two:((2:Nat):Int)=2:=rfl
 rw [two]at m41
 have inf:=x7 (sgD l i).text
 have pre:=kx (sgD l i).text
 unfold opV at inf
 unfold xN at pre
 have e1:w64 ((i:Int)+1)=((i+1:Nat):Int):=by rw [qo]<;>omega
 have e2:w64 ((i:Int)+2)=((i+2:Nat):Int):=by rw [qo]<;>omega
 have e3:w64 ((i:Int)+3)=((i+3:Nat):Int):=by rw [qo]<;>omega
 have d21:decide ((2:Int)=1)=false:=rfl
 have d31:decide ((3:Int)=1)=false:=rfl
 have d41:decide ((4:Int)=1)=false:=rfl
 have d23:decide ((2:Int)=3)=false:=rfl
 have d13:decide ((1:Int)=3)=false:=rfl
 have d12:decide ((1:Int)=2)=false:=rfl
 have n40:isM l i [40]=false:=by unfold isM;rw [hk];rfl
 have n91:isM l i [91]=false:=by unfold isM;rw [hk];rfl
 rw [n40]at m40
 rw [n91]at m91
 rw [hk]at sg
 have nk:=qfC (sgD l i).num
 rw [zL]at nk
 rw [qZ kb rfl,zL]
 simp only [go_sem,qa,qb,qc,qd,qe,qf,reduceCtorEq,zI,qC,sg,sg1,inf,pre,e1,e2,e3,d21,d31,d41,d23,d13,d12,Bool.false_or,Bool.not_true,m40,m91,nk]
theorem qoK(l:List Sg) (τ:Bool) (hg:GoodL l) (i:Nat) (hi:i≤l.length) (nm:List Str) (d:Nat) (most:Int) (hk:(sgD l i).kind=2) (hn:nm.length≤2^30):
 cw qh yW [.b (.a [.i τ (l.map Sg.v),I i,.o 1 (List.map S nm),I (d),B false]),I most]=some (.t [oT (jI nm (sgD l i).text).1,I 0],[.b (.a [.i τ (l.map Sg.v),I ((i+1:Nat):Int),.o 1 (List.map S ((jI nm (sgD l i).text).2)),I (d),B false]),I most]):=by
 have hlen:=hg.len
 have sg:=zz l τ hlen i 0 (by omega) (by decide) (.i true (nm.map S)) d false
 simp only [Nat.add_zero,Int.natCast_zero]at sg
 rw [Sg.v]at sg
 have sg1:=zz l τ hlen i 1 (by omega) (by decide) (.i true (nm.map S)) d false
 rw [Sg.v]at sg1
 simp only [Int.natCast_one]at sg1
 have m40:=qU l τ hlen i 0 (by omega) (by decide) (.i true (nm.map S)) d false [40]
 have m91:=qU l τ hlen i 0 (by omega) (by decide) (.i true (nm.map S)) d false [91]
 have m41:=qU l τ hlen i 2 (by omega) (by decide) (.i true (nm.map S)) d false [41]
 simp only [Nat.add_zero,Int.natCast_zero]at m40 m91
 have two:((2:Nat):Int)=2:=rfl
 rw [two]at m41
 have inf:=x7 (sgD l i).text
 have pre:=kx (sgD l i).text
 unfold opV at inf
 unfold xN at pre
 have e1:w64 ((i:Int)+1)=((i+1:Nat):Int):=by rw [qo]<;>omega
 have e2:w64 ((i:Int)+2)=((i+2:Nat):Int):=by rw [qo]<;>omega
 have e3:w64 ((i:Int)+3)=((i+3:Nat):Int):=by rw [qo]<;>omega
 have d21:decide ((2:Int)=1)=false:=rfl
 have d31:decide ((3:Int)=1)=false:=rfl
 have d41:decide ((4:Int)=1)=false:=rfl
 have d23:decide ((2:Int)=3)=false:=rfl
 have d13:decide ((1:Int)=3)=false:=rfl
 have d12:decide ((1:Int)=2)=false:=rfl
 have n40:isM l i [40]=false:=by unfold isM;rw [hk];rfl
 have n91:isM l i [91]=false:=by unfold isM;rw [hk];rfl
 rw [n40]at m40
 rw [n91]at m91
 rw [hk]at sg
 have nk:=qku l τ ((i+1:Nat):Int) nm hn d false (sgD l i).text
 rw [qH]at nk
 have tk: ∀ x:Tm,(x.kids.map oT).take x.kids.length=x.kids.map oT:=fun x=>List.take_of_length_le (by simp)
 rw [qZ kb rfl,qH]
 simp only [go_sem,qa,qb,qc,qd,qe,qf,reduceCtorEq,zI,qC,sg,sg1,inf,pre,e1,e2,e3,d21,d31,d41,d23,d13,d12,Bool.false_or,Bool.not_true,m40,m91,nk,tk]
theorem qoD(l:List Sg) (τ:Bool) (hg:GoodL l) (i:Nat) (hi:i≤l.length) (nm:List Str) (d:Nat) (most:Int) (h40:isM l i [40]=true) (hk1:(sgD l (i+1)).kind=1) (h41:isM l (i+2) [41]=true):
 cw qh yW [.b (.a [.i τ (l.map Sg.v),I i,.o 1 (List.map S nm),I (d),B false]),I most]=some (.t [oT (.mk 2 (sgD l (i+1)).text 0 []),I 0],[.b (.a [.i τ (l.map Sg.v),I ((i+3:Nat):Int),.o 1 (List.map S nm),I (d),B false]),I most]):=by
 have hlen:=hg.len
 have sg:=zz l τ hlen i 0 (by omega) (by decide) (.i true (nm.map S)) d false
 simp only [Nat.add_zero,Int.natCast_zero]at sg
 rw [Sg.v]at sg
 have sg1:=zz l τ hlen i 1 (by omega) (by decide) (.i true (nm.map S)) d false
 rw [Sg.v]at sg1
 simp only [Int.natCast_one]at sg1
 have m40:=qU l τ hlen i 0 (by omega) (by decide) (.i true (nm.map S)) d false [40]
 have m91:=qU l τ hlen i 0 (by omega) (by decide) (.i true (nm.map S)) d false [91]
 have m41:=qU l τ hlen i 2 (by omega) (by decide) (.i true (nm.map S)) d false [41]
 simp only [Nat.add_zero,Int.natCast_zero]at m40 m91
 have two:((2:Nat):Int)=2:=rfl
 rw [two]at m41
 have inf:=x7 (sgD l i).text
 have pre:=kx (sgD l i).text
 unfold opV at inf
 unfold xN at pre
 have e1:w64 ((i:Int)+1)=((i+1:Nat):Int):=by rw [qo]<;>omega
 have e2:w64 ((i:Int)+2)=((i+2:Nat):Int):=by rw [qo]<;>omega
 have e3:w64 ((i:Int)+3)=((i+3:Nat):Int):=by rw [qo]<;>omega
 have d21:decide ((2:Int)=1)=false:=rfl
 have d31:decide ((3:Int)=1)=false:=rfl
 have d41:decide ((4:Int)=1)=false:=rfl
 have d23:decide ((2:Int)=3)=false:=rfl
 have d13:decide ((1:Int)=3)=false:=rfl
 have d12:decide ((1:Int)=2)=false:=rfl
 have hk:=(z8 h40).2.1
 rw [h40]at m40
 rw [h41]at m41
 rw [hk]at sg
 rw [hk1]at sg1
 have nk:=J6 (sgD l (i+1)).text
 rw [zL]at nk
 rw [qZ kb rfl,zL]
 simp only [go_sem,qa,qb,qc,qd,qe,qf,reduceCtorEq,zI,qC,sg,sg1,inf,pre,e1,e2,e3,d21,d31,d41,d23,d13,d12,Bool.false_or,Bool.not_true,m40,m41,nk]
theorem qhj(l:List Sg) (τ:Bool) (hg:GoodL l) (i:Nat) (hi:i≤l.length) (nm:List Str) (d:Nat) (most:Int) (hk:(sgD l i).kind=1) (hnr:(sgD l i).near=true) (ks:List Tm) (a1:Nat) (ha1:a1≤2^30) (nm1:List Str) (d1:Int) (b1:Bool)
 (hA:cw qh Qj [.b (.a [.i τ (l.map Sg.v),I ((i+2:Nat):Int),.o 1 (List.map S nm),I (d),B false])]=some (.o 4 (ks.map oT),[.b (.a [.i τ (l.map Sg.v),I a1,.o 1 (List.map S nm1),I (d1),B b1])])):
 cw qh yW [.b (.a [.i τ (l.map Sg.v),I i,.o 1 (List.map S nm),I (d),B false]),I most]=some (.t [oT (.mk 4 (sgD l i).text 0 ks),I 0],[.b (.a [.i τ (l.map Sg.v),I ((a1+1:Nat):Int),.o 1 (List.map S nm1),I (d1),B ((b1|| !isM l a1 [41])||decide (5 < ks.length))]),I most]):=by
 have hlen:=hg.len
 have sg:=zz l τ hlen i 0 (by omega) (by decide) (.i true (nm.map S)) d false
 simp only [Nat.add_zero,Int.natCast_zero]at sg
 rw [Sg.v]at sg
 have sg1:=zz l τ hlen i 1 (by omega) (by decide) (.i true (nm.map S)) d false
 rw [Sg.v]at sg1
 simp only [Int.natCast_one]at sg1
 have m40:=qU l τ hlen i 0 (by omega) (by decide) (.i true (nm.map S)) d false [40]
 have m91:=qU l τ hlen i 0 (by omega) (by decide) (.i true (nm.map S)) d false [91]
 have m41:=qU l τ hlen i 2 (by omega) (by decide) (.i true (nm.map S)) d false [41]
 simp only [Nat.add_zero,Int.natCast_zero]at m40 m91
 have two:((2:Nat):Int)=2:=rfl
 rw [two]at m41
 have inf:=x7 (sgD l i).text
 have pre:=kx (sgD l i).text
 unfold opV at inf
 unfold xN at pre
 have e1:w64 ((i:Int)+1)=((i+1:Nat):Int):=by rw [qo]<;>omega
 have e2:w64 ((i:Int)+2)=((i+2:Nat):Int):=by rw [qo]<;>omega
 have e3:w64 ((i:Int)+3)=((i+3:Nat):Int):=by rw [qo]<;>omega
 have d21:decide ((2:Int)=1)=false:=rfl
 have d31:decide ((3:Int)=1)=false:=rfl
 have d41:decide ((4:Int)=1)=false:=rfl
 have d23:decide ((2:Int)=3)=false:=rfl
 have d13:decide ((1:Int)=3)=false:=rfl
 have d12:decide ((1:Int)=2)=false:=rfl
 have h40:=hg.near i hnr
 rw [hk,hnr]at sg
 have mk1:=Zw l τ hlen (i+1) (by omega) nm d false [40]
 rw [h40]at mk1
 have e12:i+1+1=i+2:=rfl
 rw [e12]at mk1
 have mk2:=Zw l τ hlen a1 (by omega) nm1 d1 b1 [41]
 have st:=qdu (sgD l i).text ks
 rw [ZG]at st
 have tk2:(ks.map oT).take ks.length=ks.map oT:=List.take_of_length_le (by simp)
 by_cases h5:5 < ks.length
 ·have c5:(5:Int) < (ks.length:Int):=by omega
  have d5:decide (5 < ks.length)=true:=decide_eq_true h5
  rw [qZ kb rfl,ZG,d5,Bool.or_true]
  simp only [go_sem,qa,qb,qc,qd,qe,qf,reduceCtorEq,zI,qC,sg,sg1,inf,pre,e1,e2,e3,d21,d31,d41,d23,d13,d12,Bool.false_or,Bool.not_true,mk1,hA,mk2,st,tk2,c5]
 ·have c5: ¬ (5:Int) < (ks.length:Int):=by omega
  have d5:decide (5 < ks.length)=false:=decide_eq_false h5
  rw [qZ kb rfl,ZG,d5,Bool.or_false]
  simp only [go_sem,qa,qb,qc,qd,qe,qf,reduceCtorEq,zI,qC,sg,sg1,inf,pre,e1,e2,e3,d21,d31,d41,d23,d13,d12,Bool.false_or,Bool.not_true,mk1,hA,mk2,st,tk2,c5]
theorem qhk(l:List Sg) (τ:Bool) (hg:GoodL l) (i:Nat) (hi:i≤l.length) (nm:List Str) (d:Nat) (most:Int) (h40:isM l i [40]=true) (hn: ¬ ((sgD l (i+1)).kind=1∧isM l (i+2) [41]=true)) (t:Tm) (a1:Nat) (ha1:a1≤2^30) (nm1:List Str) (d1:Int) (b1:Bool)
 (hT:cw qh zY [.b (.a [.i τ (l.map Sg.v),I ((i+1:Nat):Int),.o 1 (List.map S nm),I (d),B false]),I 1200]=some (oT t,[.b (.a [.i τ (l.map Sg.v),I a1,.o 1 (List.map S nm1),I (d1),B b1]),I 1200])):
 cw qh yW [.b (.a [.i τ (l.map Sg.v),I i,.o 1 (List.map S nm),I (d),B false]),I most]=some (.t [oT t,I 0],[.b (.a [.i τ (l.map Sg.v),I ((a1+1:Nat):Int),.o 1 (List.map S nm1),I (d1),B (b1|| !isM l a1 [41])]),I most]):=by
 have hlen:=hg.len
 have sg:=zz l τ hlen i 0 (by omega) (by decide) (.i true (nm.map S)) d false
 simp only [Nat.add_zero,Int.natCast_zero]at sg
 rw [Sg.v]at sg
 have sg1:=zz l τ hlen i 1 (by omega) (by decide) (.i true (nm.map S)) d false
 rw [Sg.v]at sg1
 simp only [Int.natCast_one]at sg1
 have m40:=qU l τ hlen i 0 (by omega) (by decide) (.i true (nm.map S)) d false [40]
 have m91:=qU l τ hlen i 0 (by omega) (by decide) (.i true (nm.map S)) d false [91]
 have m41:=qU l τ hlen i 2 (by omega) (by decide) (.i true (nm.map S)) d false [41]
 simp only [Nat.add_zero,Int.natCast_zero]at m40 m91
 have two:((2:Nat):Int)=2:=rfl
 rw [two]at m41
 have inf:=x7 (sgD l i).text
 have pre:=kx (sgD l i).text
 unfold opV at inf
 unfold xN at pre
 have e1:w64 ((i:Int)+1)=((i+1:Nat):Int):=by rw [qo]<;>omega
 have e2:w64 ((i:Int)+2)=((i+2:Nat):Int):=by rw [qo]<;>omega
 have e3:w64 ((i:Int)+3)=((i+3:Nat):Int):=by rw [qo]<;>omega
 have d21:decide ((2:Int)=1)=false:=rfl
 have d31:decide ((3:Int)=1)=false:=rfl
 have d41:decide ((4:Int)=1)=false:=rfl
 have d23:decide ((2:Int)=3)=false:=rfl
 have d13:decide ((1:Int)=3)=false:=rfl
 have d12:decide ((1:Int)=2)=false:=rfl
 have hk:=(z8 h40).2.1
 rw [h40]at m40
 rw [hk]at sg
 have mk2:=Zw l τ hlen a1 (by omega) nm1 d1 b1 [41]
 rw [qH t]at hT
 have tk: ∀ x:Tm,(x.kids.map oT).take x.kids.length=x.kids.map oT:=fun x=>List.take_of_length_le (by simp)
 rw [qZ kb rfl,qH t]
 by_cases hk1:(sgD l (i+1)).kind=1
 ·have h41:isM l (i+2) [41]=false:=by
   cases h:isM l (i+2) [41]with
   |true=>exact absurd ⟨hk1,h⟩ hn
   |false=>rfl
  rw [h41]at m41
  rw [hk1]at sg1
  simp only [go_sem,qa,qb,qc,qd,qe,qf,reduceCtorEq,zI,qC,sg,sg1,inf,pre,e1,e2,e3,d21,d31,d41,d23,d13,d12,Bool.false_or,Bool.not_true,m40,m41,hT,mk2,tk]
 ·have dk1:decide ((sgD l (i+1)).kind=1)=false:=decide_eq_false hk1
  simp only [go_sem,qa,qb,qc,qd,qe,qf,reduceCtorEq,zI,qC,sg,sg1,inf,pre,e1,e2,e3,d21,d31,d41,d23,d13,d12,Bool.false_or,Bool.not_true,m40,hT,mk2,dk1,tk]
theorem YX(l:List Sg) (τ:Bool) (hg:GoodL l) (i:Nat) (hi:i≤l.length) (nm:List Str) (d:Nat) (most:Int) (h91:isM l i [91]=true) (t:Tm) (a1:Nat) (nm1:List Str) (d1:Int) (b1:Bool)
 (hT:cw qh Ys [.b (.a [.i τ (l.map Sg.v),I i,.o 1 (List.map S nm),I (d),B false])]=some (oT t,[.b (.a [.i τ (l.map Sg.v),I a1,.o 1 (List.map S nm1),I (d1),B b1])])):
 cw qh yW [.b (.a [.i τ (l.map Sg.v),I i,.o 1 (List.map S nm),I (d),B false]),I most]=some (.t [oT t,I 0],[.b (.a [.i τ (l.map Sg.v),I a1,.o 1 (List.map S nm1),I (d1),B b1]),I most]):=by
 have hlen:=hg.len
 have sg:=zz l τ hlen i 0 (by omega) (by decide) (.i true (nm.map S)) d false
 simp only [Nat.add_zero,Int.natCast_zero]at sg
 rw [Sg.v]at sg
 have sg1:=zz l τ hlen i 1 (by omega) (by decide) (.i true (nm.map S)) d false
 rw [Sg.v]at sg1
 simp only [Int.natCast_one]at sg1
 have m40:=qU l τ hlen i 0 (by omega) (by decide) (.i true (nm.map S)) d false [40]
 have m91:=qU l τ hlen i 0 (by omega) (by decide) (.i true (nm.map S)) d false [91]
 have m41:=qU l τ hlen i 2 (by omega) (by decide) (.i true (nm.map S)) d false [41]
 simp only [Nat.add_zero,Int.natCast_zero]at m40 m91
 have two:((2:Nat):Int)=2:=rfl
 rw [two]at m41
 have inf:=x7 (sgD l i).text
 have pre:=kx (sgD l i).text
 unfold opV at inf
 unfold xN at pre
 have e1:w64 ((i:Int)+1)=((i+1:Nat):Int):=by rw [qo]<;>omega
 have e2:w64 ((i:Int)+2)=((i+2:Nat):Int):=by rw [qo]<;>omega
 have e3:w64 ((i:Int)+3)=((i+3:Nat):Int):=by rw [qo]<;>omega
 have d21:decide ((2:Int)=1)=false:=rfl
 have d31:decide ((3:Int)=1)=false:=rfl
 have d41:decide ((4:Int)=1)=false:=rfl
 have d23:decide ((2:Int)=3)=false:=rfl
 have d13:decide ((1:Int)=3)=false:=rfl
 have d12:decide ((1:Int)=2)=false:=rfl
 have hk:=(z8 h91).2.1
 have n40:isM l i [40]=false:=by unfold isM;rw [(z8 h91).2.2,hk];rfl
 rw [n40]at m40
 rw [h91]at m91
 rw [hk]at sg
 rw [qH t]at hT
 have tk: ∀ x:Tm,(x.kids.map oT).take x.kids.length=x.kids.map oT:=fun x=>List.take_of_length_le (by simp)
 rw [qZ kb rfl,qH t]
 simp only [go_sem,qa,qb,qc,qd,qe,qf,reduceCtorEq,zI,qC,sg,sg1,inf,pre,e1,e2,e3,d21,d31,d41,d23,d13,d12,Bool.false_or,Bool.not_true,m40,m91,hT,tk]
theorem qoH(l:List Sg) (τ:Bool) (hg:GoodL l) (i:Nat) (hi:i≤l.length) (nm:List Str) (d:Nat) (most:Int) (hk:(sgD l i).kind=1) (hnr:(sgD l i).near=false) (ht:(sgD l i).text=[45]) (hk1:(sgD l (i+1)).kind=3) (hat:(sgD l (i+1)).at_=(sgD l i).at_+1):
 cw qh yW [.b (.a [.i τ (l.map Sg.v),I i,.o 1 (List.map S nm),I (d),B false]),I most]=some (.t [oT (.mk 3 [] (0 - (sgD l (i+1)).num) []),I 0],[.b (.a [.i τ (l.map Sg.v),I ((i+2:Nat):Int),.o 1 (List.map S nm),I (d),B false]),I most]):=by
 have hlen:=hg.len
 have sg:=zz l τ hlen i 0 (by omega) (by decide) (.i true (nm.map S)) d false
 simp only [Nat.add_zero,Int.natCast_zero]at sg
 rw [Sg.v]at sg
 have sg1:=zz l τ hlen i 1 (by omega) (by decide) (.i true (nm.map S)) d false
 rw [Sg.v]at sg1
 simp only [Int.natCast_one]at sg1
 have m40:=qU l τ hlen i 0 (by omega) (by decide) (.i true (nm.map S)) d false [40]
 have m91:=qU l τ hlen i 0 (by omega) (by decide) (.i true (nm.map S)) d false [91]
 have m41:=qU l τ hlen i 2 (by omega) (by decide) (.i true (nm.map S)) d false [41]
 simp only [Nat.add_zero,Int.natCast_zero]at m40 m91
 have two:((2:Nat):Int)=2:=rfl
 rw [two]at m41
 have inf:=x7 (sgD l i).text
 have pre:=kx (sgD l i).text
 unfold opV at inf
 unfold xN at pre
 have e1:w64 ((i:Int)+1)=((i+1:Nat):Int):=by rw [qo]<;>omega
 have e2:w64 ((i:Int)+2)=((i+2:Nat):Int):=by rw [qo]<;>omega
 have e3:w64 ((i:Int)+3)=((i+3:Nat):Int):=by rw [qo]<;>omega
 have d21:decide ((2:Int)=1)=false:=rfl
 have d31:decide ((3:Int)=1)=false:=rfl
 have d41:decide ((4:Int)=1)=false:=rfl
 have d23:decide ((2:Int)=3)=false:=rfl
 have d13:decide ((1:Int)=3)=false:=rfl
 have d12:decide ((1:Int)=2)=false:=rfl
 have n40:isM l i [40]=false:=by unfold isM;rw [hk];rfl
 have n91:isM l i [91]=false:=by unfold isM;rw [hk];rfl
 rw [n40]at m40
 rw [n91]at m91
 rw [hk,hnr]at sg
 have ea:w64 ((sgD l i).at_+1)=(sgD l i).at_+1:=by
  have:=hg.at_ i
  rw [qo]<;>omega
 rw [hk1,hat]at sg1
 have en:w64 (0 - (sgD l (i+1)).num)=0 - (sgD l (i+1)).num:=by
  have:=hg.num (i+1)
  rw [qo]<;>omega
 have nk:=qfC (0 - (sgD l (i+1)).num)
 rw [zL]at nk
 rw [ht]at sg inf pre
 rw [qZ kb rfl,zL]
 simp only [go_sem,qa,qb,qc,qd,qe,qf,reduceCtorEq,zI,qC,sg,sg1,inf,pre,e1,e2,e3,d21,d31,d41,d23,d13,d12,Bool.false_or,Bool.not_true,m40,m91,ea,en,nk]
theorem qhl(l:List Sg) (τ:Bool) (hg:GoodL l) (i:Nat) (hi:i≤l.length) (nm:List Str) (d:Nat) (most:Int) (hk:(sgD l i).kind=1) (hnr:(sgD l i).near=false) (hneg: ¬ ((sgD l i).text=[45]∧(sgD l (i+1)).kind=3∧(sgD l (i+1)).at_=(sgD l i).at_+1)) (hp:(zB (sgD l i).text).prio ≠ 0) (hm:(zB (sgD l i).text).prio≤most) (x:Tm) (a1:Nat) (nm1:List Str) (d1:Int) (b1:Bool)
 (hT:cw qh zY [.b (.a [.i τ (l.map Sg.v),I ((i+1:Nat):Int),.o 1 (List.map S nm),I (d),B false]),I (zB (sgD l i).text).right]=some (oT x,[.b (.a [.i τ (l.map Sg.v),I a1,.o 1 (List.map S nm1),I (d1),B b1]),I (zB (sgD l i).text).right])):
 cw qh yW [.b (.a [.i τ (l.map Sg.v),I i,.o 1 (List.map S nm),I (d),B false]),I most]=some (.t [oT (.mk 4 (sgD l i).text 0 [x]),I (zB (sgD l i).text).prio],[.b (.a [.i τ (l.map Sg.v),I a1,.o 1 (List.map S nm1),I (d1),B b1]),I most]):=by
 have hlen:=hg.len
 have sg:=zz l τ hlen i 0 (by omega) (by decide) (.i true (nm.map S)) d false
 simp only [Nat.add_zero,Int.natCast_zero]at sg
 rw [Sg.v]at sg
 have sg1:=zz l τ hlen i 1 (by omega) (by decide) (.i true (nm.map S)) d false
 rw [Sg.v]at sg1
 simp only [Int.natCast_one]at sg1
 have m40:=qU l τ hlen i 0 (by omega) (by decide) (.i true (nm.map S)) d false [40]
 have m91:=qU l τ hlen i 0 (by omega) (by decide) (.i true (nm.map S)) d false [91]
 have m41:=qU l τ hlen i 2 (by omega) (by decide) (.i true (nm.map S)) d false [41]
 simp only [Nat.add_zero,Int.natCast_zero]at m40 m91
 have two:((2:Nat):Int)=2:=rfl
 rw [two]at m41
 have inf:=x7 (sgD l i).text
 have pre:=kx (sgD l i).text
 unfold opV at inf
 unfold xN at pre
 have e1:w64 ((i:Int)+1)=((i+1:Nat):Int):=by rw [qo]<;>omega
 have e2:w64 ((i:Int)+2)=((i+2:Nat):Int):=by rw [qo]<;>omega
 have e3:w64 ((i:Int)+3)=((i+3:Nat):Int):=by rw [qo]<;>omega
 have d21:decide ((2:Int)=1)=false:=rfl
 have d31:decide ((3:Int)=1)=false:=rfl
 have d41:decide ((4:Int)=1)=false:=rfl
 have d23:decide ((2:Int)=3)=false:=rfl
 have d13:decide ((1:Int)=3)=false:=rfl
 have d12:decide ((1:Int)=2)=false:=rfl
 have n40:isM l i [40]=false:=by unfold isM;rw [hk];rfl
 have n91:isM l i [91]=false:=by unfold isM;rw [hk];rfl
 rw [n40]at m40
 rw [n91]at m91
 rw [hk,hnr]at sg
 have ea:w64 ((sgD l i).at_+1)=(sgD l i).at_+1:=by
  have:=hg.at_ i
  rw [qo]<;>omega
 have hp':decide ((zB (sgD l i).text).prio ≠ 0)=true:=decide_eq_true hp
 rw [hp']at pre
 have st:=qqf (sgD l i).text x
 rw [qH x]at hT
 have tk: ∀ x:Tm,(x.kids.map oT).take x.kids.length=x.kids.map oT:=fun x=>List.take_of_length_le (by simp)
 rw [qZ kb rfl,ZG,List.map_cons,List.map_nil,qH x]
 by_cases ht:(sgD l i).text=[45]
 ·have dt:decide ((sgD l i).text=[45])=true:=decide_eq_true ht
  by_cases hk1:(sgD l (i+1)).kind=3
  ·have da:decide ((sgD l (i+1)).at_=(sgD l i).at_+1)=false:=decide_eq_false fun h=>hneg ⟨ht,hk1,h⟩
   have dk:decide ((sgD l (i+1)).kind=3)=true:=decide_eq_true hk1
   simp only [go_sem,qa,qb,qc,qd,qe,qf,reduceCtorEq,zI,qC,sg,sg1,inf,pre,e1,e2,e3,d21,d31,d41,d23,d13,d12,Bool.false_or,Bool.not_true,m40,m91,hT,hm,st,tk,ea,dt,dk,da]
  ·have dk:decide ((sgD l (i+1)).kind=3)=false:=decide_eq_false hk1
   simp only [go_sem,qa,qb,qc,qd,qe,qf,reduceCtorEq,zI,qC,sg,sg1,inf,pre,e1,e2,e3,d21,d31,d41,d23,d13,d12,Bool.false_or,Bool.not_true,m40,m91,hT,hm,st,tk,ea,dt,dk]
 ·have dt:decide ((sgD l i).text=[45])=false:=decide_eq_false ht
  simp only [go_sem,qa,qb,qc,qd,qe,qf,reduceCtorEq,zI,qC,sg,sg1,inf,pre,e1,e2,e3,d21,d31,d41,d23,d13,d12,Bool.false_or,Bool.not_true,m40,m91,hT,hm,st,tk,ea,dt]
theorem qoC(l:List Sg) (τ:Bool) (hg:GoodL l) (i:Nat) (hi:i≤l.length) (nm:List Str) (d:Nat) (most:Int) (hk:(sgD l i).kind=1) (hnr:(sgD l i).near=false) (hneg: ¬ ((sgD l i).text=[45]∧(sgD l (i+1)).kind=3∧(sgD l (i+1)).at_=(sgD l i).at_+1)) (hp:(zB (sgD l i).text).prio=0) (hq:(qV (sgD l i).text).prio=0):
 cw qh yW [.b (.a [.i τ (l.map Sg.v),I i,.o 1 (List.map S nm),I (d),B false]),I most]=some (.t [oT (.mk 2 (sgD l i).text 0 []),I 0],[.b (.a [.i τ (l.map Sg.v),I ((i+1:Nat):Int),.o 1 (List.map S nm),I (d),B false]),I most]):=by
 have hlen:=hg.len
 have sg:=zz l τ hlen i 0 (by omega) (by decide) (.i true (nm.map S)) d false
 simp only [Nat.add_zero,Int.natCast_zero]at sg
 rw [Sg.v]at sg
 have sg1:=zz l τ hlen i 1 (by omega) (by decide) (.i true (nm.map S)) d false
 rw [Sg.v]at sg1
 simp only [Int.natCast_one]at sg1
 have m40:=qU l τ hlen i 0 (by omega) (by decide) (.i true (nm.map S)) d false [40]
 have m91:=qU l τ hlen i 0 (by omega) (by decide) (.i true (nm.map S)) d false [91]
 have m41:=qU l τ hlen i 2 (by omega) (by decide) (.i true (nm.map S)) d false [41]
 simp only [Nat.add_zero,Int.natCast_zero]at m40 m91
 have two:((2:Nat):Int)=2:=rfl
 rw [two]at m41
 have inf:=x7 (sgD l i).text
 have pre:=kx (sgD l i).text
 unfold opV at inf
 unfold xN at pre
 have e1:w64 ((i:Int)+1)=((i+1:Nat):Int):=by rw [qo]<;>omega
 have e2:w64 ((i:Int)+2)=((i+2:Nat):Int):=by rw [qo]<;>omega
 have e3:w64 ((i:Int)+3)=((i+3:Nat):Int):=by rw [qo]<;>omega
 have d21:decide ((2:Int)=1)=false:=rfl
 have d31:decide ((3:Int)=1)=false:=rfl
 have d41:decide ((4:Int)=1)=false:=rfl
 have d23:decide ((2:Int)=3)=false:=rfl
 have d13:decide ((1:Int)=3)=false:=rfl
 have d12:decide ((1:Int)=2)=false:=rfl
 have n40:isM l i [40]=false:=by unfold isM;rw [hk];rfl
 have n91:isM l i [91]=false:=by unfold isM;rw [hk];rfl
 rw [n40]at m40
 rw [n91]at m91
 rw [hk,hnr]at sg
 have ea:w64 ((sgD l i).at_+1)=(sgD l i).at_+1:=by
  have:=hg.at_ i
  rw [qo]<;>omega
 have hp':decide ((zB (sgD l i).text).prio ≠ 0)=false:=decide_eq_false fun h=>h hp
 have hq':decide ((qV (sgD l i).text).prio ≠ 0)=false:=decide_eq_false fun h=>h hq
 rw [hp']at pre
 rw [hq']at inf
 have nk:=J6 (sgD l i).text
 rw [zL]at nk
 rw [qZ kb rfl,zL]
 by_cases ht:(sgD l i).text=[45]
 ·have dt:decide ((sgD l i).text=[45])=true:=decide_eq_true ht
  by_cases hk1:(sgD l (i+1)).kind=3
  ·have da:decide ((sgD l (i+1)).at_=(sgD l i).at_+1)=false:=decide_eq_false fun h=>hneg ⟨ht,hk1,h⟩
   have dk:decide ((sgD l (i+1)).kind=3)=true:=decide_eq_true hk1
   simp only [go_sem,qa,qb,qc,qd,qe,qf,reduceCtorEq,zI,qC,sg,sg1,inf,pre,e1,e2,e3,d21,d31,d41,d23,d13,d12,Bool.false_or,Bool.not_true,m40,m91,nk,ea,dt,dk,da]
  ·have dk:decide ((sgD l (i+1)).kind=3)=false:=decide_eq_false hk1
   simp only [go_sem,qa,qb,qc,qd,qe,qf,reduceCtorEq,zI,qC,sg,sg1,inf,pre,e1,e2,e3,d21,d31,d41,d23,d13,d12,Bool.false_or,Bool.not_true,m40,m91,nk,ea,dt,dk]
 ·have dt:decide ((sgD l i).text=[45])=false:=decide_eq_false ht
  simp only [go_sem,qa,qb,qc,qd,qe,qf,reduceCtorEq,zI,qC,sg,sg1,inf,pre,e1,e2,e3,d21,d31,d41,d23,d13,d12,Bool.false_or,Bool.not_true,m40,m91,nk,ea,dt]
theorem qoE(l:List Sg) (τ:Bool) (hg:GoodL l) (i:Nat) (hi:i≤l.length) (nm:List Str) (d:Nat) (most:Int) (hk:(sgD l i).kind=1) (hnr:(sgD l i).near=false) (hneg: ¬ ((sgD l i).text=[45]∧(sgD l (i+1)).kind=3∧(sgD l (i+1)).at_=(sgD l i).at_+1)) (hp:(zB (sgD l i).text).prio ≠ 0) (hm: ¬ (zB (sgD l i).text).prio≤most):
 cw qh yW [.b (.a [.i τ (l.map Sg.v),I i,.o 1 (List.map S nm),I (d),B false]),I most]=some (.t [oT (.mk 0 [] 0 []),I 0],[.b (.a [.i τ (l.map Sg.v),I i,.o 1 (List.map S nm),I (d),B true]),I most]):=by
 have hlen:=hg.len
 have sg:=zz l τ hlen i 0 (by omega) (by decide) (.i true (nm.map S)) d false
 simp only [Nat.add_zero,Int.natCast_zero]at sg
 rw [Sg.v]at sg
 have sg1:=zz l τ hlen i 1 (by omega) (by decide) (.i true (nm.map S)) d false
 rw [Sg.v]at sg1
 simp only [Int.natCast_one]at sg1
 have m40:=qU l τ hlen i 0 (by omega) (by decide) (.i true (nm.map S)) d false [40]
 have m91:=qU l τ hlen i 0 (by omega) (by decide) (.i true (nm.map S)) d false [91]
 have m41:=qU l τ hlen i 2 (by omega) (by decide) (.i true (nm.map S)) d false [41]
 simp only [Nat.add_zero,Int.natCast_zero]at m40 m91
 have two:((2:Nat):Int)=2:=rfl
 rw [two]at m41
 have inf:=x7 (sgD l i).text
 have pre:=kx (sgD l i).text
 unfold opV at inf
 unfold xN at pre
 have e1:w64 ((i:Int)+1)=((i+1:Nat):Int):=by rw [qo]<;>omega
 have e2:w64 ((i:Int)+2)=((i+2:Nat):Int):=by rw [qo]<;>omega
 have e3:w64 ((i:Int)+3)=((i+3:Nat):Int):=by rw [qo]<;>omega
 have d21:decide ((2:Int)=1)=false:=rfl
 have d31:decide ((3:Int)=1)=false:=rfl
 have d41:decide ((4:Int)=1)=false:=rfl
 have d23:decide ((2:Int)=3)=false:=rfl
 have d13:decide ((1:Int)=3)=false:=rfl
 have d12:decide ((1:Int)=2)=false:=rfl
 have n40:isM l i [40]=false:=by unfold isM;rw [hk];rfl
 have n91:isM l i [91]=false:=by unfold isM;rw [hk];rfl
 rw [n40]at m40
 rw [n91]at m91
 rw [hk,hnr]at sg
 have ea:w64 ((sgD l i).at_+1)=(sgD l i).at_+1:=by
  have:=hg.at_ i
  rw [qo]<;>omega
 have hp':decide ((zB (sgD l i).text).prio ≠ 0)=true:=decide_eq_true hp
 rw [hp']at pre
 rw [qZ kb rfl,zL]
 by_cases ht:(sgD l i).text=[45]
 ·have dt:decide ((sgD l i).text=[45])=true:=decide_eq_true ht
  by_cases hk1:(sgD l (i+1)).kind=3
  ·have da:decide ((sgD l (i+1)).at_=(sgD l i).at_+1)=false:=decide_eq_false fun h=>hneg ⟨ht,hk1,h⟩
   have dk:decide ((sgD l (i+1)).kind=3)=true:=decide_eq_true hk1
   simp only [go_sem,qa,qb,qc,qd,qe,qf,reduceCtorEq,zI,qC,sg,sg1,inf,pre,e1,e2,e3,d21,d31,d41,d23,d13,d12,Bool.false_or,Bool.not_true,m40,m91,hm,ea,dt,dk,da]
  ·have dk:decide ((sgD l (i+1)).kind=3)=false:=decide_eq_false hk1
   simp only [go_sem,qa,qb,qc,qd,qe,qf,reduceCtorEq,zI,qC,sg,sg1,inf,pre,e1,e2,e3,d21,d31,d41,d23,d13,d12,Bool.false_or,Bool.not_true,m40,m91,hm,ea,dt,dk]
 ·have dt:decide ((sgD l i).text=[45])=false:=decide_eq_false ht
  simp only [go_sem,qa,qb,qc,qd,qe,qf,reduceCtorEq,zI,qC,sg,sg1,inf,pre,e1,e2,e3,d21,d31,d41,d23,d13,d12,Bool.false_or,Bool.not_true,m40,m91,hm,ea,dt]
theorem qoF(l:List Sg) (τ:Bool) (hg:GoodL l) (i:Nat) (hi:i≤l.length) (nm:List Str) (d:Nat) (most:Int) (hk:(sgD l i).kind=1) (hnr:(sgD l i).near=false) (hneg: ¬ ((sgD l i).text=[45]∧(sgD l (i+1)).kind=3∧(sgD l (i+1)).at_=(sgD l i).at_+1)) (hp:(zB (sgD l i).text).prio=0) (hq:(qV (sgD l i).text).prio ≠ 0):
 cw qh yW [.b (.a [.i τ (l.map Sg.v),I i,.o 1 (List.map S nm),I (d),B false]),I most]=some (.t [oT (.mk 0 [] 0 []),I 0],[.b (.a [.i τ (l.map Sg.v),I i,.o 1 (List.map S nm),I (d),B true]),I most]):=by
 have hlen:=hg.len
 have sg:=zz l τ hlen i 0 (by omega) (by decide) (.i true (nm.map S)) d false
 simp only [Nat.add_zero,Int.natCast_zero]at sg
 rw [Sg.v]at sg
 have sg1:=zz l τ hlen i 1 (by omega) (by decide) (.i true (nm.map S)) d false
 rw [Sg.v]at sg1
 simp only [Int.natCast_one]at sg1
 have m40:=qU l τ hlen i 0 (by omega) (by decide) (.i true (nm.map S)) d false [40]
 have m91:=qU l τ hlen i 0 (by omega) (by decide) (.i true (nm.map S)) d false [91]
 have m41:=qU l τ hlen i 2 (by omega) (by decide) (.i true (nm.map S)) d false [41]
 simp only [Nat.add_zero,Int.natCast_zero]at m40 m91
 have two:((2:Nat):Int)=2:=rfl
 rw [two]at m41
 have inf:=x7 (sgD l i).text
 have pre:=kx (sgD l i).text
 unfold opV at inf
 unfold xN at pre
 have e1:w64 ((i:Int)+1)=((i+1:Nat):Int):=by rw [qo]<;>omega
 have e2:w64 ((i:Int)+2)=((i+2:Nat):Int):=by rw [qo]<;>omega
 have e3:w64 ((i:Int)+3)=((i+3:Nat):Int):=by rw [qo]<;>omega
 have d21:decide ((2:Int)=1)=false:=rfl
 have d31:decide ((3:Int)=1)=false:=rfl
 have d41:decide ((4:Int)=1)=false:=rfl
 have d23:decide ((2:Int)=3)=false:=rfl
 have d13:decide ((1:Int)=3)=false:=rfl
 have d12:decide ((1:Int)=2)=false:=rfl
 have n40:isM l i [40]=false:=by unfold isM;rw [hk];rfl
 have n91:isM l i [91]=false:=by unfold isM;rw [hk];rfl
 rw [n40]at m40
 rw [n91]at m91
 rw [hk,hnr]at sg
 have ea:w64 ((sgD l i).at_+1)=(sgD l i).at_+1:=by
  have:=hg.at_ i
  rw [qo]<;>omega
 have hp':decide ((zB (sgD l i).text).prio ≠ 0)=false:=decide_eq_false fun h=>h hp
 have hq':decide ((qV (sgD l i).text).prio ≠ 0)=true:=decide_eq_true hq
 rw [hp']at pre
 rw [hq']at inf
 rw [qZ kb rfl,zL]
 by_cases ht:(sgD l i).text=[45]
 ·have dt:decide ((sgD l i).text=[45])=true:=decide_eq_true ht
  by_cases hk1:(sgD l (i+1)).kind=3
  ·have da:decide ((sgD l (i+1)).at_=(sgD l i).at_+1)=false:=decide_eq_false fun h=>hneg ⟨ht,hk1,h⟩
   have dk:decide ((sgD l (i+1)).kind=3)=true:=decide_eq_true hk1
   simp only [go_sem,qa,qb,qc,qd,qe,qf,reduceCtorEq,zI,qC,sg,sg1,inf,pre,e1,e2,e3,d21,d31,d41,d23,d13,d12,Bool.false_or,Bool.not_true,m40,m91,ea,dt,dk,da]
  ·have dk:decide ((sgD l (i+1)).kind=3)=false:=decide_eq_false hk1
   simp only [go_sem,qa,qb,qc,qd,qe,qf,reduceCtorEq,zI,qC,sg,sg1,inf,pre,e1,e2,e3,d21,d31,d41,d23,d13,d12,Bool.false_or,Bool.not_true,m40,m91,ea,dt,dk]
 ·have dt:decide ((sgD l i).text=[45])=false:=decide_eq_false ht
  simp only [go_sem,qa,qb,qc,qd,qe,qf,reduceCtorEq,zI,qC,sg,sg1,inf,pre,e1,e2,e3,d21,d31,d41,d23,d13,d12,Bool.false_or,Bool.not_true,m40,m91,ea,dt]
theorem qoG(l:List Sg) (τ:Bool) (hg:GoodL l) (i:Nat) (hi:i≤l.length) (nm:List Str) (d:Nat) (most:Int) (n40:isM l i [40]=false) (n91:isM l i [91]=false) (k1:(sgD l i).kind ≠ 1) (k2:(sgD l i).kind ≠ 2) (k3:(sgD l i).kind ≠ 3):
 cw qh yW [.b (.a [.i τ (l.map Sg.v),I i,.o 1 (List.map S nm),I (d),B false]),I most]=some (.t [oT (.mk 0 [] 0 []),I 0],[.b (.a [.i τ (l.map Sg.v),I i,.o 1 (List.map S nm),I (d),B true]),I most]):=by
 have hlen:=hg.len
 have sg:=zz l τ hlen i 0 (by omega) (by decide) (.i true (nm.map S)) d false
 simp only [Nat.add_zero,Int.natCast_zero]at sg
 rw [Sg.v]at sg
 have sg1:=zz l τ hlen i 1 (by omega) (by decide) (.i true (nm.map S)) d false
 rw [Sg.v]at sg1
 simp only [Int.natCast_one]at sg1
 have m40:=qU l τ hlen i 0 (by omega) (by decide) (.i true (nm.map S)) d false [40]
 have m91:=qU l τ hlen i 0 (by omega) (by decide) (.i true (nm.map S)) d false [91]
 have m41:=qU l τ hlen i 2 (by omega) (by decide) (.i true (nm.map S)) d false [41]
 simp only [Nat.add_zero,Int.natCast_zero]at m40 m91
 have two:((2:Nat):Int)=2:=rfl
 rw [two]at m41
 have inf:=x7 (sgD l i).text
 have pre:=kx (sgD l i).text
 unfold opV at inf
 unfold xN at pre
 have e1:w64 ((i:Int)+1)=((i+1:Nat):Int):=by rw [qo]<;>omega
 have e2:w64 ((i:Int)+2)=((i+2:Nat):Int):=by rw [qo]<;>omega
 have e3:w64 ((i:Int)+3)=((i+3:Nat):Int):=by rw [qo]<;>omega
 have d21:decide ((2:Int)=1)=false:=rfl
 have d31:decide ((3:Int)=1)=false:=rfl
 have d41:decide ((4:Int)=1)=false:=rfl
 have d23:decide ((2:Int)=3)=false:=rfl
 have d13:decide ((1:Int)=3)=false:=rfl
 have d12:decide ((1:Int)=2)=false:=rfl
 rw [n40]at m40
 rw [n91]at m91
 have dk1:decide ((sgD l i).kind=1)=false:=decide_eq_false k1
 have dk2:decide ((sgD l i).kind=2)=false:=decide_eq_false k2
 have dk3:decide ((sgD l i).kind=3)=false:=decide_eq_false k3
 rw [qZ kb rfl,zL]
 simp only [go_sem,qa,qb,qc,qd,qe,qf,reduceCtorEq,zI,qC,sg,sg1,inf,pre,e1,e2,e3,d21,d31,d41,d23,d13,d12,Bool.false_or,Bool.not_true,m40,m91,dk1,dk2,dk3]
end Go.Vm
namespace Go.Vm
theorem qi5(l:List Sg) (τ:Bool) (hg:GoodL l) (n:Nat) (hn20:n≤2^20) (hT:IT l τ n) (hA:IA l τ n):IP l τ (n+1):=by
 intro i nm d most hn hi hnm hd
 have hlen:=hg.len
 have bd: ∀ a:Nat,a≤l.length+8*n→l.length+8*(n+1) ≥ a+8:=fun a h=>by omega
 simp only [pP]
 by_cases c1:(sgD l i).kind=1∧(sgD l i).near=true
 ·have h40:=hg.near i c1.2
  have hlt:=(z8 h40).1
  obtain ⟨a1,a2⟩:=hA (i+2) nm d (by omega) (by omega) (by omega) hd
  rw [if_pos c1]
  cases hp:pA l n (i+2) nm d with
  |none=>
   refine ⟨fun t q i' nm' h=>by simp at h,fun _=> ?_⟩
   obtain ⟨ks,cs,⟨a,nm1,d1,ha,rfl⟩,hk,hc⟩:=a2 hp
   have:=qhj l τ hg i hi nm d most c1.1 c1.2 ks a (by omega) nm1 d1 true hc
   simp only [Bool.true_or]at this
   exact ⟨_,_,_,⟨a+1,nm1,d1,by omega,rfl⟩,this⟩
  |some r=>
   obtain ⟨ks,i1,nm1⟩:=r
   have adv:=(xu l n).2.2.2.1 _ _ _ _ _ _ hp
   obtain ⟨hk,hc⟩:=a1 _ _ _ hp
   have:=qhj l τ hg i hi nm d most c1.1 c1.2 ks i1 (by omega) nm1 d false hc
   simp only [Bool.false_or]at this
   simp only
   by_cases hm:isM l i1 [41]=true∧ks.length≤5
   ·rw [if_pos hm]
    rw [hm.1,decide_eq_false (by omega)]at this
    refine ⟨fun t q i' nm' h=> ?_,fun h=>by simp at h⟩
    simp only [Option.some.injEq,Prod.mk.injEq]at h
    obtain ⟨rfl,rfl,rfl,rfl⟩:=h
    exact this
   ·rw [if_neg hm]
    have hb:(!isM l i1 [41]||decide (5 < ks.length))=true:=by
     cases h:isM l i1 [41]with
     |false=>rfl
     |true=>
      have:5 < ks.length:=by
       apply Nat.lt_of_not_le;intro h5;exact hm ⟨h,h5⟩
      rw [decide_eq_true this];rfl
    rw [hb]at this
    exact ⟨fun t q i' nm' h=>by simp at h,fun _=>⟨_,_,_,⟨i1+1,nm1,d,by omega,rfl⟩,this⟩⟩
 rw [if_neg c1]
 by_cases c2:isM l i [40]=true
 ·have hlt:=(z8 c2).1
  rw [if_pos c2]
  by_cases c3:(sgD l (i+1)).kind=1∧isM l (i+2) [41]=true
  ·rw [if_pos c3]
   refine ⟨fun t q i' nm' h=> ?_,fun h=>by simp at h⟩
   simp only [Option.some.injEq,Prod.mk.injEq]at h
   obtain ⟨rfl,rfl,rfl,rfl⟩:=h
   exact qoD l τ hg i hi nm d most c2 c3.1 c3.2
  ·rw [if_neg c3]
   obtain ⟨t1,t2⟩:=hT (i+1) nm d 1200 (by omega) (by omega) (by omega) hd
   cases hp:pT l n (i+1) nm d 1200 with
   |none=>
    refine ⟨fun t q i' nm' h=>by simp at h,fun _=> ?_⟩
    obtain ⟨g,cs,⟨a,nm1,d1,ha,rfl⟩,hc⟩:=t2 hp
    have:=qhk l τ hg i hi nm d most c2 c3 g a (by omega) nm1 d1 true hc
    simp only [Bool.true_or]at this
    exact ⟨_,_,_,⟨a+1,nm1,d1,by omega,rfl⟩,this⟩
   |some r=>
    obtain ⟨g,i1,nm1⟩:=r
    have adv:=(xu l n).1 _ _ _ _ _ _ _ hp
    have:=qhk l τ hg i hi nm d most c2 c3 g i1 (by omega) nm1 d false (t1 _ _ _ hp)
    simp only [Bool.false_or]at this
    simp only
    by_cases hm:isM l i1 [41]=true
    ·rw [if_pos hm]
     rw [hm]at this
     refine ⟨fun t q i' nm' h=> ?_,fun h=>by simp at h⟩
     simp only [Option.some.injEq,Prod.mk.injEq]at h
     obtain ⟨rfl,rfl,rfl,rfl⟩:=h
     exact this
    ·rw [if_neg hm]
     have hb:isM l i1 [41]=false:=by cases h:isM l i1 [41];rfl;exact absurd h hm
     rw [hb]at this
     exact ⟨fun t q i' nm' h=>by simp at h,fun _=>⟨_,_,_,⟨i1+1,nm1,d,by omega,rfl⟩,this⟩⟩
 rw [if_neg c2]
 have n40:isM l i [40]=false:=by cases h:isM l i [40];rfl;exact absurd h c2
 by_cases c4:isM l i [91]=true
 ·have hlt:=(z8 c4).1
  rw [if_pos c4]
  by_cases c5:isM l (i+1) [93]=true
  ·rw [if_pos c5]
   refine ⟨fun t q i' nm' h=> ?_,fun h=>by simp at h⟩
   simp only [Option.some.injEq,Prod.mk.injEq]at h
   obtain ⟨rfl,rfl,rfl,rfl⟩:=h
   exact YX l τ hg i hi nm d most c4 jy (i+2) nm d false (qmF l τ hg i hi nm d c4 c5)
  rw [if_neg c5]
  have n93:isM l (i+1) [93]=false:=by cases h:isM l (i+1) [93];rfl;exact absurd h c5
  obtain ⟨a1,a2⟩:=hA (i+1) nm d (by omega) (by omega) (by omega) hd
  cases hp:pA l n (i+1) nm d with
  |none=>
   refine ⟨fun t q i' nm' h=>by simp at h,fun _=> ?_⟩
   obtain ⟨ks,cs,⟨a,nm1,d1,ha,rfl⟩,hk,hc⟩:=a2 hp
   obtain ⟨k1,k2⟩:=qf7 l τ hg i hi nm d c4 n93 ks (by omega) a (by omega) nm1 d1 true hc
   cases hb:isM l a [124]with
   |false=>
    have:=k1 hb
    simp only [Bool.true_or]at this
    exact ⟨_,_,_,⟨a+1,nm1,d1,by omega,rfl⟩,YX l τ hg i hi nm d most c4 _ _ _ _ _ this⟩
   |true=>
    have:=k2 hb _ (a+1) nm1 d1 true (by omega) (qqn l τ (a+1) nm1 d1 999)
    simp only [Bool.true_or]at this
    exact ⟨_,_,_,⟨a+1+1,nm1,d1,by omega,rfl⟩,YX l τ hg i hi nm d most c4 _ _ _ _ _ this⟩
  |some r=>
   obtain ⟨ks,i1,nm1⟩:=r
   have adv:=(xu l n).2.2.2.1 _ _ _ _ _ _ hp
   have nl:=(jC l n).2.2.2.1 _ _ _ _ _ _ hp
   obtain ⟨hk,hc⟩:=a1 _ _ _ hp
   obtain ⟨k1,k2⟩:=qf7 l τ hg i hi nm d c4 n93 ks (by omega) i1 (by omega) nm1 d false hc
   simp only
   cases hb:isM l i1 [124]with
   |true=>
    have hlt1:=(z8 hb).1
    rw [if_pos rfl]
    obtain ⟨t1,t2⟩:=hT (i1+1) nm1 d 999 (by omega) (by omega) (by omega) hd
    cases hp2:pT l n (i1+1) nm1 d 999 with
    |none=>
     refine ⟨fun t q i' nm' h=>by simp at h,fun _=> ?_⟩
     obtain ⟨g,cs,⟨a,nm2,d1,ha,rfl⟩,hc2⟩:=t2 hp2
     have:=k2 hb g a nm2 d1 true (by omega) hc2
     simp only [Bool.true_or]at this
     exact ⟨_,_,_,⟨a+1,nm2,d1,by omega,rfl⟩,YX l τ hg i hi nm d most c4 _ _ _ _ _ this⟩
    |some r2=>
     obtain ⟨r,i2,nm2⟩:=r2
     have adv2:=(xu l n).1 _ _ _ _ _ _ _ hp2
     have:=k2 hb r i2 nm2 d false (by omega) (t1 _ _ _ hp2)
     simp only [Bool.false_or]at this
     have:=YX l τ hg i hi nm d most c4 _ _ _ _ _ this
     simp only
     by_cases hm:isM l i2 [93]=true
     ·rw [if_pos hm]
      rw [hm]at this
      refine ⟨fun t q i' nm' h=> ?_,fun h=>by simp at h⟩
      simp only [Option.some.injEq,Prod.mk.injEq]at h
      obtain ⟨rfl,rfl,rfl,rfl⟩:=h
      exact this
     ·rw [if_neg hm]
      have hf:isM l i2 [93]=false:=by cases h:isM l i2 [93];rfl;exact absurd h hm
      rw [hf]at this
      exact ⟨fun t q i' nm' h=>by simp at h,fun _=>⟨_,_,_,⟨i2+1,nm2,d,by omega,rfl⟩,this⟩⟩
   |false=>
    rw [if_neg (by decide)]
    have:=k1 hb
    simp only [Bool.false_or]at this
    have:=YX l τ hg i hi nm d most c4 _ _ _ _ _ this
    by_cases hm:isM l i1 [93]=true
    ·rw [if_pos hm]
     rw [hm]at this
     refine ⟨fun t q i' nm' h=> ?_,fun h=>by simp at h⟩
     simp only [Option.some.injEq,Prod.mk.injEq]at h
     obtain ⟨rfl,rfl,rfl,rfl⟩:=h
     exact this
    ·rw [if_neg hm]
     have hf:isM l i1 [93]=false:=by cases h:isM l i1 [93];rfl;exact absurd h hm
     rw [hf]at this
     exact ⟨fun t q i' nm' h=>by simp at h,fun _=>⟨_,_,_,⟨i1+1,nm1,d,by omega,rfl⟩,this⟩⟩
 rw [if_neg c4]
 have n91:isM l i [91]=false:=by cases h:isM l i [91];rfl;exact absurd h c4
 by_cases c6:(sgD l i).kind=3
 ·rw [if_pos c6]
  refine ⟨fun t q i' nm' h=> ?_,fun h=>by simp at h⟩
  simp only [Option.some.injEq,Prod.mk.injEq]at h
  obtain ⟨rfl,rfl,rfl,rfl⟩:=h
  exact qoI l τ hg i hi nm d most c6
 rw [if_neg c6]
 by_cases c7:(sgD l i).kind=2
 ·rw [if_pos c7]
  refine ⟨fun t q i' nm' h=> ?_,fun h=>by simp at h⟩
  simp only [Option.some.injEq,Prod.mk.injEq]at h
  obtain ⟨rfl,rfl,rfl,rfl⟩:=h
  exact qoK l τ hg i hi nm d most c7 (by omega)
 rw [if_neg c7]
 by_cases k1:(sgD l i).kind=1
 ·have hnr:(sgD l i).near=false:=by
   cases h:(sgD l i).near with
   |true=>exact absurd ⟨k1,h⟩ c1
   |false=>rfl
  by_cases c8:(sgD l i).kind=1∧(sgD l i).text=[45]∧(sgD l (i+1)).kind=3∧(sgD l (i+1)).at_=(sgD l i).at_+1
  ·rw [if_pos c8]
   refine ⟨fun t q i' nm' h=> ?_,fun h=>by simp at h⟩
   simp only [Option.some.injEq,Prod.mk.injEq]at h
   obtain ⟨rfl,rfl,rfl,rfl⟩:=h
   exact qoH l τ hg i hi nm d most k1 hnr c8.2.1 c8.2.2.1 c8.2.2.2
  rw [if_neg c8]
  have hneg:=fun h=>c8 ⟨k1,h⟩
  have hlt:i < l.length:=j5 (by rw [k1];decide)
  by_cases hp0:(zB (sgD l i).text).prio=0
  ·rw [if_neg fun h=>h.2.1 hp0]
   by_cases hq0:(qV (sgD l i).text).prio=0
   ·rw [if_pos ⟨k1,hp0,hq0⟩]
    refine ⟨fun t q i' nm' h=> ?_,fun h=>by simp at h⟩
    simp only [Option.some.injEq,Prod.mk.injEq]at h
    obtain ⟨rfl,rfl,rfl,rfl⟩:=h
    exact qoC l τ hg i hi nm d most k1 hnr hneg hp0 hq0
   ·rw [if_neg fun h=>hq0 h.2.2]
    exact ⟨fun t q i' nm' h=>by simp at h,fun _=>⟨_,_,_,⟨i,nm,d,by omega,rfl⟩,qoF l τ hg i hi nm d most k1 hnr hneg hp0 hq0⟩⟩
  ·by_cases hm:(zB (sgD l i).text).prio≤most
   ·rw [if_pos ⟨k1,hp0,hm⟩]
    obtain ⟨t1,t2⟩:=hT (i+1) nm d (zB (sgD l i).text).right (by omega) (by omega) (by omega) hd
    cases hp:pT l n (i+1) nm d (zB (sgD l i).text).right with
    |none=>
     refine ⟨fun t q i' nm' h=>by simp at h,fun _=> ?_⟩
     obtain ⟨g,cs,⟨a,nm1,d1,ha,rfl⟩,hc⟩:=t2 hp
     exact ⟨_,_,_,⟨a,nm1,d1,by omega,rfl⟩,qhl l τ hg i hi nm d most k1 hnr hneg hp0 hm g a nm1 d1 true hc⟩
    |some r=>
     obtain ⟨x,i1,nm1⟩:=r
     refine ⟨fun t q i' nm' h=> ?_,fun h=>by simp at h⟩
     simp only [Option.some.injEq,Prod.mk.injEq]at h
     obtain ⟨rfl,rfl,rfl,rfl⟩:=h
     exact qhl l τ hg i hi nm d most k1 hnr hneg hp0 hm x i1 nm1 d false (t1 _ _ _ hp)
   ·rw [if_neg fun h=>hm h.2.2,if_neg fun h=>hp0 h.2.1]
    exact ⟨fun t q i' nm' h=>by simp at h,fun _=>⟨_,_,_,⟨i,nm,d,by omega,rfl⟩,qoE l τ hg i hi nm d most k1 hnr hneg hp0 hm⟩⟩
 ·rw [if_neg fun h=>k1 h.1,if_neg fun h=>k1 h.1,if_neg fun h=>k1 h.1]
  exact ⟨fun t q i' nm' h=>by simp at h,fun _=>⟨_,_,_,⟨i,nm,d,by omega,rfl⟩,qoG l τ hg i hi nm d most n40 n91 k1 c7 c6⟩⟩
theorem qdL(l:List Sg) (τ:Bool) (hg:GoodL l): ∀ n:Nat,n≤2^20→IT l τ n∧IL l τ n∧IP l τ n∧IA l τ n∧IB l τ n
 |0,_=>⟨fun i nm d most h=>by omega,fun i nm d most t q h=>by omega,fun i nm d most h=>by omega,fun i nm d h=>by omega,fun i nm d acc h=>by omega⟩
 |n+1,hn=>by
  obtain ⟨hT,hL,hP,hA,hB⟩:=qdL l τ hg n (by omega)
  exact ⟨qi6 l τ n hP hL,qi4 l τ hg n hT hL,qi5 l τ hg n (by omega) hT hA,qi2 l τ hg n hT hB,qi3 l τ hg n hT hB⟩
theorem qkB(l:List Sg) (τ:Bool) (hg:GoodL l) (i:Nat) (hi:i≤l.length):
 (∀ t i' nm',pT l 20000 i [] 0 1200=some (t,i',nm')→cw qh zY [.b (.a [.i τ (l.map Sg.v),I i,.o 1 (List.map S []),I ((0:Nat)),B false]),I 1200]=some (oT t,[.b (.a [.i τ (l.map Sg.v),I i',.o 1 (List.map S nm'),I ((0:Nat)),B false]),I 1200]))∧
 (pT l 20000 i [] 0 1200=none→ ∃ g cs,Js l τ (2^20) cs∧cw qh zY [.b (.a [.i τ (l.map Sg.v),I i,.o 1 (List.map S []),I ((0:Nat)),B false]),I 1200]=some (oT g,[.b (.a cs),I 1200])):=by
 have hlen:=hg.len
 obtain ⟨h1,h2⟩:=(qdL l τ hg 20000 (by omega)).1 i [] 0 1200 (by omega) hi (by simp) (by omega)
 refine ⟨h1,fun h=> ?_⟩
 obtain ⟨g,cs,⟨a,nm,d,ha,rfl⟩,hc⟩:=h2 h
 exact ⟨g,_,⟨a,nm,d,by omega,rfl⟩,hc⟩
end Go.Vm
namespace Go.Vm
def bhd:List Sg→Nat→Nat
 |[],i=>i
 |x::r,i=>if x.kind=5 then i+1 else bhd r (i+1)
def xW(l:List Sg) (n:Int):Nat:=if (max n 0).toNat < l.length then bhd (l.drop (max n 0).toNat) (max n 0).toNat else l.length
def xf(l:List Sg) (n:Int):Tm × List Str × Nat × Bool:=
 if 0≤n∧n≤(l.length:Int) - 1 then
  match pT l 20000 n.toNat [] 0 1200 with
  |some (t,i',nm')=>if (sgD l i').kind=5∧j9 t=true then (t,nm',i'+1,true)else (.mk 0 [] 0 [],[],xW l n,false)
  |none=>(.mk 0 [] 0 [],[],xW l n,false)
 else (.mk 0 [] 0 [],[],xW l n,false)
theorem qei: ∀ (r:List Sg) (i:Nat),i≤bhd r i∧bhd r i≤i+r.length
 |[],i=>⟨Nat.le_refl _,Nat.le_refl _⟩
 |x::r,i=>by
  have:=qei r (i+1)
  simp only [bhd,List.length_cons]
  split<;>omega
theorem qej: ∀ (r:List Sg) (i:Nat),(¬ ∃ x ∈ r,x.kind=5)→bhd r i=i+r.length
 |[],i,h=>rfl
 |x::r,i,h=>by
  have h5: ¬ x.kind=5:=fun e=>h ⟨x,List.mem_cons_self,e⟩
  have:=qej r (i+1) (fun ⟨y,hy,e⟩=>h ⟨y,List.mem_cons_of_mem _ hy,e⟩)
  simp only [bhd,if_neg h5,this,List.length_cons];omega
end Go.Vm
namespace Go.Vm
theorem Qt {k:Int} {s:Str} {n:Int} (hk:inI k) (hs:s.length≤Lm) (hn:inI n):WT (.mk k s n []):=KA hk hs hn (Nat.zero_le _) (fun t h=>by cases h)
theorem qci:inI 0:=by unfold inI;omega
theorem qbz: ∀ (ks:List Tm) (r:Tm),(∀ t ∈ ks,WT t)→WT r→WT (yA ks r)
 |[],r,_,h=>h
 |t::ks,r,h,hr=>by
  refine KA (by unfold inI;omega) (by simp [Lm]) qci (by simp [Lm]) fun u hu=> ?_
  simp only [List.mem_cons,List.not_mem_nil,or_false]at hu
  rcases hu with rfl|rfl
  ·exact h _ List.mem_cons_self
  ·exact qbz ks r (fun v hv=>h v (List.mem_cons_of_mem _ hv)) hr
theorem qjk {s:Str} {t y:Tm} (hs:s.length≤3000) (ht:WT t) (hy:WT y):WT (.mk 4 s 0 [t,y]):=
 KA (by unfold inI;omega) (by unfold Lm;omega) qci (by simp [Lm]) fun u hu=>by
  simp only [List.mem_cons,List.not_mem_nil,or_false]at hu
  rcases hu with rfl|rfl<;>assumption
theorem qjl {nm:List Str} {s:Str} (h:nm.length≤2^30):WT (jI nm s).1:=by
 unfold jI
 split
 ·rename_i hm
  have:=(KU s nm 0).1 hm.1
  exact Qt (by unfold inI;omega) (by simp [Lm]) (by unfold inI;omega)
 ·exact Qt (by unfold inI;omega) (by simp [Lm]) (by unfold inI;omega)
theorem qov(l:List Sg) (hg:GoodL l): ∀ n:Nat,
 (∀ i nm d most t i' nm',nm.length≤i→i≤l.length→pT l n i nm d most=some (t,i',nm')→WT t)∧
 (∀ i nm d most t q t' i' nm',nm.length≤i→i≤l.length→WT t→pL l n i nm d most t q=some (t',i',nm')→WT t')∧
 (∀ i nm d most t q i' nm',nm.length≤i→i≤l.length→pP l n i nm d most=some (t,q,i',nm')→WT t)∧
 (∀ i nm d ks i' nm',nm.length≤i→i≤l.length→pA l n i nm d=some (ks,i',nm')→ ∀ t ∈ ks,WT t)∧
 (∀ i nm d acc ks i' nm',nm.length≤i→i≤l.length→(∀ t ∈ acc,WT t)→pB l n i nm d acc=some (ks,i',nm')→ ∀ t ∈ ks,WT t):=by
 have hlen:=hg.len
 have h0:inI 0:=qci
 intro n
 induction n with
 |zero=>refine ⟨?_, ?_, ?_, ?_, ?_⟩<;>intros<;>simp_all [pT,pL,pP,pA,pB]
 |succ n ih=>
  obtain ⟨hT,hL,hP,hA,hB⟩:=ih
  have ad:=xu l n
  have nl:=jC l n
  refine ⟨?_, ?_, ?_, ?_, ?_⟩
  ·intro i nm d most t i' nm' hn hi h
   simp only [pT]at h
   split at h
   ·cases h
   split at h
   ·cases h
   ·rename_i t1 q1 i1 nm1 h1
    have a:=ad.2.2.1 _ _ _ _ _ _ _ _ h1
    have b:=nl.2.2.1 _ _ _ _ _ _ _ _ h1
    exact hL _ _ _ _ _ _ _ _ _ (by omega) a.2 (hP _ _ _ _ _ _ _ _ hn hi h1) h
  ·intro i nm d most t q t' i' nm' hn hi ht h
   simp only [pL]at h
   split at h
   ·rename_i hgo
    have:=qb7 hgo
    split at h
    ·cases h
    ·rename_i y i1 nm1 h1
     have a:=ad.1 _ _ _ _ _ _ _ h1
     have b:=nl.1 _ _ _ _ _ _ _ h1
     exact hL _ _ _ _ _ _ _ _ _ (by omega) a.2 (qjk (hg.text i) ht (hT _ _ _ _ _ _ _ (by omega) (by omega) h1)) h
   ·cases h;exact ht
  ·intro i nm d most t q i' nm' hn hi h
   have tx:=hg.text i
   simp only [pP]at h
   split at h
   ·rename_i hk
    have h40:=z8 (hg.near i hk.2)
    split at h
    ·cases h
    ·rename_i ks i1 nm1 h1
     split at h
     ·rename_i hm
      cases h
      exact KA (by unfold inI;omega) (by unfold Lm;omega) h0 (by unfold Lm;omega) (hA _ _ _ _ _ _ (by omega) (by omega) h1)
     ·cases h
   split at h
   ·rename_i hk
    have:=z8 hk
    split at h
    ·have:=hg.text (i+1)
     cases h
     exact Qt (by unfold inI;omega) (by unfold Lm;omega) h0
    ·split at h
     ·cases h
     ·rename_i t1 i1 nm1 h1
      split at h
      ·cases h
       exact hT _ _ _ _ _ _ _ (by omega) (by omega) h1
      ·cases h
   split at h
   ·rename_i hk
    have:=z8 hk
    split at h
    ·cases h
     exact Qt (by unfold inI;omega) (by simp [Lm]) h0
    ·split at h
     ·cases h
     ·rename_i ks i1 nm1 h1
      have a:=ad.2.2.2.1 _ _ _ _ _ _ h1
      have b:=nl.2.2.2.1 _ _ _ _ _ _ h1
      have hks:=hA _ _ _ _ _ _ (by omega) (by omega) h1
      split at h
      ·rename_i hb
       have:=z8 hb
       split at h
       ·cases h
       ·rename_i r i2 nm2 h2
        split at h
        ·cases h
         exact qbz _ _ hks (hT _ _ _ _ _ _ _ (by omega) (by omega) h2)
        ·cases h
      ·split at h
       ·cases h
        exact qbz _ _ hks (Qt (by unfold inI;omega) (by simp [Lm]) h0)
       ·cases h
   split at h
   ·cases h
    have:=hg.num i
    exact Qt (by unfold inI;omega) (by simp [Lm]) (by unfold inI;omega)
   split at h
   ·cases h
    exact qjl (by omega)
   split at h
   ·cases h
    have:=hg.num (i+1)
    exact Qt (by unfold inI;omega) (by simp [Lm]) (by unfold inI;omega)
   split at h
   ·rename_i hk
    have hlt:i < l.length:=j5 (by rw [hk.1];decide)
    split at h
    ·cases h
    ·rename_i x i1 nm1 h1
     cases h
     refine KA (by unfold inI;omega) (by unfold Lm;omega) h0 (by simp [Lm]) fun u hu=> ?_
     simp only [List.mem_cons,List.not_mem_nil,or_false]at hu
     subst hu
     exact hT _ _ _ _ _ _ _ (by omega) (by omega) h1
   split at h
   ·cases h
    exact Qt (by unfold inI;omega) (by unfold Lm;omega) h0
   ·cases h
  ·intro i nm d ks i' nm' hn hi h
   simp only [pA]at h
   split at h
   ·cases h
   ·rename_i t i1 nm1 h1
    have a:=ad.1 _ _ _ _ _ _ _ h1
    have b:=nl.1 _ _ _ _ _ _ _ h1
    exact hB _ _ _ _ _ _ _ (by omega) a.2 (fun u hu=>by
     simp only [List.mem_cons,List.not_mem_nil,or_false]at hu
     subst hu
     exact hT _ _ _ _ _ _ _ hn hi h1) h
  ·intro i nm d acc ks i' nm' hn hi hacc h
   simp only [pB]at h
   split at h
   ·rename_i hm
    have:=z8 hm
    split at h
    ·cases h
    ·rename_i t i1 nm1 h1
     have a:=ad.1 _ _ _ _ _ _ _ h1
     have b:=nl.1 _ _ _ _ _ _ _ h1
     exact hB _ _ _ _ _ _ _ (by omega) a.2 (fun u hu=>by
      rcases List.mem_append.1 hu with hu|hu
      ·exact hacc u hu
      ·simp only [List.mem_cons,List.not_mem_nil,or_false]at hu
       subst hu
       exact hT _ _ _ _ _ _ _ (by omega) (by omega) h1) h
   ·cases h;exact hacc
end Go.Vm
namespace Go.Vm
theorem qkw(l:List Sg) (τ:Bool) (hg:GoodL l) (k:Nat) (hk:k < l.length) (t:Tm) (i':Nat) (hi:i'≤l.length) (nm':List Str) (hw:WT t)
 (hp:cw qh zY [.b (.a [.i τ (l.map Sg.v),I k,.o 1 (List.map S ([]:List Str)),I ((0:Nat)),B false]),I 1200]=some (oT t,[.b (.a [.i τ (l.map Sg.v),I i',.o 1 (List.map S nm'),I ((0:Nat)),B false]),I 1200]))
 (h5:(sgD l i').kind=5) (hok:j9 t=true):
 cr qh Qh [.i τ (l.map Sg.v),I k]=some (.t [oT t,.o 1 (nm'.map S),I ((i'+1:Nat):Int),B true]):=by
 have hlen:=hg.len
 have e1:w64 ((l.length:Int) - 1)=(l.length:Int) - 1:=by rw [qo]<;>omega
 have wi:=kL k 0 ((l.length:Int) - 1)
 rw [decide_eq_true ⟨by omega,by omega⟩]at wi
 have sg:=zz l τ hlen i' 0 (by omega) (by decide) (.i true (nm'.map S)) (0:Nat) false
 simp only [Nat.add_zero,Int.natCast_zero]at sg
 rw [Sg.v,h5]at sg
 have e2:w64 ((i':Int)+1)=((i'+1:Nat):Int):=by rw [qo]<;>omega
 have ok:=qfx t hw (iT true t) (Jr true t)
 rw [hok]at ok
 rw [y7]at ok
 simp only [List.map_nil,Int.natCast_zero]at hp
 have tk: ∀ x:Tm,(x.kids.map oT).take x.kids.length=x.kids.map oT:=fun x=>List.take_of_length_le (by simp)
 have tk2:(nm'.map S).take nm'.length=nm'.map S:=List.take_of_length_le (by simp)
 rw [qH]at hp
 rw [qF K4 rfl,qH]
 simp only [go_sem,qa,qb,qc,qd,qe,qf,reduceCtorEq,xB,List.length_map,e1,wi,hp,sg,e2,ok,tk,tk2]
theorem qe4(l:List Sg) (τ:Bool) (hl:l.length≤3000): ∀ (r:List Sg) (k:Nat),l.drop k=r→k+r.length=l.length→
 lw qh Zk ⟨[(0,.i τ (l.map Sg.v)),(4,.p (100000,0) 0 0),(10,I k)],[((100000,0),4,[.a [I 0,S [],I 0,.s (100000,1) 0 0]]),((100000,1),4,[])]⟩=(if ∃ x ∈ r,x.kind=5 then some (.ret,⟨[(4,.p (100000,0) 0 0),(5,.n 1),(6,I (bhd r k:Nat)),(7,B false)],[((100000,0),4,[.a [I 0,S [],I 0,.n 4]]),((100000,1),4,[])]⟩)else some (.exit 0,⟨[(0,.i τ (l.map Sg.v)),(4,.p (100000,0) 0 0)],[((100000,0),4,[.a [I 0,S [],I 0,.s (100000,1) 0 0]]),((100000,1),4,[])]⟩))
 |[],k,h,hk=>by
  have h1: ¬ (k:Int) < (l.length:Int):=by simp only [List.length_nil]at hk;omega
  rw [if_neg (by simp),qq]
  simp only [go_sem,qa,qb,qc,qd,qe,qf,reduceCtorEq,Yy,List.length_map,h1]
 |x::r,k,h,hk=>by
  simp only [List.length_cons]at hk
  have hx:l[k]? =some x:=by
   have:=congrArg (fun z=>z[0]?) h
   simpa using this
  have hd:l.drop (k+1)=r:=by
   have:=congrArg (fun z=>z.drop 1) h
   simpa [List.drop_drop,Nat.add_comm]using this
  have h1:(k:Int) < (l.length:Int):=by omega
  have e1:w64 ((k:Int)+1)=((k+1:Nat):Int):=by rw [qo]<;>omega
  have e2:w64 (((k+1:Nat):Int) - 1)=(k:Int):=by rw [qo]<;>omega
  have g:=yy (f:=Sg.v) hx
  have a1:=fun T=>yX (τ:=τ) (T:=T) (e:=5) g rfl
  rw [Sg.v]at g
  by_cases h5:x.kind=5
  ·have d5:decide (x.kind=5)=true:=decide_eq_true h5
   rw [if_pos ⟨x,List.mem_cons_self,h5⟩]
   simp only [bhd,if_pos h5]
   rw [qq]
   simp only [go_sem,qa,qb,qc,qd,qe,qf,reduceCtorEq,Yy,List.length_map,h1,e1,e2,g,a1,d5]
  ·have d5:decide (x.kind=5)=false:=decide_eq_false h5
   have ih:=qe4 l τ hl r (k+1) hd (by omega)
   have ex:(∃ y ∈ x::r,y.kind=5)↔(∃ y ∈ r,y.kind=5):=by
    simp only [List.mem_cons,exists_eq_or_imp,h5,false_or]
   simp only [bhd,if_neg h5,ex]
   rw [← ih,qq]
   simp only [go_sem,qa,qb,qc,qd,qe,qf,reduceCtorEq,Yy,List.length_map,h1,e1,e2,g,a1,d5]
theorem J4(l:List Sg) (τ:Bool) (hl:l.length≤3000) (n:Int) (k:Nat) (hk:(max n 0).toNat=k):
 lw qh Zk ⟨[(0,.i τ (l.map Sg.v)),(4,.p (100000,0) 0 0),(10,I k)],[((100000,0),4,[.a [I 0,S [],I 0,.s (100000,1) 0 0]]),((100000,1),4,[])]⟩=some (.ret,⟨[(4,.p (100000,0) 0 0),(5,.n 1),(6,I (xW l n:Nat)),(7,B false)],[((100000,0),4,[.a [I 0,S [],I 0,.n 4]]),((100000,1),4,[])]⟩)∨(xW l n=l.length∧lw qh Zk ⟨[(0,.i τ (l.map Sg.v)),(4,.p (100000,0) 0 0),(10,I k)],[((100000,0),4,[.a [I 0,S [],I 0,.s (100000,1) 0 0]]),((100000,1),4,[])]⟩=some (.exit 0,⟨[(0,.i τ (l.map Sg.v)),(4,.p (100000,0) 0 0)],[((100000,0),4,[.a [I 0,S [],I 0,.s (100000,1) 0 0]]),((100000,1),4,[])]⟩)):=by
 unfold xW
 rw [hk]
 by_cases h:k < l.length
 ·have lp:=qe4 l τ hl (l.drop k) k rfl (by rw [List.length_drop];omega)
  rw [if_pos h]
  by_cases hx: ∃ x ∈ l.drop k,x.kind=5
  ·rw [if_pos hx]at lp;exact .inl lp
  ·rw [if_neg hx]at lp
   refine .inr ⟨?_,lp⟩
   rw [qej _ _ hx,List.length_drop];omega
 ·rw [if_neg h]
  refine .inr ⟨rfl, ?_⟩
  have h1: ¬ (k:Int) < (l.length:Int):=by omega
  rw [qq]
  simp only [go_sem,qa,qb,qc,qd,qe,qf,reduceCtorEq,Yy,List.length_map,h1]
theorem qkz(l:List Sg) (τ:Bool) (hg:GoodL l) (n:Int) (hn:n≤2^40) (ho: ¬ (0≤n∧n≤(l.length:Int) - 1)):
 cr qh Qh [.i τ (l.map Sg.v),I n]=some (.t [oT (.mk 0 [] 0 []),.o 1 [],I (xW l n:Nat),B false]):=by
 have hlen:=hg.len
 have e1:w64 ((l.length:Int) - 1)=(l.length:Int) - 1:=by rw [qo]<;>omega
 have wi:=kL n 0 ((l.length:Int) - 1)
 rw [decide_eq_false ho]at wi
 have hm:(if 0 > n then (0:Int)else n)=((max n 0).toNat:Int):=by split<;>omega
 rw [qF K4 rfl,zL]
 rcases J4 l τ hlen n _ rfl with lp|⟨hb,lp⟩
 ·simp only [go_sem,qa,qb,qc,qd,qe,qf,reduceCtorEq,xB,List.length_map,e1,wi,hm,lp]
 ·simp only [go_sem,qa,qb,qc,qd,qe,qf,reduceCtorEq,xB,List.length_map,e1,wi,hm,lp,hb]
theorem qkv(l:List Sg) (τ:Bool) (hg:GoodL l) (k:Nat) (hk:k < l.length) (g:Tm) (a:Nat) (nm':List Str) (d':Int)
 (hp:cw qh zY [.b (.a [.i τ (l.map Sg.v),I k,.o 1 (List.map S ([]:List Str)),I ((0:Nat)),B false]),I 1200]=some (oT g,[.b (.a [.i τ (l.map Sg.v),I a,.o 1 (List.map S nm'),I (d'),B true]),I 1200])):
 cr qh Qh [.i τ (l.map Sg.v),I k]=some (.t [oT (.mk 0 [] 0 []),.o 1 [],I (xW l k:Nat),B false]):=by
 have hlen:=hg.len
 have e1:w64 ((l.length:Int) - 1)=(l.length:Int) - 1:=by rw [qo]<;>omega
 have wi:=kL k 0 ((l.length:Int) - 1)
 rw [decide_eq_true ⟨by omega,by omega⟩]at wi
 have hm:(if 0 > (k:Int)then (0:Int)else (k:Int))=(k:Int):=by rw [if_neg (by omega)]
 simp only [List.map_nil,Int.natCast_zero]at hp
 have tk: ∀ x:Tm,(x.kids.map oT).take x.kids.length=x.kids.map oT:=fun x=>List.take_of_length_le (by simp)
 rw [qF K4 rfl,zL]
 rw [qH]at hp
 rcases J4 l τ hlen k k (by omega)with lp|⟨hb,lp⟩
 ·simp only [go_sem,qa,qb,qc,qd,qe,qf,reduceCtorEq,xB,List.length_map,e1,wi,hm,hp,tk,lp]
 ·simp only [go_sem,qa,qb,qc,qd,qe,qf,reduceCtorEq,xB,List.length_map,e1,wi,hm,hp,tk,lp,hb]
theorem qkx(l:List Sg) (τ:Bool) (hg:GoodL l) (k:Nat) (hk:k < l.length) (t:Tm) (i':Nat) (hi:i'≤l.length) (nm':List Str) (hw:WT t)
 (hp:cw qh zY [.b (.a [.i τ (l.map Sg.v),I k,.o 1 (List.map S ([]:List Str)),I ((0:Nat)),B false]),I 1200]=some (oT t,[.b (.a [.i τ (l.map Sg.v),I i',.o 1 (List.map S nm'),I ((0:Nat)),B false]),I 1200])) (h5:(sgD l i').kind ≠ 5):
 cr qh Qh [.i τ (l.map Sg.v),I k]=some (.t [oT (.mk 0 [] 0 []),.o 1 [],I (xW l k:Nat),B false]):=by
 have hlen:=hg.len
 have e1:w64 ((l.length:Int) - 1)=(l.length:Int) - 1:=by rw [qo]<;>omega
 have wi:=kL k 0 ((l.length:Int) - 1)
 rw [decide_eq_true ⟨by omega,by omega⟩]at wi
 have hm:(if 0 > (k:Int)then (0:Int)else (k:Int))=(k:Int):=by rw [if_neg (by omega)]
 simp only [List.map_nil,Int.natCast_zero]at hp
 have tk: ∀ x:Tm,(x.kids.map oT).take x.kids.length=x.kids.map oT:=fun x=>List.take_of_length_le (by simp)
 have sg:=zz l τ hlen i' 0 (by omega) (by decide) (.i true (nm'.map S)) (0:Nat) false
 simp only [Nat.add_zero,Int.natCast_zero]at sg
 rw [Sg.v]at sg
 have d5:decide ((sgD l i').kind=5)=false:=decide_eq_false h5
 rw [qF K4 rfl,zL]
 rw [qH]at hp
 rcases J4 l τ hlen k k (by omega)with lp|⟨hb,lp⟩
 ·simp only [go_sem,qa,qb,qc,qd,qe,qf,reduceCtorEq,xB,List.length_map,e1,wi,hm,hp,tk,lp,sg,d5]
 ·simp only [go_sem,qa,qb,qc,qd,qe,qf,reduceCtorEq,xB,List.length_map,e1,wi,hm,hp,tk,lp,hb,sg,d5]
theorem qky(l:List Sg) (τ:Bool) (hg:GoodL l) (k:Nat) (hk:k < l.length) (t:Tm) (i':Nat) (hi:i'≤l.length) (nm':List Str) (hw:WT t)
 (hp:cw qh zY [.b (.a [.i τ (l.map Sg.v),I k,.o 1 (List.map S ([]:List Str)),I ((0:Nat)),B false]),I 1200]=some (oT t,[.b (.a [.i τ (l.map Sg.v),I i',.o 1 (List.map S nm'),I ((0:Nat)),B false]),I 1200])) (h5:(sgD l i').kind=5) (hok:j9 t=false):
 cr qh Qh [.i τ (l.map Sg.v),I k]=some (.t [oT (.mk 0 [] 0 []),.o 1 [],I (xW l k:Nat),B false]):=by
 have hlen:=hg.len
 have e1:w64 ((l.length:Int) - 1)=(l.length:Int) - 1:=by rw [qo]<;>omega
 have wi:=kL k 0 ((l.length:Int) - 1)
 rw [decide_eq_true ⟨by omega,by omega⟩]at wi
 have hm:(if 0 > (k:Int)then (0:Int)else (k:Int))=(k:Int):=by rw [if_neg (by omega)]
 simp only [List.map_nil,Int.natCast_zero]at hp
 have tk: ∀ x:Tm,(x.kids.map oT).take x.kids.length=x.kids.map oT:=fun x=>List.take_of_length_le (by simp)
 have sg:=zz l τ hlen i' 0 (by omega) (by decide) (.i true (nm'.map S)) (0:Nat) false
 simp only [Nat.add_zero,Int.natCast_zero]at sg
 rw [Sg.v]at sg
 rw [h5]at sg
 have ok:=qfx t hw (iT true t) (Jr true t)
 rw [hok]at ok
 rw [y7]at ok
 rw [qF K4 rfl,zL]
 rw [qH]at hp
 rcases J4 l τ hlen k k (by omega)with lp|⟨hb,lp⟩
 ·simp only [go_sem,qa,qb,qc,qd,qe,qf,reduceCtorEq,xB,List.length_map,e1,wi,hm,hp,tk,lp,sg,ok]
 ·simp only [go_sem,qa,qb,qc,qd,qe,qf,reduceCtorEq,xB,List.length_map,e1,wi,hm,hp,tk,lp,hb,sg,ok]
def rV(r:Tm × List Str × Nat × Bool):V:= .t [oT r.1,.o 1 (r.2.1.map S),I (r.2.2.1:Nat),B r.2.2.2]
theorem qkm(l:List Sg) (τ:Bool) (hg:GoodL l) (n:Int) (hn:n≤2^40):
 cr qh Qh [.i τ (l.map Sg.v),I n]=some (rV (xf l n)):=by
 have hlen:=hg.len
 unfold xf
 by_cases ho:0≤n∧n≤(l.length:Int) - 1
 ·rw [if_pos ho]
  obtain ⟨k,rfl⟩: ∃ k:Nat,n=k:=⟨n.toNat,by omega⟩
  have hk:k < l.length:=by omega
  obtain ⟨h1,h2⟩:=qkB l τ hg k (by omega)
  simp only [Int.toNat_natCast]
  cases hp:pT l 20000 k [] 0 1200 with
  |none=>
   obtain ⟨g,cs,⟨a,nm,d,ha,rfl⟩,hc⟩:=h2 hp
   exact qkv l τ hg k hk g a nm d hc
  |some r=>
   obtain ⟨t,i',nm'⟩:=r
   have hc:=h1 _ _ _ hp
   have adv:=(xu l 20000).1 _ _ _ _ _ _ _ hp
   have hw:=(qov l hg 20000).1 _ _ _ _ _ _ _ (by simp) (by omega) hp
   simp only
   by_cases h5:(sgD l i').kind=5
   ·cases hok:j9 t with
    |true=>
     rw [if_pos ⟨h5,rfl⟩]
     exact qkw l τ hg k hk t i' adv.2 nm' hw hc h5 hok
    |false=>
     rw [if_neg (fun h=>by cases h.2)]
     exact qky l τ hg k hk t i' adv.2 nm' hw hc h5 hok
   ·rw [if_neg (fun h=>h5 h.1)]
    exact qkx l τ hg k hk t i' adv.2 nm' hw hc h5
 ·rw [if_neg ho]
  exact qkz l τ hg n hn ho
end Go.Vm
namespace Go.Vm
end Go.Vm
namespace Go.Vm
theorem qhT(l:List Sg) (k:Nat) (hk:k < l.length):k < (xf l k).2.2.1∧(xf l k).2.2.1≤l.length+1:=by
 have hb:k < xW l k∧xW l k≤l.length:=by
  unfold xW
  have h0:(max (k:Int) 0).toNat=k:=by omega
  rw [h0,if_pos hk]
  cases hd:l.drop k with
  |nil=>have:=congrArg List.length hd;rw [List.length_drop,List.length_nil]at this;omega
  |cons x r=>
   have hl:=congrArg List.length hd
   rw [List.length_drop,List.length_cons]at hl
   have:=qei r (k+1)
   simp only [bhd]
   split<;>omega
 unfold xf
 split
 ·split
  ·rename_i t i' nm' hp
   have adv:=(xu l 20000).1 _ _ _ _ _ _ _ hp
   simp only [Int.toNat_natCast]at adv
   split
   ·simp only;omega
   ·simp only;omega
  ·simp only;omega
 ·simp only;omega
def xV(l:List Sg):Nat→Nat→List Tm→Nat→List Tm × Nat
 |0,_,ts,b=>(ts,b)
 |n+1,k,ts,b=>if k < l.length then
  if (xf l k).2.2.2=true then xV l n (xf l k).2.2.1 (ts++[(xf l k).1]) b else xV l n (xf l k).2.2.1 ts (b+1)
  else (ts,b)
theorem J5(l:List Sg) (hg:GoodL l): ∀ (n k:Nat) (ts:List Tm) (b:Nat),l.length+2≤k+n→ts.length≤k→b≤k→k≤l.length+1→
 lw qh XU ⟨[(4,.s (100000,0) 0 l.length),(6,.s (100000,1) 0 ts.length),(7,I b),(8,I k)],[((100000,0),5,l.map Sg.v),((100000,1),4,ts.map oT)]⟩=some (.exit 0,⟨[(6,.s (100000,1) 0 (xV l n k ts b).1.length),(7,I ((xV l n k ts b).2:Nat))],[((100000,0),5,l.map Sg.v),((100000,1),4,(xV l n k ts b).1.map oT)]⟩)
 |0,k,ts,b,hn,ht,hb,hk=>by omega
 |n+1,k,ts,b,hn,ht,hb,hk=>by
  have hlen:=hg.len
  have tk3:(l.map Sg.v).take l.length=l.map Sg.v:=List.take_of_length_le (by simp)
  have tk2:(ts.map oT).take ts.length=ts.map oT:=List.take_of_length_le (by simp)
  by_cases h:k < l.length
  ·have h1:(k:Int) < (l.length:Int):=by omega
   have he:=qhT l k h
   have rd:=qkm l true hg k (by omega)
   unfold rV at rd
   have l1:decide ((ts.length+1)*56≤lim)=true:=decide_eq_true (by rw [zu];omega)
   have l2:decide (ts.length+1≤lim)=true:=decide_eq_true (by rw [zu];omega)
   have eb:w64 ((b:Int)+1)=((b+1:Nat):Int):=by rw [qo]<;>omega
   have rp:=fun k' ob (y:V) (ys:List V)=>Ji k' ob (ts.map oT) (y::ys) (YD _)
   have tk: ∀ x:Tm,(x.kids.map oT).take x.kids.length=x.kids.map oT:=fun x=>List.take_of_length_le (by simp)
   cases hok:(xf l k).2.2.2 with
   |true=>
    have ih:=J5 l hg n (xf l k).2.2.1 (ts++[(xf l k).1]) b (by omega) (by simp only [List.length_append,List.length_cons,List.length_nil];omega) (by omega) (by omega)
    simp only [xV,if_pos h,hok,if_true]
    rw [← ih]
    rw [hok,qH (xf l k).1]at rd
    simp only [List.map_append,List.map_cons,List.map_nil,List.length_append,List.length_cons,List.length_nil,qH (xf l k).1]
    rw [qq]
    simp only [go_sem,qa,qb,qc,qd,qe,qf,reduceCtorEq,Kf,List.length_map,h1,rd,l1,l2,rp,Option.map_some,ZB,tk,tk2,tk3]
   |false=>
    have ih:=J5 l hg n (xf l k).2.2.1 ts (b+1) (by omega) (by omega) (by omega) (by omega)
    simp only [xV,if_pos h,hok,Bool.false_eq_true,if_false]
    rw [← ih]
    rw [hok,qH (xf l k).1]at rd
    rw [qq]
    simp only [go_sem,qa,qb,qc,qd,qe,qf,reduceCtorEq,Kf,List.length_map,h1,rd,eb,tk,tk2,tk3]
  ·have h1: ¬ (k:Int) < (l.length:Int):=by omega
   simp only [xV,if_neg h]
   rw [qq]
   simp only [go_sem,qa,qb,qc,qd,qe,qf,reduceCtorEq,Kf,List.length_map,h1]
theorem qfo {s:Str} (h:s.length≤3000):GoodL (ke s):=qkf h
def Qv(s:Str):List Tm × Nat:=if s.length≤3000 then xV (ke s) ((ke s).length+2) 0 [] 0 else ([],0)
theorem qkl(s:Str):cr qh qa8 [S s]=some (.t [.o 4 ((Qv s).1.map oT),I ((Qv s).2:Nat)]):=by
 have sg:=qko s
 unfold qdq at sg
 unfold Qv
 rw [qF qnB rfl]
 by_cases hl:s.length≤3000
 ·rw [if_pos hl]at sg
  rw [if_pos hl]
  have lp:=J5 (ke s) (qfo hl) ((ke s).length+2) 0 [] 0 (by omega) (by simp) (by omega) (by omega)
  simp only [List.map_nil,List.length_nil,Int.natCast_zero]at lp
  have tk2: ∀ ts:List Tm,(ts.map oT).take ts.length=ts.map oT:=fun ts=>List.take_of_length_le (by simp)
  simp only [go_sem,qa,qb,qc,qd,qe,qf,reduceCtorEq,QZ,sg,lp,tk2,List.length_map]
 ·rw [if_neg hl]at sg
  rw [if_neg hl]
  have g0:GoodL []:=⟨by simp,fun i h=>by simp [sgD,sg0]at h,fun i h=>by simp [sgD,sg0]at h,fun i=>by simp [sgD,sg0],fun i=>by simp [sgD,sg0],fun i=>by simp [sgD,sg0]⟩
  have lp:=J5 [] g0 2 0 [] 0 (by simp) (by simp) (by omega) (by simp)
  simp only [List.map_nil,List.length_nil,Int.natCast_zero,xV,Nat.lt_irrefl,if_false]at lp
  simp only [go_sem,qa,qb,qc,qd,qe,qf,reduceCtorEq,QZ,sg,lp,List.map_nil,List.length_nil,Int.natCast_zero]
end Go.Vm
namespace Go.Vm
def zy(nm:List Str) (s:Str):List Str:=if s ∈ nm then nm else nm++[s]
theorem qkt(nm:List Str) (s:Str) (hl:nm.length≤2^20):cw qh XP [.o 1 (nm.map S),S s]=some (.o 1 ((zy nm s).map S),[.d,S s]):=by
 have h:=XL true nm s (by omega)
 have l1:decide ((nm.length+1)*16≤lim)=true:=decide_eq_true (by rw [zu];omega)
 have l2:decide (nm.length+1≤lim)=true:=decide_eq_true (by rw [zu];omega)
 have tk:(nm.map S).take nm.length=nm.map S:=List.take_of_length_le (by simp)
 have tk2:((nm++[s]).map S).take (nm.length+1)=(nm++[s]).map S:=List.take_of_length_le (by simp)
 rw [qZ qg7 rfl]
 unfold zy
 by_cases hm:s ∈ nm
 ·rw [decide_eq_true hm]at h
  rw [if_pos hm]
  simp only [go_sem,qa,qb,qc,qd,qe,qf,reduceCtorEq,jK,qC,h,tk,List.length_map]
 ·rw [decide_eq_false hm]at h
  rw [if_neg hm]
  simp only [go_sem,qa,qb,qc,qd,qe,qf,reduceCtorEq,jK,qC,h,tk,tk2,l1,l2,List.length_map]
def qfK(t:Tm):Option Str:=
 if QH t [58,45] 1=true then
  match t.kids with
  |[x]=>if QH x [105,110,99,108,117,100,101] 1=true then
   match x.kids with
   |[y]=>if y.kind=2 then some y.name else none
   |_=>none
   else none
  |_=>none
 else none
def jR(nm:List Str) (t:Tm):List Str:=match qfK t with|some s=>zy nm s|none=>nm
theorem qfM {t:Tm} {s:Str} (h:QH t s 1=true): ∃ x,t.kids=[x]:=by
 unfold QH at h
 simp only [Bool.and_eq_true,decide_eq_true_eq]at h
 have h3:t.kids.length=1:=by omega
 exact List.length_eq_one_iff.1 h3
theorem qkp(xs zs:List Tm) (t:Tm) (n k:Nat) (hk:xs.length=k) (hn:xs.length+1+zs.length=n) (hn3:n≤2^20) (nm:List Str) (hm:nm.length≤2^19):
 lw qh Zj ⟨[(5,.s (100000,0) 0 (nm).length),(13,.s (100000,1) 0 n),(14,I n),(15,I k)],[((100000,0),1,(nm).map S),((100000,1),4,xs.map oT++oT t::zs.map oT)]⟩=lw qh Zj ⟨[(5,.s (100000,0) 0 ((jR nm t)).length),(13,.s (100000,1) 0 n),(14,I n),(15,I ((k+1:Nat):Int))],[((100000,0),1,((jR nm t)).map S),((100000,1),4,xs.map oT++oT t::zs.map oT)]⟩:=by
 have h1:(k:Int) < (n:Int):=by omega
 have hlen:(xs.map oT).length=k:=by rw [List.length_map];exact hk
 have e1:w64 ((k:Int)+1)=((k+1:Nat):Int):=by rw [qo]<;>omega
 have ix:=fun y=>ky (k:=(100000,1)) (e:=4) (xs:=xs.map oT++y::zs.map oT) (i:=k) (len:=n) (by omega) (by simp only [List.length_append,List.length_map,List.length_cons];omega)
 have cg:=fun y zs=>qbI (xs.map oT) y zs k hlen
 have cs:=fun y y' zs=>qbJ (xs.map oT) y y' zs k hlen
 have rp:=fun k' ob (y:V) (ys:List V)=>Ji k' ob (xs.map oT) (y::ys) (YD _)
 have tk: ∀ x:Tm,(x.kids.map oT).take x.kids.length=x.kids.map oT:=fun x=>List.take_of_length_le (by simp)
 have tkn:(nm.map S).take nm.length=nm.map S:=List.take_of_length_le (by simp)
 have i1:=qfA t (iT true t) (Jr true t) [58,45] 1
 rw [y7]at i1
 unfold jR qfK
 rw [qH t]
 cases h2:QH t [58,45] 1 with
 |false=>
  rw [h2]at i1
  simp only [Bool.false_eq_true,if_false]
  rw [qq]
  simp only [go_sem,qa,qb,qc,qd,qe,qf,reduceCtorEq,Zl,h1,ix,cg,cs,rp,Option.map_some,ZB,tk,i1,e1]
 |true=>
  obtain ⟨x,hx⟩:=qfM h2
  rw [h2]at i1
  have i2:=qfA x (iT true x) (Jr true x) [105,110,99,108,117,100,101] 1
  rw [y7]at i2
  simp only [if_true,hx]
  rw [hx]at i1
  simp only [List.map_cons,List.map_nil,y7 true x]at i1
  cases h3:QH x [105,110,99,108,117,100,101] 1 with
  |false=>
   rw [h3]at i2
   simp only [Bool.false_eq_true,if_false,List.map_cons,List.map_nil,qH x,List.length_cons,List.length_nil]
   rw [qq]
   simp only [go_sem,qa,qb,qc,qd,qe,qf,reduceCtorEq,Zl,h1,ix,cg,cs,rp,Option.map_some,ZB,tk,i1,i2,e1,qH x]
  |true=>
   obtain ⟨y,hy⟩:=qfM h3
   rw [h3,hy]at i2
   rw [hy]at i1
   simp only [List.map_cons,List.map_nil,y7 true y]at i1 i2
   simp only [if_true,hy,List.map_cons,List.map_nil,qH x,qH y,List.length_cons,List.length_nil]
   by_cases h4:y.kind=2
   ·have d4:decide (y.kind=2)=true:=decide_eq_true h4
    rw [if_pos h4]
    simp only
    have on:=qkt nm y.name (by omega)
    have tko:((zy nm y.name).map S).take (zy nm y.name).length=(zy nm y.name).map S:=List.take_of_length_le (by simp)
    rw [qq]
    simp only [go_sem,qa,qb,qc,qd,qe,qf,reduceCtorEq,Zl,h1,ix,cg,cs,rp,Option.map_some,ZB,tk,tkn,tko,i1,i2,e1,d4,on,qH x,qH y]
   ·have d4:decide (y.kind=2)=false:=decide_eq_false h4
    rw [if_neg h4]
    simp only
    rw [qq]
    simp only [go_sem,qa,qb,qc,qd,qe,qf,reduceCtorEq,Zl,h1,ix,cg,cs,rp,Option.map_some,ZB,tk,i1,i2,e1,d4,qH x,qH y]
def xU(nm:List Str):List Tm→List Str
 |[]=>nm
 |t::r=>xU (jR nm t) r
theorem qd2(nm:List Str) (t:Tm):(jR nm t).length≤nm.length+1:=by
 unfold jR zy
 split
 ·split
  ·omega
  ·simp
 ·omega
theorem qfz(ts:List Tm) (hl:ts.length≤2^18): ∀ (r:List Tm) (k:Nat) (nm:List Str),ts.drop k=r→k+r.length=ts.length→nm.length≤k→
 lw qh Zj ⟨[(5,.s (100000,0) 0 (nm).length),(13,.s (100000,1) 0 ts.length),(14,I ts.length),(15,I k)],[((100000,0),1,(nm).map S),((100000,1),4,ts.map oT)]⟩=some (.exit 0,⟨[(5,.s (100000,0) 0 ((xU nm r)).length)],[((100000,0),1,((xU nm r)).map S),((100000,1),4,ts.map oT)]⟩)
 |[],k,nm,h,hk,hn=>by
  have h1: ¬ (k:Int) < (ts.length:Int):=by simp only [List.length_nil]at hk;omega
  rw [qq]
  simp only [go_sem,qa,qb,qc,qd,qe,qf,reduceCtorEq,Zl,xU,h1]
 |t::r,k,nm,h,hk,hn=>by
  simp only [List.length_cons]at hk
  have hx:ts[k]? =some t:=by
   have:=congrArg (fun z=>z[0]?) h
   simpa using this
  have hd:ts.drop (k+1)=r:=by
   have:=congrArg (fun z=>z.drop 1) h
   simpa [List.drop_drop,Nat.add_comm]using this
  have hlk:k < ts.length:=by omega
  have ht:ts.take k++t::r=ts:=by
   have:=List.take_append_drop k ts
   rw [h]at this;exact this
  have hrow:ts.map oT=(ts.take k).map oT++oT t::r.map oT:=by
   have:=congrArg (List.map oT) ht
   simpa using this.symm
  have ih:=qfz ts hl r (k+1) (jR nm t) hd (by omega) (by have:=qd2 nm t;omega)
  have stp:=qkp (ts.take k) r t ts.length k (by rw [List.length_take];omega) (by rw [List.length_take];omega) (by omega) nm (by omega)
  simp only [xU]
  rw [← ih,hrow]
  exact stp
theorem qbE(l:List Sg): ∀ (n k:Nat) (ts:List Tm) (b:Nat),ts.length≤k→k≤l.length+1→(xV l n k ts b).1.length≤l.length+1
 |0,k,ts,b,h,hk=>by simp only [xV];omega
 |n+1,k,ts,b,h,hk=>by
  simp only [xV]
  split
  ·rename_i hlt
   have:=qhT l k hlt
   split
   ·exact qbE l n _ _ _ (by simp only [List.length_append,List.length_cons,List.length_nil];omega) this.2
   ·exact qbE l n _ _ _ (by omega) this.2
  ·simp only;omega
theorem qd5(s:Str):(Qv s).1.length≤3001:=by
 unfold Qv
 split
 ·rename_i h
  have:=qbE (ke s) ((ke s).length+2) 0 [] 0 (by simp) (by omega)
  have:=(qfo h).len
  omega
 ·simp
def y8(s:Str):List Str:=xU [] (Qv s).1
theorem qce(s:Str):cr qh Jv [S s]=some (.o 1 ((y8 s).map S)):=by
 have ra:=qkl s
 have hl:=qd5 s
 unfold y8
 generalize (Qv s).1=ts at*
 have lp:=qfz ts (by omega) ts 0 [] rfl (by omega) (by simp)
 simp only [List.map_nil,List.length_nil,Int.natCast_zero]at lp
 have tk:(ts.map oT).take ts.length=ts.map oT:=List.take_of_length_le (by simp)
 have tk2:((xU [] ts).map S).take (xU [] ts).length=(xU [] ts).map S:=List.take_of_length_le (by simp)
 rw [qF qny rfl]
 simp only [go_sem,qa,qb,qc,qd,qe,qf,reduceCtorEq,ZX,ra,lp,tk,tk2]
end Go.Vm
namespace Go.Vm
theorem qd0: ∀ (ts:List Tm) (nm:List Str),(xU nm ts).length≤nm.length+ts.length
 |[],nm=>Nat.le_refl _
 |t::r,nm=>by
  have:=qd0 r (jR nm t)
  have:=qd2 nm t
  simp only [xU,List.length_cons];omega
theorem qfI(s:Str):(y8 s).length≤3001:=by
 have:=qd0 (Qv s).1 []
 have:=qd5 s
 unfold y8
 simp only [List.length_nil]at*
 omega
end Go.Vm
namespace Go.Vm
def zR:List Fl→Str→Option Fl
 |[],_=>none
 |x::r,s=>if x.name=s then some x else zR r s
def jr:Option Fl→V
 |some x=> .t [S x.text,B true]
 |none=> .t [S [],B false]
theorem qfy(τ τ':Bool) (fs:List Fl) (s:Str) (hl:fs.length≤2^40): ∀ (r:List Fl) (k:Nat),fs.drop k=r→k+r.length=fs.length→
 (zR r s=none→lw qh Qm ⟨[(1,S s),(8,.i τ (fs.map (iFl τ'))),(9,I fs.length),(10,I k)],[]⟩=some (.exit 0,⟨[],[]⟩))∧
 (∀ x,zR r s=some x→lw qh Qm ⟨[(1,S s),(8,.i τ (fs.map (iFl τ'))),(9,I fs.length),(10,I k)],[]⟩=some (.ret,⟨[(4,S x.text),(5,B true)],[((7,0),2,[.a [S x.name,S x.text]])]⟩))
 |[],k,h,hk=>by
  have h1: ¬ (k:Int) < (fs.length:Int):=by simp only [List.length_nil]at hk;omega
  refine ⟨fun _=> ?_,fun x h=>by cases h⟩
  rw [qq]
  simp only [go_sem,qa,qb,qc,qd,qe,qf,reduceCtorEq,Ke,List.length_map,h1]
 |y::r,k,h,hk=>by
  simp only [List.length_cons]at hk
  have hx:fs[k]? =some y:=by
   have:=congrArg (fun z=>z[0]?) h
   simpa using this
  have hd:fs.drop (k+1)=r:=by
   have:=congrArg (fun z=>z.drop 1) h
   simpa [List.drop_drop,Nat.add_comm]using this
  have h1:(k:Int) < (fs.length:Int):=by omega
  have e1:w64 ((k:Int)+1)=((k+1:Nat):Int):=by rw [qo]<;>omega
  have g:=yy (f:=iFl τ') hx
  have a1:=fun T=>yX (τ:=τ) (T:=T) (e:=2) g rfl
  have ih:=qfy τ τ' fs s hl r (k+1) hd (by omega)
  rw [iFl]at g
  by_cases h5:y.name=s
  ·have d5:decide (y.name=s)=true:=decide_eq_true h5
   refine ⟨fun h=>by simp only [zR,if_pos h5,reduceCtorEq]at h,fun x h=> ?_⟩
   simp only [zR,if_pos h5,Option.some.injEq]at h
   subst h
   rw [qq]
   simp only [go_sem,qa,qb,qc,qd,qe,qf,reduceCtorEq,Ke,List.length_map,h1,e1,g,a1,d5]
  ·have d5:decide (y.name=s)=false:=decide_eq_false h5
   have stp:lw qh Qm ⟨[(1,S s),(8,.i τ (fs.map (iFl τ'))),(9,I fs.length),(10,I k)],[]⟩=lw qh Qm ⟨[(1,S s),(8,.i τ (fs.map (iFl τ'))),(9,I fs.length),(10,I ((k+1:Nat):Int))],[]⟩:=by
    rw [qq]
    simp only [go_sem,qa,qb,qc,qd,qe,qf,reduceCtorEq,Ke,List.length_map,h1,e1,g,a1,d5]
   rw [stp]
   simp only [zR,if_neg h5]
   exact ih
theorem qix(τ τ':Bool) (fs:List Fl) (s:Str) (hl:fs.length≤2^40): ∀ (r:List Fl) (k:Nat),fs.drop k=r→k+r.length=fs.length→
 (zR r s=none→lw qh Qo ⟨[(0,.i τ (fs.map (iFl τ'))),(1,S s),(6,I k)],[]⟩=some (.exit 0,⟨[],[]⟩))∧
 (∀ x,zR r s=some x→lw qh Qo ⟨[(0,.i τ (fs.map (iFl τ'))),(1,S s),(6,I k)],[]⟩=some (.ret,⟨[(4,S x.text),(5,B true)],[]⟩))
 |[],k,h,hk=>by
  have h1: ¬ (k:Int) < (fs.length:Int):=by simp only [List.length_nil]at hk;omega
  refine ⟨fun _=> ?_,fun x h=>by cases h⟩
  rw [qq]
  simp only [go_sem,qa,qb,qc,qd,qe,qf,reduceCtorEq,Kp,List.length_map,h1]
 |y::r,k,h,hk=>by
  simp only [List.length_cons]at hk
  have hx:fs[k]? =some y:=by
   have:=congrArg (fun z=>z[0]?) h
   simpa using this
  have hd:fs.drop (k+1)=r:=by
   have:=congrArg (fun z=>z.drop 1) h
   simpa [List.drop_drop,Nat.add_comm]using this
  have h1:(k:Int) < (fs.length:Int):=by omega
  have e1:w64 ((k:Int)+1)=((k+1:Nat):Int):=by rw [qo]<;>omega
  have g:=yy (f:=iFl τ') hx
  have a1:=fun T=>yX (τ:=τ) (T:=T) (e:=2) g rfl
  have ih:=qix τ τ' fs s hl r (k+1) hd (by omega)
  rw [iFl]at g
  by_cases h5:y.name=s
  ·have d5:decide (y.name=s)=true:=decide_eq_true h5
   refine ⟨fun h=>by simp only [zR,if_pos h5,reduceCtorEq]at h,fun x h=> ?_⟩
   simp only [zR,if_pos h5,Option.some.injEq]at h
   subst h
   rw [qq]
   simp only [go_sem,qa,qb,qc,qd,qe,qf,reduceCtorEq,Kp,List.length_map,h1,e1,g,a1,d5]
  ·have d5:decide (y.name=s)=false:=decide_eq_false h5
   have stp:lw qh Qo ⟨[(0,.i τ (fs.map (iFl τ'))),(1,S s),(6,I k)],[]⟩=lw qh Qo ⟨[(0,.i τ (fs.map (iFl τ'))),(1,S s),(6,I ((k+1:Nat):Int))],[]⟩:=by
    rw [qq]
    simp only [go_sem,qa,qb,qc,qd,qe,qf,reduceCtorEq,Kp,List.length_map,h1,e1,g,a1,d5]
   rw [stp]
   simp only [zR,if_neg h5]
   exact ih
theorem qcd(τ τ':Bool) (fs:List Fl) (s:Str) (hl:fs.length≤2^40):cr qh jN [.i τ (fs.map (iFl τ')),S s]=some (jr (zR fs s)):=by
 obtain ⟨l1,l2⟩:=qfy τ τ' fs s hl fs 0 rfl (by omega)
 simp only [Int.natCast_zero]at l1 l2
 rw [qF qnw rfl]
 cases h:zR fs s with
 |none=>
  have lp:=l1 h
  unfold jr
  simp only [go_sem,qa,qb,qc,qd,qe,qf,reduceCtorEq,QY,lp,List.length_map]
 |some x=>
  have lp:=l2 x h
  unfold jr
  simp only [go_sem,qa,qb,qc,qd,qe,qf,reduceCtorEq,QY,lp,List.length_map]
theorem qp6(τ τ':Bool) (fs:List Fl) (s:Str) (hl:fs.length≤2^40):cr qh Yv [.i τ (fs.map (iFl τ')),S s]=some (jr (zR fs s)):=by
 obtain ⟨l1,l2⟩:=qix τ τ' fs s hl fs 0 rfl (by omega)
 simp only [Int.natCast_zero]at l1 l2
 rw [qF qob rfl]
 cases h:zR fs s with
 |none=>
  have lp:=l1 h
  unfold jr
  simp only [go_sem,qa,qb,qc,qd,qe,qf,reduceCtorEq,Za,lp,List.length_map]
 |some x=>
  have lp:=l2 x h
  unfold jr
  simp only [go_sem,qa,qb,qc,qd,qe,qf,reduceCtorEq,Za,lp,List.length_map]
def qE(fs:List Fl) (s:Str):List Str:=match zR fs s with|some x=>y8 x.text|none=>[]
theorem qfJ:y8 []=[]:=by rfl
theorem qch(τ τ':Bool) (fs:List Fl) (s:Str) (hl:fs.length≤2^40):cr qh Qi [.i τ (fs.map (iFl τ')),S s]=some (.o 1 ((qE fs s).map S)):=by
 have f1:=qcd τ τ' fs s hl
 have f2:=qcd true true fs s hl
 rw [qF qnJ rfl]
 unfold qE
 cases h:zR fs s with
 |none=>
  have ii:=qce []
  rw [qfJ]at ii
  rw [h,jr]at f1 f2
  simp only [go_sem,qa,qb,qc,qd,qe,qf,reduceCtorEq,Q2,f1,f2,ii,List.map_nil]
 |some x=>
  have ii:=qce x.text
  rw [h,jr]at f1 f2
  simp only [go_sem,qa,qb,qc,qd,qe,qf,reduceCtorEq,Q2,f1,f2,ii,List.map_nil]
end Go.Vm
namespace Go.Vm
theorem qfj(a b:Str): ∃ x:Bool,zt .geq (S a) (S b)=some (B x):=⟨_,rfl⟩
def smF(f:Fl):Prop:=f.name.length≤2^20∧f.text.length≤2^20
theorem qi1(τ τ':Bool) (fs:List Fl) (hl:fs.length≤2^30) (hs: ∀ f ∈ fs,smF f) (m:Nat): ∀ i:Nat,i+m=fs.length→
 ∃ b:Bool,lw qh X5 ⟨[(0,.i τ (fs.map (iFl τ'))),(3,I i)],[]⟩=if b=true then some (.exit 0,⟨[(0,.i τ (fs.map (iFl τ')))],[]⟩)else some (.ret,⟨[(2,B false)],[]⟩):=by
 induction m with
 |zero=>
  intro i hi
  have h: ¬ (i:Int) < (fs.length:Int):=by omega
  refine ⟨true, ?_⟩
  rw [if_pos rfl,qq]
  simp only [go_sem,qa,qb,qc,qd,qe,qf,reduceCtorEq,Qr,h,List.length_map]
 |succ m ih=>
  intro i hi
  have h:(i:Int) < (fs.length:Int):=by omega
  obtain ⟨f,hf⟩:=z6 (l:=fs) (i:=i) (by omega)
  obtain ⟨sn,st⟩:=hs f (List.mem_of_getElem? hf)
  have g:(fs.map (iFl τ'))[i]? =some (.a [S f.name,S f.text]):=yy (f:=iFl τ') hf
  have a1:=fun T=>yX (τ:=τ) (T:=T) (e:=2) g rfl
  have nm:=qp7 f.name (by omega)
  have e1:w64 ((i:Int)+1)=((i+1:Nat):Int):=by rw [qo]<;>omega
  obtain ⟨b,i1⟩:=ih (i+1) (by omega)
  cases h1:KZ f.name with
  |false=>
   rw [h1]at nm
   refine ⟨false, ?_⟩
   rw [if_neg (by decide),qq]
   simp only [go_sem,qa,qb,qc,qd,qe,qf,reduceCtorEq,Qr,h,g,a1,nm,List.length_map]
  |true=>
  rw [h1]at nm
  cases h2:decide ((3000:Int) < (f.text.length:Int))with
  |true=>
   refine ⟨false, ?_⟩
   rw [if_neg (by decide),qq]
   simp only [go_sem,qa,qb,qc,qd,qe,qf,reduceCtorEq,Qr,h,g,a1,nm,h2,List.length_map]
  |false=>
  by_cases h3:(0:Int) < (i:Int)
  ·have d3:decide ((0:Int) < (i:Int))=true:=decide_eq_true h3
   obtain ⟨j,rfl⟩: ∃ j,i=j+1:=⟨i - 1,by omega⟩
   obtain ⟨f2,hf2⟩:=z6 (l:=fs) (i:=j) (by omega)
   have g2:(fs.map (iFl τ'))[j]? =some (.a [S f2.name,S f2.text]):=yy (f:=iFl τ') hf2
   have a2:=fun T=>yX (τ:=τ) (T:=T) (e:=2) g2 rfl
   have e2:w64 (((j+1:Nat):Int) - 1)=(j:Int):=by rw [qo]<;>omega
   obtain ⟨x,bg⟩:=qfj f2.name f.name
   cases x with
   |true=>
    refine ⟨false, ?_⟩
    rw [if_neg (by decide),qq]
    simp only [go_sem,qa,qb,qc,qd,qe,qf,reduceCtorEq,Qr,h,g,a1,g2,a2,e2,nm,h2,d3,bg,List.length_map]
   |false=>
    refine ⟨b, ?_⟩
    rw [← i1,qq]
    simp only [go_sem,qa,qb,qc,qd,qe,qf,reduceCtorEq,Qr,h,g,a1,g2,a2,e1,e2,nm,h2,d3,bg,List.length_map]
  ·have d3:decide ((0:Int) < (i:Int))=false:=decide_eq_false h3
   refine ⟨b, ?_⟩
   rw [← i1,qq]
   simp only [go_sem,qa,qb,qc,qd,qe,qf,reduceCtorEq,Qr,h,g,a1,e1,nm,h2,d3,List.length_map]
theorem qdG(τ τ':Bool) (fs:List Fl) (hl:fs.length≤2^30) (hs: ∀ f ∈ fs,smF f): ∃ b:Bool,cr qh JG [.i τ (fs.map (iFl τ'))]=some (B b):=by
 obtain ⟨b,lp⟩:=qi1 τ τ' fs hl hs fs.length 0 (by omega)
 simp only [Int.natCast_zero]at lp
 cases b with
 |true=>
  rw [if_pos rfl]at lp
  refine ⟨decide ((fs.length:Int)≤6), ?_⟩
  rw [qF qg8 rfl]
  simp only [go_sem,qa,qb,qc,qd,qe,qf,reduceCtorEq,Zb,lp,List.length_map]
 |false=>
  rw [if_neg (by decide)]at lp
  refine ⟨false, ?_⟩
  rw [qF qg8 rfl]
  simp only [go_sem,qa,qb,qc,qd,qe,qf,reduceCtorEq,Zb,lp]
theorem QT {o:List Fl} {f:Fl} (h: ∀ x ∈ o,smF x) (hf:smF f): ∀ x ∈ o++[f],smF x:=by
 intro x hx
 rcases List.mem_append.1 hx with hx|hx
 ·exact h x hx
 ·simp only [List.mem_singleton]at hx;subst hx;exact hf
theorem qjg(τ τ':Bool) (fs:List Fl) (nm tx:Str) (hn:smF ⟨nm,tx⟩) (hl:fs.length≤2^20) (hs: ∀ f ∈ fs,smF f) (m:Nat): ∀ (i:Nat) (o:List Fl) (p:Bool),i+m=fs.length→o.length≤i+(if p=true then 1 else 0)→(∀ f ∈ o,smF f)→
 ∃ (o':List Fl) (p':Bool),lw qh X6 ⟨[(0,.i τ (fs.map (iFl τ'))),(1,S nm),(2,S tx),(8,.s (100000,0) 0 (o).length),(9,B p),(10,I (i:Int))],[((100000,0),2,(o).map oFl)]⟩=some (.exit 0,⟨[(0,.i τ (fs.map (iFl τ'))),(1,S nm),(2,S tx),(8,.s (100000,0) 0 (o').length),(9,B p')],[((100000,0),2,(o').map oFl)]⟩)∧o'.length≤fs.length+(if p'=true then 1 else 0)∧ ∀ f ∈ o',smF f:=by
 induction m with
 |zero=>
  intro i o p hi ho hso
  have h: ¬ (i:Int) < (fs.length:Int):=by omega
  refine ⟨o,p, ?_,by omega,hso⟩
  rw [qq]
  simp only [go_sem,qa,qb,qc,qd,qe,qf,reduceCtorEq,Zm,h,List.length_map]
 |succ m ih=>
  intro i o p hi ho hso
  have h:(i:Int) < (fs.length:Int):=by omega
  have hob:o.length≤i+1:=by split at ho<;>omega
  obtain ⟨f,hf⟩:=z6 (l:=fs) (i:=i) (by omega)
  have sf:=hs f (List.mem_of_getElem? hf)
  have g:(fs.map (iFl τ'))[i]? =some (.a [S f.name,S f.text]):=yy (f:=iFl τ') hf
  have a1:=fun T=>yX (τ:=τ) (T:=T) (e:=2) g rfl
  have e1:w64 ((i:Int)+1)=((i+1:Nat):Int):=by rw [qo]<;>omega
  have l1:decide ((o.length+1)*32≤lim)=true:=decide_eq_true (by rw [zu];omega)
  have l2:decide (o.length+1≤lim)=true:=decide_eq_true (by rw [zu];omega)
  have l3:decide ((o.length+1+1)*32≤lim)=true:=decide_eq_true (by rw [zu];omega)
  have l4:decide (o.length+1+1≤lim)=true:=decide_eq_true (by rw [zu];omega)
  have tk:=List.take_of_length_le (l:=o.map oFl) (i:=o.length) (by simp)
  have mp: ∀ (l:List Fl) (x:Fl),(l++[x]).map oFl=l.map oFl++[.a [S x.name,S x.text]]:=fun l x=>by rw [List.map_append];rfl
  have ln: ∀ (l:List Fl) (x:Fl),(l++[x]).length=l.length+1:=fun l x=>by simp
  have tk2: ∀ w:V,(o.map oFl++[w]).take (o.length+1)=o.map oFl++[w]:=fun w=>List.take_of_length_le (by simp)
  have tk3: ∀ w w':V,(o.map oFl++[w]++[w']).take (o.length+1+1)=o.map oFl++[w]++[w']:=fun w w'=>List.take_of_length_le (by simp)
  cases p with
  |true=>
   obtain ⟨o',p',k1,k2,k3⟩:=ih (i+1) (o++[f]) true (by omega) (by rw [ln];simp only [if_true]at ho ⊢;omega) (QT hso sf)
   refine ⟨o',p', ?_,k2,k3⟩
   rw [← k1,ln,mp,qq]
   simp only [go_sem,qa,qb,qc,qd,qe,qf,reduceCtorEq,Zm,h,g,a1,e1,l1,l2,tk,tk2,List.length_map]
  |false=>
   simp only [Bool.false_eq_true,if_false]at ho
   obtain ⟨x,bg⟩:=qfj f.name nm
   cases x with
   |false=>
    obtain ⟨o',p',k1,k2,k3⟩:=ih (i+1) (o++[f]) false (by omega) (by rw [ln];simp only [Bool.false_eq_true,if_false];omega) (QT hso sf)
    refine ⟨o',p', ?_,k2,k3⟩
    rw [← k1,ln,mp,qq]
    simp only [go_sem,qa,qb,qc,qd,qe,qf,reduceCtorEq,Zm,h,g,a1,e1,l1,l2,tk,tk2,bg,List.length_map]
   |true=>
    by_cases he:f.name=nm
    ·have de:decide (f.name=nm)=true:=decide_eq_true he
     obtain ⟨o',p',k1,k2,k3⟩:=ih (i+1) (o++[⟨nm,tx⟩]) true (by omega) (by rw [ln];simp only [if_true];omega) (QT hso hn)
     refine ⟨o',p', ?_,k2,k3⟩
     rw [← k1,ln,mp,qq]
     simp only [go_sem,qa,qb,qc,qd,qe,qf,reduceCtorEq,Zm,h,g,a1,e1,l1,l2,tk,tk2,bg,de,List.length_map]
    ·have de:decide (f.name=nm)=false:=decide_eq_false he
     obtain ⟨o',p',k1,k2,k3⟩:=ih (i+1) (o++[⟨nm,tx⟩]++[f]) true (by omega) (by rw [ln,ln];simp only [if_true];omega) (QT (QT hso hn) sf)
     refine ⟨o',p', ?_,k2,k3⟩
     rw [← k1,ln,ln,mp,mp,qq]
     simp only [go_sem,qa,qb,qc,qd,qe,qf,reduceCtorEq,Zm,h,g,a1,e1,l1,l2,l3,l4,tk,tk2,tk3,bg,de,List.length_map]
end Go.Vm
namespace Go.Vm
theorem qdQ(τ τ':Bool) (fs:List Fl) (nm tx:Str) (hn:smF ⟨nm,tx⟩) (hl:fs.length≤2^20) (hs: ∀ f ∈ fs,smF f):
 ∃ (o:List Fl) (b:Bool),cr qh JH [.i τ (fs.map (iFl τ')),S nm,S tx]=some (.t [.o 2 (o.map oFl),B b])∧o.length≤fs.length+1∧ ∀ f ∈ o,smF f:=by
 obtain ⟨o1,p1,lp,ho1,hs1⟩:=qjg τ τ' fs nm tx hn hl hs fs.length 0 [] false (by omega) (by simp) (by simp)
 simp only [List.map_nil,List.length_nil,Int.natCast_zero]at lp
 obtain ⟨o,ho,hso,he⟩: ∃ o:List Fl,o.length≤fs.length+1∧(∀ f ∈ o,smF f)∧o=if p1=true then o1 else o1++[⟨nm,tx⟩]:=by
  cases p1 with
  |true=>exact ⟨o1,by simpa using ho1,hs1,rfl⟩
  |false=>exact ⟨o1++[⟨nm,tx⟩],by simp at ho1 ⊢;omega,QT hs1 hn,rfl⟩
 obtain ⟨b1,f1⟩:=qdG true true o (by omega) hso
 obtain ⟨b3,f3⟩:=qdG τ τ' fs (by omega) hs
 have f2:=f1
 rw [show o.map (iFl true)=o.map oFl from rfl]at f2
 have zf:yr (fs.map (iFl τ'))=true:=qa2 (f:=iFl τ') (fun _=>rfl) fs
 have af:kT 2 (fs.map (iFl τ'))=true:=JQ (f:=iFl τ') (fun _=>⟨rfl,rfl⟩) fs
 have kf: ∀ d,qA d (fs.map (iFl τ'))=fs.map (iFl τ'):=fun d=>kZ (f:=iFl τ') (fun _=>rfl) d fs
 have cf:qx (fs.map (iFl τ'))=true:=qbM fs
 rw [qF qoc rfl]
 have l1:decide ((o1.length+1)*32≤lim)=true:=decide_eq_true (by rw [zu];split at ho1<;>omega)
 have l2:decide (o1.length+1≤lim)=true:=decide_eq_true (by rw [zu];split at ho1<;>omega)
 have l3:decide ((0+fs.length)*32≤lim)=true:=decide_eq_true (by rw [zu];omega)
 have l4:decide (0+fs.length≤lim)=true:=decide_eq_true (by rw [zu];omega)
 have l5:decide (fs.length*32≤lim)=true:=decide_eq_true (by rw [zu];omega)
 have l6:decide (fs.length≤lim)=true:=decide_eq_true (by rw [zu];omega)
 have tk:=List.take_of_length_le (l:=o1.map oFl) (i:=o1.length) (by simp)
 have tko:=List.take_of_length_le (l:=o.map oFl) (i:=o.length) (by simp)
 have tk2: ∀ w:V,(o1.map oFl++[w]).take (o1.length+1)=o1.map oFl++[w]:=fun w=>List.take_of_length_le (by simp)
 have tkf:=List.take_of_length_le (l:=fs.map (iFl τ')) (i:=fs.length) (by simp)
 cases p1 with
 |true=>
  simp only [if_true]at he
  subst he
  cases b1 with
  |false=>exact ⟨fs,false,by simp only [go_sem,qa,qb,qc,qd,qe,qf,reduceCtorEq,kN,lp,f1,f2,f3,tk,tkf,zf,af,kf,cf,List.length_nil,List.nil_append,tko,l3,l4,l5,l6,List.length_map];rfl,by omega,hs⟩
  |true=>
   cases b3 with
   |false=>exact ⟨fs,false,by simp only [go_sem,qa,qb,qc,qd,qe,qf,reduceCtorEq,kN,lp,f1,f2,f3,tk,tkf,zf,af,kf,cf,List.length_nil,List.nil_append,tko,l3,l4,l5,l6,List.length_map];rfl,by omega,hs⟩
   |true=>exact ⟨o,true,by simp only [go_sem,qa,qb,qc,qd,qe,qf,reduceCtorEq,kN,lp,f1,f2,f3,tk,tkf,zf,af,kf,cf,List.length_nil,List.nil_append,tko,l3,l4,l5,l6,List.length_map],ho,hso⟩
 |false=>
  simp only [Bool.false_eq_true,if_false]at he
  have em:o.map oFl=o1.map oFl++[.a [S nm,S tx]]:=by rw [he,List.map_append];rfl
  have el:o.length=o1.length+1:=by rw [he];simp
  have emi:o.map (iFl true)=o1.map (iFl true)++[.a [S nm,S tx]]:=by rw [he,List.map_append];rfl
  rw [emi]at f1
  rw [em]at f2
  cases b1 with
  |false=>exact ⟨fs,false,by simp only [go_sem,qa,qb,qc,qd,qe,qf,reduceCtorEq,kN,lp,f1,f2,f3,tk,tk2,tkf,zf,af,kf,cf,List.length_nil,List.nil_append,l1,l2,l3,l4,l5,l6,List.length_map];rfl,by omega,hs⟩
  |true=>
   cases b3 with
   |false=>exact ⟨fs,false,by simp only [go_sem,qa,qb,qc,qd,qe,qf,reduceCtorEq,kN,lp,f1,f2,f3,tk,tk2,tkf,zf,af,kf,cf,List.length_nil,List.nil_append,l1,l2,l3,l4,l5,l6,List.length_map];rfl,by omega,hs⟩
   |true=>exact ⟨o,true,by rw [em];simp only [go_sem,qa,qb,qc,qd,qe,qf,reduceCtorEq,kN,lp,f1,f2,f3,tk,tk2,tkf,zf,af,kf,cf,List.length_nil,List.nil_append,l1,l2,l3,l4,l5,l6,List.length_map],ho,hso⟩
end Go.Vm
namespace Go.Vm
def tI:List Str:=[[58,45,32,105,110,99,108,117,100,101,40,111,110,101,41,46,10],[58,45,32,105,110,99,108,117,100,101,40,116,119,111,41,46,10],[58,45,32,105,110,99,108,117,100,101,40,122,111,111,41,46,10],[58,45,32,105,110,99,108,117,100,101,40,110,111,110,101,41,46,10],[112,40,97,41,46,10],[112,40,98,41,46,10],[97,32,98,46,10],[58,45,32,105,110,99,108,117,100,101,40,49,41,46,10]]
theorem qqj: ∀ s ∈ tI,s.length≤40:=by decide
def tN:List Str:=[[111,110,101],[116,119,111],[122,111,111]]
theorem qma(bs:List UInt8) (hl:bs.length≤2^40) (m:Nat): ∀ (i:Nat) (s:Str) (ci:Nat) (ch:Int),i+m=4→ci≤bs.length→s.length≤80*i→
 ∃ (ci':Nat) (ch':Int) (s':Str),lw qh Kc ⟨[(0,.p (0,0) 0 0),(3,S s),(4,I i)],[((0,0),3,[.a [.i false (bs.map qP),I ci,I ch]])]⟩=some (.exit 0,⟨[(0,.p (0,0) 0 0),(3,S s')],[((0,0),3,[.a [.i false (bs.map qP),I ci',I ch']])]⟩)∧ci'≤bs.length∧s'.length≤320:=by
 induction m with
 |zero=>
  intro i s ci ch hi hc hs
  obtain ⟨c1,d1,x1,b1,q1,q2,q3⟩:=jY bs hl ci ch hc 4 (by decide) (by decide)
  have hlt: ¬ (i:Int) < x1:=by omega
  refine ⟨c1,d1,s, ?_,q1,by omega⟩
  unfold CU at b1
  rw [qq]
  simp only [go_sem,qa,qb,qc,qd,qe,qf,reduceCtorEq,Ku,b1,hlt]
 |succ m ih=>
  intro i s ci ch hi hc hs
  obtain ⟨c1,d1,x1,b1,q1,q2,q3⟩:=jY bs hl ci ch hc 4 (by decide) (by decide)
  by_cases hlt:(i:Int) < x1
  case neg=>
   refine ⟨c1,d1,s, ?_,q1,by omega⟩
   unfold CU at b1
   rw [qq]
   simp only [go_sem,qa,qb,qc,qd,qe,qf,reduceCtorEq,Ku,b1,hlt]
  obtain ⟨c2,d2,s2,b2,q4,q5⟩:=YM bs hl c1 d1 q1 1 tI (by decide) (by decide)
  have l2:=qqj s2 q5
  obtain ⟨c4,d4,s4,h4,q8,q9⟩:=ih (i+1) (s++s2) c2 d2 (by omega) q4 (by simp only [List.length_append];omega)
  refine ⟨c4,d4,s4, ?_,q8,q9⟩
  rw [← h4]
  have e2:w64 ((i:Int)+1)=((i+1:Nat):Int):=by rw [qo]<;>omega
  have a1:=kp (x:=s) (y:=s2) (by omega)
  unfold CU at b1 b2
  simp only [tI,List.map_cons,List.map_nil]at b2
  rw [qq]
  simp only [go_sem,qa,qb,qc,qd,qe,qf,reduceCtorEq,Ku,b1,b2,e2,a1,hlt]
theorem qmb(bs:List UInt8) (hl:bs.length≤2^40) (i:Nat) (h:Int) (hi:i≤bs.length):
 ∃ (i':Nat) (h':Int) (s:Str),cw qh qbu [CU bs i h]=some (S s,[CU bs i' h'])∧i'≤bs.length∧s.length≤1200:=by
 obtain ⟨i1,h1,s,lp,p1,p2⟩:=qma bs hl 4 0 [] i h (by omega) hi (by simp)
 refine ⟨i1,h1,s, ?_,p1,by omega⟩
 simp only [Int.natCast_zero]at lp
 rw [qZ qop rfl]
 unfold CU
 simp only [go_sem,qa,qb,qc,qd,qe,qf,reduceCtorEq,Yo,qC,lp]
theorem qiG: ∀ s ∈ tN,s.length≤3:=by decide
theorem ql8(bs:List UInt8) (hl:bs.length≤2^40) (m:Nat): ∀ (i:Nat) (o:List Fl) (ci:Nat) (ch:Int),i+m=3→ci≤bs.length→o.length≤i→(∀ x ∈ o,smF x)→
 ∃ (ci':Nat) (ch':Int) (o':List Fl),lw qh Kb ⟨[(0,.p (0,0) 0 0),(3,.s (100000,0) 0 (o).length),(4,.s (100000,1) 0 3),(5,I i)],[((0,0),3,[.a [.i false (bs.map qP),I ci,I ch]]),((100000,0),2,(o).map oFl),((100000,1),1,tN.map S)]⟩=some (.exit 0,⟨[(0,.p (0,0) 0 0),(3,.s (100000,0) 0 (o').length)],[((0,0),3,[.a [.i false (bs.map qP),I ci',I ch']]),((100000,0),2,(o').map oFl),((100000,1),1,tN.map S)]⟩)∧ci'≤bs.length∧o'.length≤3∧ ∀ x ∈ o',smF x:=by
 induction m with
 |zero=>
  intro i o ci ch hi hc ho hs
  have hlt: ¬ (i:Int) < ((3:Nat):Int):=by omega
  refine ⟨ci,ch,o, ?_,hc,by omega,hs⟩
  rw [qq]
  simp only [go_sem,qa,qb,qc,qd,qe,qf,reduceCtorEq,Kt,hlt,List.length_map]
 |succ m ih=>
  intro i o ci ch hi hc ho hs
  have hlt:(i:Int) < ((3:Nat):Int):=by omega
  have e2:w64 ((i:Int)+1)=((i+1:Nat):Int):=by rw [qo]<;>omega
  obtain ⟨c1,d1,p,b1,q1⟩:=qcq bs hl ci ch hc 6 (by decide) (by decide)
  cases p with
  |true=>
   obtain ⟨c4,d4,o4,h4,q8,q9⟩:=ih (i+1) o c1 d1 (by omega) q1 (by omega) hs
   refine ⟨c4,d4,o4, ?_,q8,q9⟩
   rw [← h4]
   unfold CU at b1
   rw [qq]
   simp only [go_sem,qa,qb,qc,qd,qe,qf,reduceCtorEq,Kt,b1,e2,hlt,List.length_map]
  |false=>
   obtain ⟨c2,d2,t,b2,q2,q3⟩:=qmb bs hl c1 d1 q1
   obtain ⟨nm,hn⟩:=z6 (l:=tN) (i:=i) (by show i < 3;omega)
   have hnl:=qiG nm (List.mem_of_getElem? hn)
   have g:=yy (f:=S) hn
   have ix:=ky (k:=(100000,1)) (e:=1) (xs:=tN.map S) (i:=i) (len:=3) (by omega) (by decide)
   obtain ⟨o2,b,st,k1,k2⟩:=qdQ true true o nm t ⟨by show nm.length≤_;omega,by show t.length≤_;omega⟩ (by omega) hs
   obtain ⟨c4,d4,o4,h4,q8,q9⟩:=ih (i+1) o2 c2 d2 (by omega) q2 (by omega) k2
   refine ⟨c4,d4,o4, ?_,q8,q9⟩
   rw [← h4]
   have tk:=List.take_of_length_le (l:=o.map oFl) (i:=o.length) (by simp)
   have tk2:=List.take_of_length_le (l:=o2.map oFl) (i:=o2.length) (by simp)
   have st2:=st
   rw [show o.map (iFl true)=o.map oFl from rfl]at st2
   unfold CU at b1 b2
   rw [qq]
   simp only [go_sem,qa,qb,qc,qd,qe,qf,reduceCtorEq,Kt,b1,b2,e2,hlt,g,ix,st,st2,tk,tk2,List.length_map]
theorem ql9(bs:List UInt8) (hl:bs.length≤2^40) (i:Nat) (h:Int) (hi:i≤bs.length):
 ∃ (i':Nat) (h':Int) (o:List Fl),cw qh qbt [CU bs i h]=some (.o 2 (o.map oFl),[CU bs i' h'])∧i'≤bs.length∧o.length≤3∧ ∀ x ∈ o,smF x:=by
 obtain ⟨i1,h1,o,lp,p1,p2⟩:=ql8 bs hl 3 0 [] i h (by omega) hi (by simp) (by simp)
 refine ⟨i1,h1,o, ?_,p1,p2⟩
 have tk:=List.take_of_length_le (l:=o.map oFl) (i:=o.length) (by simp)
 simp only [Int.natCast_zero,tN,List.map_cons,List.map_nil,List.length_nil]at lp
 rw [qZ qoo rfl]
 unfold CU
 simp only [go_sem,qa,qb,qc,qd,qe,qf,reduceCtorEq,Yn,qC,lp,tk,List.length_map]
theorem ql2(bs:List UInt8) (hl:bs.length≤2^40) (m:Nat): ∀ (i:Nat) (o:List Fl) (ci:Nat) (ch:Int),i+m=3→ci≤bs.length→o.length≤i→(∀ x ∈ o,smF x)→
 ∃ (ci':Nat) (ch':Int) (o':List Fl),lw qh X9 ⟨[(0,.p (0,0) 0 0),(3,.s (100000,0) 0 (o).length),(4,.s (100000,1) 0 3),(5,I i)],[((0,0),3,[.a [.i false (bs.map qP),I ci,I ch]]),((100000,0),2,(o).map oFl),((100000,1),1,tN.map S)]⟩=some (.exit 0,⟨[(0,.p (0,0) 0 0),(3,.s (100000,0) 0 (o').length)],[((0,0),3,[.a [.i false (bs.map qP),I ci',I ch']]),((100000,0),2,(o').map oFl),((100000,1),1,tN.map S)]⟩)∧ci'≤bs.length∧o'.length≤3∧ ∀ x ∈ o',smF x:=by
 induction m with
 |zero=>
  intro i o ci ch hi hc ho hs
  have hlt: ¬ (i:Int) < ((3:Nat):Int):=by omega
  refine ⟨ci,ch,o, ?_,hc,by omega,hs⟩
  rw [qq]
  simp only [go_sem,qa,qb,qc,qd,qe,qf,reduceCtorEq,Kr,hlt,List.length_map]
 |succ m ih=>
  intro i o ci ch hi hc ho hs
  have hlt:(i:Int) < ((3:Nat):Int):=by omega
  have e2:w64 ((i:Int)+1)=((i+1:Nat):Int):=by rw [qo]<;>omega
  obtain ⟨c1,d1,p,b1,q1⟩:=qcq bs hl ci ch hc 4 (by decide) (by decide)
  cases p with
  |true=>
   obtain ⟨c4,d4,o4,h4,q8,q9⟩:=ih (i+1) o c1 d1 (by omega) q1 (by omega) hs
   refine ⟨c4,d4,o4, ?_,q8,q9⟩
   rw [← h4]
   unfold CU at b1
   rw [qq]
   simp only [go_sem,qa,qb,qc,qd,qe,qf,reduceCtorEq,Kr,b1,e2,hlt,List.length_map]
  |false=>
   obtain ⟨c2,d2,t,b2,q2,q3⟩:=ql6 bs hl c1 d1 q1
   obtain ⟨nm,hn⟩:=z6 (l:=tN) (i:=i) (by show i < 3;omega)
   have hnl:=qiG nm (List.mem_of_getElem? hn)
   have g:=yy (f:=S) hn
   have ix:=ky (k:=(100000,1)) (e:=1) (xs:=tN.map S) (i:=i) (len:=3) (by omega) (by decide)
   obtain ⟨o2,b,st,k1,k2⟩:=qdQ true true o nm t ⟨by show nm.length≤_;omega,by show t.length≤_;omega⟩ (by omega) hs
   obtain ⟨c4,d4,o4,h4,q8,q9⟩:=ih (i+1) o2 c2 d2 (by omega) q2 (by omega) k2
   refine ⟨c4,d4,o4, ?_,q8,q9⟩
   rw [← h4]
   have tk:=List.take_of_length_le (l:=o.map oFl) (i:=o.length) (by simp)
   have tk2:=List.take_of_length_le (l:=o2.map oFl) (i:=o2.length) (by simp)
   have st2:=st
   rw [show o.map (iFl true)=o.map oFl from rfl]at st2
   unfold CU at b1 b2
   rw [qq]
   simp only [go_sem,qa,qb,qc,qd,qe,qf,reduceCtorEq,Kr,b1,b2,e2,hlt,g,ix,st,st2,tk,tk2,List.length_map]
theorem ql3(bs:List UInt8) (hl:bs.length≤2^40) (i:Nat) (h:Int) (hi:i≤bs.length):
 ∃ (i':Nat) (h':Int) (o:List Fl),cw qh qbp [CU bs i h]=some (.o 2 (o.map oFl),[CU bs i' h'])∧i'≤bs.length∧o.length≤3∧ ∀ x ∈ o,smF x:=by
 obtain ⟨i1,h1,o,lp,p1,p2⟩:=ql2 bs hl 3 0 [] i h (by omega) hi (by simp) (by simp)
 refine ⟨i1,h1,o, ?_,p1,p2⟩
 have tk:=List.take_of_length_le (l:=o.map oFl) (i:=o.length) (by simp)
 simp only [Int.natCast_zero,tN,List.map_cons,List.map_nil,List.length_nil]at lp
 rw [qZ qol rfl]
 unfold CU
 simp only [go_sem,qa,qb,qc,qd,qe,qf,reduceCtorEq,Yl,qC,lp,tk,List.length_map]
end Go.Vm
namespace Go.Vm
def tZ:List Str:=[[97],[122,122,122],[65],[]]
def tM:List Str:=[[111,110,101],[116,119,111],[111,110,101],[110,111,110,101]]
theorem qqm: ∀ s ∈ tZ,s.length≤3:=by decide
theorem qqk: ∀ s ∈ tM,s.length≤4:=by decide
theorem ql1(bs:List UInt8) (hl:bs.length≤2^40) (i:Nat) (h:Int) (hi:i≤bs.length):
 ∃ (i':Nat) (h':Int) (o:List Fl),cw qh qbo [CU bs i h]=some (.o 2 (o.map oFl),[CU bs i' h'])∧i'≤bs.length∧o.length≤4∧ ∀ x ∈ o,smF x:=by
 obtain ⟨c1,d1,x1,b1,q1,q2,q3⟩:=jY bs hl i h hi 10 (by decide) (by decide)
 obtain ⟨c2,d2,o,b2,r1,r2,r3⟩:=ql3 bs hl c1 d1 q1
 have tk:=List.take_of_length_le (l:=o.map oFl) (i:=o.length) (by simp)
 have tk2: ∀ w:V,(o.map oFl++[w]).take (o.length+1)=o.map oFl++[w]:=fun w=>List.take_of_length_le (by simp)
 have l1:decide (o.length*32≤lim)=true:=decide_eq_true (by rw [zu];omega)
 have l2:decide (o.length≤lim)=true:=decide_eq_true (by rw [zu];omega)
 have l3:decide ((o.length+1)*32≤lim)=true:=decide_eq_true (by rw [zu];omega)
 have l4:decide (o.length+1≤lim)=true:=decide_eq_true (by rw [zu];omega)
 have af:kT 2 (o.map oFl)=true:=JQ (f:=oFl) (fun _=>⟨rfl,rfl⟩) o
 have zf:yr (o.map oFl)=true:=qa2 (f:=oFl) (fun _=>rfl) o
 by_cases h0:x1=0
 ·obtain ⟨c3,d3,s3,b3,r4,r5⟩:=YM bs hl c2 d2 r1 1 tZ (by decide) (by decide)
  have hs3:=qqm s3 r5
  refine ⟨c3,d3,o++[⟨s3,[]⟩], ?_,r4,by simp;omega,QT r3 ⟨by show s3.length≤_;omega,by show 0≤_;omega⟩⟩
  have mp:(o++[(⟨s3,[]⟩:Fl)]).map oFl=o.map oFl++[.a [S s3,S []]]:=by rw [List.map_append];rfl
  subst h0
  unfold CU at b1 b2 b3
  simp only [tZ,List.map_cons,List.map_nil]at b3
  rw [qZ qcK rfl,mp]
  unfold CU
  simp only [go_sem,qa,qb,qc,qd,qe,qf,reduceCtorEq,Qg,qC,b1,b2,b3,tk,tk2,l1,l2,l3,l4,af,zf,List.length_map,List.length_nil,List.nil_append,Nat.zero_add]
 by_cases h1:x1=1
 ·obtain ⟨c3,d3,x3,b3,r4,r5,r6⟩:=jY bs hl c2 d2 r1 2 (by decide) (by decide)
  obtain ⟨n,rfl⟩: ∃ n:Nat,x3=n:=⟨x3.toNat,by omega⟩
  have lg:=qlW (3000+n) (by omega)
  have e1:w64 (3000+(n:Int))=((3000+n:Nat):Int):=by rw [qo]<;>omega
  refine ⟨c3,d3,o++[⟨[122,122,122],List.replicate (3000+n) 32⟩], ?_,r4,by simp;omega,QT r3 ⟨by show ([122,122,122]:Str).length≤_;decide,by show (List.replicate (3000+n) (32:UInt8)).length≤_;rw [List.length_replicate];omega⟩⟩
  have mp:(o++[(⟨[122,122,122],List.replicate (3000+n) 32⟩:Fl)]).map oFl=o.map oFl++[.a [S [122,122,122],S (List.replicate (3000+n) 32)]]:=by rw [List.map_append];rfl
  subst h1
  unfold CU at b1 b2 b3
  rw [qZ qcK rfl,mp]
  unfold CU
  simp only [go_sem,qa,qb,qc,qd,qe,qf,reduceCtorEq,Qg,qC,b1,b2,b3,lg,e1,tk,tk2,l1,l2,l3,l4,af,zf,List.length_map,List.length_nil,List.nil_append,Nat.zero_add,Int.reduceEq]
 ·refine ⟨c2,d2,o, ?_,r1,by omega,r3⟩
  have n0:decide (x1=0)=false:=decide_eq_false h0
  have n1:decide (x1=1)=false:=decide_eq_false h1
  unfold CU at b1 b2
  rw [qZ qcK rfl]
  unfold CU
  simp only [go_sem,qa,qb,qc,qd,qe,qf,reduceCtorEq,Qg,qC,b1,b2,n0,n1,tk,l1,l2,af,zf,List.length_map,List.length_nil,List.nil_append,Nat.zero_add]
theorem ql7(bs:List UInt8) (hl:bs.length≤2^40): ∃ (o:List Fl) (s:Str),cr qh qbs [.i false (bs.map qP)]=some (.t [.o 2 (o.map oFl),S s])∧o.length≤4∧(∀ x ∈ o,smF x)∧s.length≤4:=by
 obtain ⟨h,n⟩:=qlY bs hl
 obtain ⟨c1,d1,s1,b1,r1,r2⟩:=YM bs hl 0 h (Nat.zero_le _) 1 tM (by decide) (by decide)
 have hs1:=qqk s1 r2
 obtain ⟨c2,d2,p,b2,r3⟩:=qcq bs hl c1 d1 r1 5 (by decide) (by decide)
 unfold CU at n b1 b2
 simp only [tM,List.map_cons,List.map_nil,Int.natCast_zero]at n b1
 cases p with
 |true=>
  obtain ⟨c3,d3,o,b3,r4,r5,r6⟩:=ql1 bs hl c2 d2 r3
  have tk:=List.take_of_length_le (l:=o.map oFl) (i:=o.length) (by simp)
  refine ⟨o,s1, ?_,r5,r6,hs1⟩
  unfold CU at b3
  rw [qF qha rfl]
  simp only [go_sem,qa,qb,qc,qd,qe,qf,reduceCtorEq,Ze,n,b1,b2,b3,tk,List.length_map]
 |false=>
  obtain ⟨c3,d3,o,b3,r4,r5,r6⟩:=ql9 bs hl c2 d2 r3
  have tk:=List.take_of_length_le (l:=o.map oFl) (i:=o.length) (by simp)
  refine ⟨o,s1, ?_,by omega,r6,hs1⟩
  unfold CU at b3
  rw [qF qha rfl]
  simp only [go_sem,qa,qb,qc,qd,qe,qf,reduceCtorEq,Ze,n,b1,b2,b3,tk,List.length_map]
theorem qi0(bs:List UInt8) (hl:bs.length≤2^40): ∃ (o:List Fl) (s:Str),cr qh qbi [.i false (bs.map qP)]=some (.t [.o 2 (o.map oFl),S s])∧o.length≤4∧(∀ x ∈ o,smF x)∧s.length≤4:=by
 obtain ⟨o,s,d,w⟩:=ql7 bs hl
 have tk:=List.take_of_length_le (l:=o.map oFl) (i:=o.length) (by simp)
 refine ⟨o,s, ?_,w⟩
 rw [qF qoa rfl]
 simp only [go_sem,qa,qb,qc,qd,qe,qf,reduceCtorEq,Yd,d,tk,List.length_map]
end Go.Vm
namespace Go.Proofs
open Go.Shelf
def qdU:Go.Shelf.Ren:=⟨fun|137=>53|217=>61|266=>73|n=>n,fun|9=>9|5=>5|3=>3|n=>n,fun|n=>n⟩
theorem qdT:Go.Proofs.Lays.n137 Try.prog qdU where
 mixed:=by kernel_rfl
 f137:=Try.func53.trans (congrArg some (by kernel_rfl))
 f217:=Try.func61.trans (congrArg some (by kernel_rfl))
 f266:=Try.func73.trans (congrArg some (by kernel_rfl))
 t3:=Try.underlying3
 a3:=Try.isAgg3
 z3:=Try.sizeOf3
 v3:=Try.zeroValue3
 t5:=Try.underlying5
 a5:=Try.isAgg5
 z5:=Try.sizeOf5
 v5:=Try.zeroValue5
 t9:=Try.underlying9
 a9:=Try.isAgg9
 z9:=Try.sizeOf9
 v9:=Try.zeroValue9
end Go.Proofs
namespace Go.Vm
open Go.Proofs
instance lay0:Lay:=⟨fun _=>False,fun _=>True,fun _ _ _ _=>trivial⟩
theorem qkI: ∀ args r outs,KV args=some (r,outs)→XJ Try.prog (qdU.f 137) args r outs:=by
 intro args r outs h
 unfold KV at h
 split at h
 case h_2=>cases h
 rename_i s n
 simp only [Option.some.injEq,Prod.mk.injEq]at h
 obtain ⟨rfl,rfl⟩:=h
 have hz: ∀ (E:Env) vs c,qj E.cl [.v (.string s),.v (.int .u8 n)] vs c→c=c0∧vs=[.string s,.int .u8 n]:=by
  intro E vs c hx
  simp only [qj,Rel]at hx
  obtain ⟨y,ys,c1,c2,rfl,⟨rfl,-,rfl⟩,⟨y',ys',c3,c4,rfl,⟨rfl,-,rfl⟩,⟨rfl,rfl⟩,rfl⟩,rfl⟩:=hx
  exact ⟨rfl,rfl⟩
 refine qoJ (x:= .int .i64 (Lib.indexByte s.data.toList n.toNat.toUInt8)) qdT.f137 rfl rfl rfl rfl ?_ (fun E vs c hx=>(hz E vs c hx).1)
 intro E vs hx hL
 obtain ⟨-,rfl⟩:=hz E vs c0 hx
 refine (Any.strings_IndexByte qdT s n E.w).mono ?_
 rintro e w' ⟨rfl,rfl⟩
 exact ⟨rfl,Adds.refl _⟩
end Go.Vm
