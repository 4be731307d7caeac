import Derived.Test.YtimgahafdmacbaaT06
import Derived.Test.YtimgahafdmacbaaT05
import Derived.Test.YtimgahafdmacbaaT03
import Derived.Shelf.Small.Strs
import Derived.Test.YtimgahafdmacbaaProg
import Derived.KernelRfl
set_option autoImplicit false
set_option maxHeartbeats 16000000
set_option maxRecDepth 100000
set_option linter.unusedSimpArgs false
set_option linter.unusedVariables false
namespace Go.Vm
theorem struct1(s:Str) (t:Tm):cw progA F.impl_structure [S s,.o 4 [.a [I t.kind,S t.name,I t.num,.o 4 (t.kids.map oT)]]]=
 some (.a [I 4,S s,I 0,.o 4 [.a [I t.kind,S t.name,I t.num,.o 4 (t.kids.map oT)]]],[S s,.d]):=by
 have:=structure_of s [t]
 rw [oT_struct]at this
 simp only [List.map_cons,List.map_nil,oT_mk t]at this
 exact this
theorem prim_num(l:List Sg) (τ:Bool) (hg:GoodL l) (i:Nat) (hi:i≤l.length) (nm:List Str) (d:Nat) (most:Int) (hk:(sgD l i).kind=3):
 cw progA F.impl_parser_primary [.b (.a [.i τ (l.map Sg.v),I i,.o 1 (List.map S nm),I (d),B false]),I most]=some (.t [oT (.mk 3 [] (sgD l i).num []),I 0],[.b (.a [.i τ (l.map Sg.v),I ((i+1:Nat):Int),.o 1 (List.map S nm),I (d),B false]),I most]):=by
 have hlen:=hg.len
 have sg:=impl_sign_ok l τ hlen i 0 (by omega) (by decide) (.i true (nm.map S)) d false
 simp only [Nat.add_zero,Int.natCast_zero]at sg
 rw [Sg.v]at sg
 have sg1:=impl_sign_ok l τ hlen i 1 (by omega) (by decide) (.i true (nm.map S)) d false
 rw [Sg.v]at sg1
 simp only [Int.natCast_one]at sg1
 have m40:=impl_isMark_ok l τ hlen i 0 (by omega) (by decide) (.i true (nm.map S)) d false [40]
 have m91:=impl_isMark_ok l τ hlen i 0 (by omega) (by decide) (.i true (nm.map S)) d false [91]
 have m41:=impl_isMark_ok l τ hlen i 2 (by omega) (by decide) (.i true (nm.map S)) d false [41]
 simp only [Nat.add_zero,Int.natCast_zero]at m40 m91
 have two:((2:Nat):Int)=2:=rfl
 rw [two]at m41
 have inf:=impl_InfixOf_ok (sgD l i).text
 have pre:=impl_PrefixOf_ok (sgD l i).text
 unfold opV at inf
 unfold preV at pre
 have e1:w64 ((i:Int)+1)=((i+1:Nat):Int):=by rw [w64_id]<;>omega
 have e2:w64 ((i:Int)+2)=((i+2:Nat):Int):=by rw [w64_id]<;>omega
 have e3:w64 ((i:Int)+3)=((i+3:Nat):Int):=by rw [w64_id]<;>omega
 have d21:decide ((2:Int)=1)=false:=rfl
 have d31:decide ((3:Int)=1)=false:=rfl
 have d41:decide ((4:Int)=1)=false:=rfl
 have d23:decide ((2:Int)=3)=false:=rfl
 have d13:decide ((1:Int)=3)=false:=rfl
 have d12:decide ((1:Int)=2)=false:=rfl
 have n40:isM l i [40]=false:=by unfold isM;rw [hk];rfl
 have n91:isM l i [91]=false:=by unfold isM;rw [hk];rfl
 rw [n40]at m40
 rw [n91]at m91
 rw [hk]at sg
 have nk:=impl_number_ok (sgD l i).num
 rw [oT_leaf]at nk
 rw [cw_fn pA_impl_parser_primary rfl,oT_leaf]
 simp only [go_sem,Nat.reduceAdd,Nat.reduceSub,Nat.reduceMul,Nat.reduceEqDiff,Nat.reduceLeDiff,Nat.reduceBEq,reduceCtorEq,A.impl_parser_primary,finish,sg,sg1,inf,pre,e1,e2,e3,d21,d31,d41,d23,d13,d12,Bool.false_or,Bool.not_true,m40,m91,nk]
theorem prim_var(l:List Sg) (τ:Bool) (hg:GoodL l) (i:Nat) (hi:i≤l.length) (nm:List Str) (d:Nat) (most:Int) (hk:(sgD l i).kind=2) (hn:nm.length≤2^30):
 cw progA F.impl_parser_primary [.b (.a [.i τ (l.map Sg.v),I i,.o 1 (List.map S nm),I (d),B false]),I most]=some (.t [oT (varAt nm (sgD l i).text).1,I 0],[.b (.a [.i τ (l.map Sg.v),I ((i+1:Nat):Int),.o 1 (List.map S ((varAt nm (sgD l i).text).2)),I (d),B false]),I most]):=by
 have hlen:=hg.len
 have sg:=impl_sign_ok l τ hlen i 0 (by omega) (by decide) (.i true (nm.map S)) d false
 simp only [Nat.add_zero,Int.natCast_zero]at sg
 rw [Sg.v]at sg
 have sg1:=impl_sign_ok l τ hlen i 1 (by omega) (by decide) (.i true (nm.map S)) d false
 rw [Sg.v]at sg1
 simp only [Int.natCast_one]at sg1
 have m40:=impl_isMark_ok l τ hlen i 0 (by omega) (by decide) (.i true (nm.map S)) d false [40]
 have m91:=impl_isMark_ok l τ hlen i 0 (by omega) (by decide) (.i true (nm.map S)) d false [91]
 have m41:=impl_isMark_ok l τ hlen i 2 (by omega) (by decide) (.i true (nm.map S)) d false [41]
 simp only [Nat.add_zero,Int.natCast_zero]at m40 m91
 have two:((2:Nat):Int)=2:=rfl
 rw [two]at m41
 have inf:=impl_InfixOf_ok (sgD l i).text
 have pre:=impl_PrefixOf_ok (sgD l i).text
 unfold opV at inf
 unfold preV at pre
 have e1:w64 ((i:Int)+1)=((i+1:Nat):Int):=by rw [w64_id]<;>omega
 have e2:w64 ((i:Int)+2)=((i+2:Nat):Int):=by rw [w64_id]<;>omega
 have e3:w64 ((i:Int)+3)=((i+3:Nat):Int):=by rw [w64_id]<;>omega
 have d21:decide ((2:Int)=1)=false:=rfl
 have d31:decide ((3:Int)=1)=false:=rfl
 have d41:decide ((4:Int)=1)=false:=rfl
 have d23:decide ((2:Int)=3)=false:=rfl
 have d13:decide ((1:Int)=3)=false:=rfl
 have d12:decide ((1:Int)=2)=false:=rfl
 have n40:isM l i [40]=false:=by unfold isM;rw [hk];rfl
 have n91:isM l i [91]=false:=by unfold isM;rw [hk];rfl
 rw [n40]at m40
 rw [n91]at m91
 rw [hk]at sg
 have nk:=impl_parser_variable_ok l τ ((i+1:Nat):Int) nm hn d false (sgD l i).text
 rw [oT_mk]at nk
 have tk: ∀ x:Tm,(x.kids.map oT).take x.kids.length=x.kids.map oT:=fun x=>List.take_of_length_le (by simp)
 rw [cw_fn pA_impl_parser_primary rfl,oT_mk]
 simp only [go_sem,Nat.reduceAdd,Nat.reduceSub,Nat.reduceMul,Nat.reduceEqDiff,Nat.reduceLeDiff,Nat.reduceBEq,reduceCtorEq,A.impl_parser_primary,finish,sg,sg1,inf,pre,e1,e2,e3,d21,d31,d41,d23,d13,d12,Bool.false_or,Bool.not_true,m40,m91,nk,tk]
theorem prim_atomp(l:List Sg) (τ:Bool) (hg:GoodL l) (i:Nat) (hi:i≤l.length) (nm:List Str) (d:Nat) (most:Int) (h40:isM l i [40]=true) (hk1:(sgD l (i+1)).kind=1) (h41:isM l (i+2) [41]=true):
 cw progA F.impl_parser_primary [.b (.a [.i τ (l.map Sg.v),I i,.o 1 (List.map S nm),I (d),B false]),I most]=some (.t [oT (.mk 2 (sgD l (i+1)).text 0 []),I 0],[.b (.a [.i τ (l.map Sg.v),I ((i+3:Nat):Int),.o 1 (List.map S nm),I (d),B false]),I most]):=by
 have hlen:=hg.len
 have sg:=impl_sign_ok l τ hlen i 0 (by omega) (by decide) (.i true (nm.map S)) d false
 simp only [Nat.add_zero,Int.natCast_zero]at sg
 rw [Sg.v]at sg
 have sg1:=impl_sign_ok l τ hlen i 1 (by omega) (by decide) (.i true (nm.map S)) d false
 rw [Sg.v]at sg1
 simp only [Int.natCast_one]at sg1
 have m40:=impl_isMark_ok l τ hlen i 0 (by omega) (by decide) (.i true (nm.map S)) d false [40]
 have m91:=impl_isMark_ok l τ hlen i 0 (by omega) (by decide) (.i true (nm.map S)) d false [91]
 have m41:=impl_isMark_ok l τ hlen i 2 (by omega) (by decide) (.i true (nm.map S)) d false [41]
 simp only [Nat.add_zero,Int.natCast_zero]at m40 m91
 have two:((2:Nat):Int)=2:=rfl
 rw [two]at m41
 have inf:=impl_InfixOf_ok (sgD l i).text
 have pre:=impl_PrefixOf_ok (sgD l i).text
 unfold opV at inf
 unfold preV at pre
 have e1:w64 ((i:Int)+1)=((i+1:Nat):Int):=by rw [w64_id]<;>omega
 have e2:w64 ((i:Int)+2)=((i+2:Nat):Int):=by rw [w64_id]<;>omega
 have e3:w64 ((i:Int)+3)=((i+3:Nat):Int):=by rw [w64_id]<;>omega
 have d21:decide ((2:Int)=1)=false:=rfl
 have d31:decide ((3:Int)=1)=false:=rfl
 have d41:decide ((4:Int)=1)=false:=rfl
 have d23:decide ((2:Int)=3)=false:=rfl
 have d13:decide ((1:Int)=3)=false:=rfl
 have d12:decide ((1:Int)=2)=false:=rfl
 have hk:=(isM_lt h40).2.1
 rw [h40]at m40
 rw [h41]at m41
 rw [hk]at sg
 rw [hk1]at sg1
 have nk:=impl_atom_ok (sgD l (i+1)).text
 rw [oT_leaf]at nk
 rw [cw_fn pA_impl_parser_primary rfl,oT_leaf]
 simp only [go_sem,Nat.reduceAdd,Nat.reduceSub,Nat.reduceMul,Nat.reduceEqDiff,Nat.reduceLeDiff,Nat.reduceBEq,reduceCtorEq,A.impl_parser_primary,finish,sg,sg1,inf,pre,e1,e2,e3,d21,d31,d41,d23,d13,d12,Bool.false_or,Bool.not_true,m40,m41,nk]
theorem prim_call(l:List Sg) (τ:Bool) (hg:GoodL l) (i:Nat) (hi:i≤l.length) (nm:List Str) (d:Nat) (most:Int) (hk:(sgD l i).kind=1) (hnr:(sgD l i).near=true) (ks:List Tm) (a1:Nat) (ha1:a1≤2^30) (nm1:List Str) (d1:Int) (b1:Bool)
 (hA:cw progA F.impl_parser_terms [.b (.a [.i τ (l.map Sg.v),I ((i+2:Nat):Int),.o 1 (List.map S nm),I (d),B false])]=some (.o 4 (ks.map oT),[.b (.a [.i τ (l.map Sg.v),I a1,.o 1 (List.map S nm1),I (d1),B b1])])):
 cw progA F.impl_parser_primary [.b (.a [.i τ (l.map Sg.v),I i,.o 1 (List.map S nm),I (d),B false]),I most]=some (.t [oT (.mk 4 (sgD l i).text 0 ks),I 0],[.b (.a [.i τ (l.map Sg.v),I ((a1+1:Nat):Int),.o 1 (List.map S nm1),I (d1),B ((b1|| !isM l a1 [41])||decide (5 < ks.length))]),I most]):=by
 have hlen:=hg.len
 have sg:=impl_sign_ok l τ hlen i 0 (by omega) (by decide) (.i true (nm.map S)) d false
 simp only [Nat.add_zero,Int.natCast_zero]at sg
 rw [Sg.v]at sg
 have sg1:=impl_sign_ok l τ hlen i 1 (by omega) (by decide) (.i true (nm.map S)) d false
 rw [Sg.v]at sg1
 simp only [Int.natCast_one]at sg1
 have m40:=impl_isMark_ok l τ hlen i 0 (by omega) (by decide) (.i true (nm.map S)) d false [40]
 have m91:=impl_isMark_ok l τ hlen i 0 (by omega) (by decide) (.i true (nm.map S)) d false [91]
 have m41:=impl_isMark_ok l τ hlen i 2 (by omega) (by decide) (.i true (nm.map S)) d false [41]
 simp only [Nat.add_zero,Int.natCast_zero]at m40 m91
 have two:((2:Nat):Int)=2:=rfl
 rw [two]at m41
 have inf:=impl_InfixOf_ok (sgD l i).text
 have pre:=impl_PrefixOf_ok (sgD l i).text
 unfold opV at inf
 unfold preV at pre
 have e1:w64 ((i:Int)+1)=((i+1:Nat):Int):=by rw [w64_id]<;>omega
 have e2:w64 ((i:Int)+2)=((i+2:Nat):Int):=by rw [w64_id]<;>omega
 have e3:w64 ((i:Int)+3)=((i+3:Nat):Int):=by rw [w64_id]<;>omega
 have d21:decide ((2:Int)=1)=false:=rfl
 have d31:decide ((3:Int)=1)=false:=rfl
 have d41:decide ((4:Int)=1)=false:=rfl
 have d23:decide ((2:Int)=3)=false:=rfl
 have d13:decide ((1:Int)=3)=false:=rfl
 have d12:decide ((1:Int)=2)=false:=rfl
 have h40:=hg.near i hnr
 rw [hk,hnr]at sg
 have mk1:=impl_mark_ok l τ hlen (i+1) (by omega) nm d false [40]
 rw [h40]at mk1
 have e12:i+1+1=i+2:=rfl
 rw [e12]at mk1
 have mk2:=impl_mark_ok l τ hlen a1 (by omega) nm1 d1 b1 [41]
 have st:=structure_of (sgD l i).text ks
 rw [oT_struct]at st
 have tk2:(ks.map oT).take ks.length=ks.map oT:=List.take_of_length_le (by simp)
 by_cases h5:5 < ks.length
 ·have c5:(5:Int) < (ks.length:Int):=by omega
  have d5:decide (5 < ks.length)=true:=decide_eq_true h5
  rw [cw_fn pA_impl_parser_primary rfl,oT_struct,d5,Bool.or_true]
  simp only [go_sem,Nat.reduceAdd,Nat.reduceSub,Nat.reduceMul,Nat.reduceEqDiff,Nat.reduceLeDiff,Nat.reduceBEq,reduceCtorEq,A.impl_parser_primary,finish,sg,sg1,inf,pre,e1,e2,e3,d21,d31,d41,d23,d13,d12,Bool.false_or,Bool.not_true,mk1,hA,mk2,st,tk2,c5]
 ·have c5: ¬ (5:Int) < (ks.length:Int):=by omega
  have d5:decide (5 < ks.length)=false:=decide_eq_false h5
  rw [cw_fn pA_impl_parser_primary rfl,oT_struct,d5,Bool.or_false]
  simp only [go_sem,Nat.reduceAdd,Nat.reduceSub,Nat.reduceMul,Nat.reduceEqDiff,Nat.reduceLeDiff,Nat.reduceBEq,reduceCtorEq,A.impl_parser_primary,finish,sg,sg1,inf,pre,e1,e2,e3,d21,d31,d41,d23,d13,d12,Bool.false_or,Bool.not_true,mk1,hA,mk2,st,tk2,c5]
theorem prim_par(l:List Sg) (τ:Bool) (hg:GoodL l) (i:Nat) (hi:i≤l.length) (nm:List Str) (d:Nat) (most:Int) (h40:isM l i [40]=true) (hn: ¬ ((sgD l (i+1)).kind=1∧isM l (i+2) [41]=true)) (t:Tm) (a1:Nat) (ha1:a1≤2^30) (nm1:List Str) (d1:Int) (b1:Bool)
 (hT:cw progA F.impl_parser_term [.b (.a [.i τ (l.map Sg.v),I ((i+1:Nat):Int),.o 1 (List.map S nm),I (d),B false]),I 1200]=some (oT t,[.b (.a [.i τ (l.map Sg.v),I a1,.o 1 (List.map S nm1),I (d1),B b1]),I 1200])):
 cw progA F.impl_parser_primary [.b (.a [.i τ (l.map Sg.v),I i,.o 1 (List.map S nm),I (d),B false]),I most]=some (.t [oT t,I 0],[.b (.a [.i τ (l.map Sg.v),I ((a1+1:Nat):Int),.o 1 (List.map S nm1),I (d1),B (b1|| !isM l a1 [41])]),I most]):=by
 have hlen:=hg.len
 have sg:=impl_sign_ok l τ hlen i 0 (by omega) (by decide) (.i true (nm.map S)) d false
 simp only [Nat.add_zero,Int.natCast_zero]at sg
 rw [Sg.v]at sg
 have sg1:=impl_sign_ok l τ hlen i 1 (by omega) (by decide) (.i true (nm.map S)) d false
 rw [Sg.v]at sg1
 simp only [Int.natCast_one]at sg1
 have m40:=impl_isMark_ok l τ hlen i 0 (by omega) (by decide) (.i true (nm.map S)) d false [40]
 have m91:=impl_isMark_ok l τ hlen i 0 (by omega) (by decide) (.i true (nm.map S)) d false [91]
 have m41:=impl_isMark_ok l τ hlen i 2 (by omega) (by decide) (.i true (nm.map S)) d false [41]
 simp only [Nat.add_zero,Int.natCast_zero]at m40 m91
 have two:((2:Nat):Int)=2:=rfl
 rw [two]at m41
 have inf:=impl_InfixOf_ok (sgD l i).text
 have pre:=impl_PrefixOf_ok (sgD l i).text
 unfold opV at inf
 unfold preV at pre
 have e1:w64 ((i:Int)+1)=((i+1:Nat):Int):=by rw [w64_id]<;>omega
 have e2:w64 ((i:Int)+2)=((i+2:Nat):Int):=by rw [w64_id]<;>omega
 have e3:w64 ((i:Int)+3)=((i+3:Nat):Int):=by rw [w64_id]<;>omega
 have d21:decide ((2:Int)=1)=false:=rfl
 have d31:decide ((3:Int)=1)=false:=rfl
 have d41:decide ((4:Int)=1)=false:=rfl
 have d23:decide ((2:Int)=3)=false:=rfl
 have d13:decide ((1:Int)=3)=false:=rfl
 have d12:decide ((1:Int)=2)=false:=rfl
 have hk:=(isM_lt h40).2.1
 rw [h40]at m40
 rw [hk]at sg
 have mk2:=impl_mark_ok l τ hlen a1 (by omega) nm1 d1 b1 [41]
 rw [oT_mk t]at hT
 have tk: ∀ x:Tm,(x.kids.map oT).take x.kids.length=x.kids.map oT:=fun x=>List.take_of_length_le (by simp)
 rw [cw_fn pA_impl_parser_primary rfl,oT_mk t]
 by_cases hk1:(sgD l (i+1)).kind=1
 ·have h41:isM l (i+2) [41]=false:=by
   cases h:isM l (i+2) [41]with
   |true=>exact absurd ⟨hk1,h⟩ hn
   |false=>rfl
  rw [h41]at m41
  rw [hk1]at sg1
  simp only [go_sem,Nat.reduceAdd,Nat.reduceSub,Nat.reduceMul,Nat.reduceEqDiff,Nat.reduceLeDiff,Nat.reduceBEq,reduceCtorEq,A.impl_parser_primary,finish,sg,sg1,inf,pre,e1,e2,e3,d21,d31,d41,d23,d13,d12,Bool.false_or,Bool.not_true,m40,m41,hT,mk2,tk]
 ·have dk1:decide ((sgD l (i+1)).kind=1)=false:=decide_eq_false hk1
  simp only [go_sem,Nat.reduceAdd,Nat.reduceSub,Nat.reduceMul,Nat.reduceEqDiff,Nat.reduceLeDiff,Nat.reduceBEq,reduceCtorEq,A.impl_parser_primary,finish,sg,sg1,inf,pre,e1,e2,e3,d21,d31,d41,d23,d13,d12,Bool.false_or,Bool.not_true,m40,hT,mk2,dk1,tk]
theorem prim_list(l:List Sg) (τ:Bool) (hg:GoodL l) (i:Nat) (hi:i≤l.length) (nm:List Str) (d:Nat) (most:Int) (h91:isM l i [91]=true) (t:Tm) (a1:Nat) (nm1:List Str) (d1:Int) (b1:Bool)
 (hT:cw progA F.impl_parser_listTerm [.b (.a [.i τ (l.map Sg.v),I i,.o 1 (List.map S nm),I (d),B false])]=some (oT t,[.b (.a [.i τ (l.map Sg.v),I a1,.o 1 (List.map S nm1),I (d1),B b1])])):
 cw progA F.impl_parser_primary [.b (.a [.i τ (l.map Sg.v),I i,.o 1 (List.map S nm),I (d),B false]),I most]=some (.t [oT t,I 0],[.b (.a [.i τ (l.map Sg.v),I a1,.o 1 (List.map S nm1),I (d1),B b1]),I most]):=by
 have hlen:=hg.len
 have sg:=impl_sign_ok l τ hlen i 0 (by omega) (by decide) (.i true (nm.map S)) d false
 simp only [Nat.add_zero,Int.natCast_zero]at sg
 rw [Sg.v]at sg
 have sg1:=impl_sign_ok l τ hlen i 1 (by omega) (by decide) (.i true (nm.map S)) d false
 rw [Sg.v]at sg1
 simp only [Int.natCast_one]at sg1
 have m40:=impl_isMark_ok l τ hlen i 0 (by omega) (by decide) (.i true (nm.map S)) d false [40]
 have m91:=impl_isMark_ok l τ hlen i 0 (by omega) (by decide) (.i true (nm.map S)) d false [91]
 have m41:=impl_isMark_ok l τ hlen i 2 (by omega) (by decide) (.i true (nm.map S)) d false [41]
 simp only [Nat.add_zero,Int.natCast_zero]at m40 m91
 have two:((2:Nat):Int)=2:=rfl
 rw [two]at m41
 have inf:=impl_InfixOf_ok (sgD l i).text
 have pre:=impl_PrefixOf_ok (sgD l i).text
 unfold opV at inf
 unfold preV at pre
 have e1:w64 ((i:Int)+1)=((i+1:Nat):Int):=by rw [w64_id]<;>omega
 have e2:w64 ((i:Int)+2)=((i+2:Nat):Int):=by rw [w64_id]<;>omega
 have e3:w64 ((i:Int)+3)=((i+3:Nat):Int):=by rw [w64_id]<;>omega
 have d21:decide ((2:Int)=1)=false:=rfl
 have d31:decide ((3:Int)=1)=false:=rfl
 have d41:decide ((4:Int)=1)=false:=rfl
 have d23:decide ((2:Int)=3)=false:=rfl
 have d13:decide ((1:Int)=3)=false:=rfl
 have d12:decide ((1:Int)=2)=false:=rfl
 have hk:=(isM_lt h91).2.1
 have n40:isM l i [40]=false:=by unfold isM;rw [(isM_lt h91).2.2,hk];rfl
 rw [n40]at m40
 rw [h91]at m91
 rw [hk]at sg
 rw [oT_mk t]at hT
 have tk: ∀ x:Tm,(x.kids.map oT).take x.kids.length=x.kids.map oT:=fun x=>List.take_of_length_le (by simp)
 rw [cw_fn pA_impl_parser_primary rfl,oT_mk t]
 simp only [go_sem,Nat.reduceAdd,Nat.reduceSub,Nat.reduceMul,Nat.reduceEqDiff,Nat.reduceLeDiff,Nat.reduceBEq,reduceCtorEq,A.impl_parser_primary,finish,sg,sg1,inf,pre,e1,e2,e3,d21,d31,d41,d23,d13,d12,Bool.false_or,Bool.not_true,m40,m91,hT,tk]
theorem prim_neg(l:List Sg) (τ:Bool) (hg:GoodL l) (i:Nat) (hi:i≤l.length) (nm:List Str) (d:Nat) (most:Int) (hk:(sgD l i).kind=1) (hnr:(sgD l i).near=false) (ht:(sgD l i).text=[45]) (hk1:(sgD l (i+1)).kind=3) (hat:(sgD l (i+1)).at_=(sgD l i).at_+1):
 cw progA F.impl_parser_primary [.b (.a [.i τ (l.map Sg.v),I i,.o 1 (List.map S nm),I (d),B false]),I most]=some (.t [oT (.mk 3 [] (0 - (sgD l (i+1)).num) []),I 0],[.b (.a [.i τ (l.map Sg.v),I ((i+2:Nat):Int),.o 1 (List.map S nm),I (d),B false]),I most]):=by
 have hlen:=hg.len
 have sg:=impl_sign_ok l τ hlen i 0 (by omega) (by decide) (.i true (nm.map S)) d false
 simp only [Nat.add_zero,Int.natCast_zero]at sg
 rw [Sg.v]at sg
 have sg1:=impl_sign_ok l τ hlen i 1 (by omega) (by decide) (.i true (nm.map S)) d false
 rw [Sg.v]at sg1
 simp only [Int.natCast_one]at sg1
 have m40:=impl_isMark_ok l τ hlen i 0 (by omega) (by decide) (.i true (nm.map S)) d false [40]
 have m91:=impl_isMark_ok l τ hlen i 0 (by omega) (by decide) (.i true (nm.map S)) d false [91]
 have m41:=impl_isMark_ok l τ hlen i 2 (by omega) (by decide) (.i true (nm.map S)) d false [41]
 simp only [Nat.add_zero,Int.natCast_zero]at m40 m91
 have two:((2:Nat):Int)=2:=rfl
 rw [two]at m41
 have inf:=impl_InfixOf_ok (sgD l i).text
 have pre:=impl_PrefixOf_ok (sgD l i).text
 unfold opV at inf
 unfold preV at pre
 have e1:w64 ((i:Int)+1)=((i+1:Nat):Int):=by rw [w64_id]<;>omega
 have e2:w64 ((i:Int)+2)=((i+2:Nat):Int):=by rw [w64_id]<;>omega
 have e3:w64 ((i:Int)+3)=((i+3:Nat):Int):=by rw [w64_id]<;>omega
 have d21:decide ((2:Int)=1)=false:=rfl
 have d31:decide ((3:Int)=1)=false:=rfl
 have d41:decide ((4:Int)=1)=false:=rfl
 have d23:decide ((2:Int)=3)=false:=rfl
 have d13:decide ((1:Int)=3)=false:=rfl
 have d12:decide ((1:Int)=2)=false:=rfl
 have n40:isM l i [40]=false:=by unfold isM;rw [hk];rfl
 have n91:isM l i [91]=false:=by unfold isM;rw [hk];rfl
 rw [n40]at m40
 rw [n91]at m91
 rw [hk,hnr]at sg
 have ea:w64 ((sgD l i).at_+1)=(sgD l i).at_+1:=by
  have:=hg.at_ i
  rw [w64_id]<;>omega
 rw [hk1,hat]at sg1
 have en:w64 (0 - (sgD l (i+1)).num)=0 - (sgD l (i+1)).num:=by
  have:=hg.num (i+1)
  rw [w64_id]<;>omega
 have nk:=impl_number_ok (0 - (sgD l (i+1)).num)
 rw [oT_leaf]at nk
 rw [ht]at sg inf pre
 rw [cw_fn pA_impl_parser_primary rfl,oT_leaf]
 simp only [go_sem,Nat.reduceAdd,Nat.reduceSub,Nat.reduceMul,Nat.reduceEqDiff,Nat.reduceLeDiff,Nat.reduceBEq,reduceCtorEq,A.impl_parser_primary,finish,sg,sg1,inf,pre,e1,e2,e3,d21,d31,d41,d23,d13,d12,Bool.false_or,Bool.not_true,m40,m91,ea,en,nk]
theorem prim_pre(l:List Sg) (τ:Bool) (hg:GoodL l) (i:Nat) (hi:i≤l.length) (nm:List Str) (d:Nat) (most:Int) (hk:(sgD l i).kind=1) (hnr:(sgD l i).near=false) (hneg: ¬ ((sgD l i).text=[45]∧(sgD l (i+1)).kind=3∧(sgD l (i+1)).at_=(sgD l i).at_+1)) (hp:(prefixOf (sgD l i).text).prio ≠ 0) (hm:(prefixOf (sgD l i).text).prio≤most) (x:Tm) (a1:Nat) (nm1:List Str) (d1:Int) (b1:Bool)
 (hT:cw progA F.impl_parser_term [.b (.a [.i τ (l.map Sg.v),I ((i+1:Nat):Int),.o 1 (List.map S nm),I (d),B false]),I (prefixOf (sgD l i).text).right]=some (oT x,[.b (.a [.i τ (l.map Sg.v),I a1,.o 1 (List.map S nm1),I (d1),B b1]),I (prefixOf (sgD l i).text).right])):
 cw progA F.impl_parser_primary [.b (.a [.i τ (l.map Sg.v),I i,.o 1 (List.map S nm),I (d),B false]),I most]=some (.t [oT (.mk 4 (sgD l i).text 0 [x]),I (prefixOf (sgD l i).text).prio],[.b (.a [.i τ (l.map Sg.v),I a1,.o 1 (List.map S nm1),I (d1),B b1]),I most]):=by
 have hlen:=hg.len
 have sg:=impl_sign_ok l τ hlen i 0 (by omega) (by decide) (.i true (nm.map S)) d false
 simp only [Nat.add_zero,Int.natCast_zero]at sg
 rw [Sg.v]at sg
 have sg1:=impl_sign_ok l τ hlen i 1 (by omega) (by decide) (.i true (nm.map S)) d false
 rw [Sg.v]at sg1
 simp only [Int.natCast_one]at sg1
 have m40:=impl_isMark_ok l τ hlen i 0 (by omega) (by decide) (.i true (nm.map S)) d false [40]
 have m91:=impl_isMark_ok l τ hlen i 0 (by omega) (by decide) (.i true (nm.map S)) d false [91]
 have m41:=impl_isMark_ok l τ hlen i 2 (by omega) (by decide) (.i true (nm.map S)) d false [41]
 simp only [Nat.add_zero,Int.natCast_zero]at m40 m91
 have two:((2:Nat):Int)=2:=rfl
 rw [two]at m41
 have inf:=impl_InfixOf_ok (sgD l i).text
 have pre:=impl_PrefixOf_ok (sgD l i).text
 unfold opV at inf
 unfold preV at pre
 have e1:w64 ((i:Int)+1)=((i+1:Nat):Int):=by rw [w64_id]<;>omega
 have e2:w64 ((i:Int)+2)=((i+2:Nat):Int):=by rw [w64_id]<;>omega
 have e3:w64 ((i:Int)+3)=((i+3:Nat):Int):=by rw [w64_id]<;>omega
 have d21:decide ((2:Int)=1)=false:=rfl
 have d31:decide ((3:Int)=1)=false:=rfl
 have d41:decide ((4:Int)=1)=false:=rfl
 have d23:decide ((2:Int)=3)=false:=rfl
 have d13:decide ((1:Int)=3)=false:=rfl
 have d12:decide ((1:Int)=2)=false:=rfl
 have n40:isM l i [40]=false:=by unfold isM;rw [hk];rfl
 have n91:isM l i [91]=false:=by unfold isM;rw [hk];rfl
 rw [n40]at m40
 rw [n91]at m91
 rw [hk,hnr]at sg
 have ea:w64 ((sgD l i).at_+1)=(sgD l i).at_+1:=by
  have:=hg.at_ i
  rw [w64_id]<;>omega
 have hp':decide ((prefixOf (sgD l i).text).prio ≠ 0)=true:=decide_eq_true hp
 rw [hp']at pre
 have st:=struct1 (sgD l i).text x
 rw [oT_mk x]at hT
 have tk: ∀ x:Tm,(x.kids.map oT).take x.kids.length=x.kids.map oT:=fun x=>List.take_of_length_le (by simp)
 rw [cw_fn pA_impl_parser_primary rfl,oT_struct,List.map_cons,List.map_nil,oT_mk x]
 by_cases ht:(sgD l i).text=[45]
 ·have dt:decide ((sgD l i).text=[45])=true:=decide_eq_true ht
  by_cases hk1:(sgD l (i+1)).kind=3
  ·have da:decide ((sgD l (i+1)).at_=(sgD l i).at_+1)=false:=decide_eq_false fun h=>hneg ⟨ht,hk1,h⟩
   have dk:decide ((sgD l (i+1)).kind=3)=true:=decide_eq_true hk1
   simp only [go_sem,Nat.reduceAdd,Nat.reduceSub,Nat.reduceMul,Nat.reduceEqDiff,Nat.reduceLeDiff,Nat.reduceBEq,reduceCtorEq,A.impl_parser_primary,finish,sg,sg1,inf,pre,e1,e2,e3,d21,d31,d41,d23,d13,d12,Bool.false_or,Bool.not_true,m40,m91,hT,hm,st,tk,ea,dt,dk,da]
  ·have dk:decide ((sgD l (i+1)).kind=3)=false:=decide_eq_false hk1
   simp only [go_sem,Nat.reduceAdd,Nat.reduceSub,Nat.reduceMul,Nat.reduceEqDiff,Nat.reduceLeDiff,Nat.reduceBEq,reduceCtorEq,A.impl_parser_primary,finish,sg,sg1,inf,pre,e1,e2,e3,d21,d31,d41,d23,d13,d12,Bool.false_or,Bool.not_true,m40,m91,hT,hm,st,tk,ea,dt,dk]
 ·have dt:decide ((sgD l i).text=[45])=false:=decide_eq_false ht
  simp only [go_sem,Nat.reduceAdd,Nat.reduceSub,Nat.reduceMul,Nat.reduceEqDiff,Nat.reduceLeDiff,Nat.reduceBEq,reduceCtorEq,A.impl_parser_primary,finish,sg,sg1,inf,pre,e1,e2,e3,d21,d31,d41,d23,d13,d12,Bool.false_or,Bool.not_true,m40,m91,hT,hm,st,tk,ea,dt]
theorem prim_atom(l:List Sg) (τ:Bool) (hg:GoodL l) (i:Nat) (hi:i≤l.length) (nm:List Str) (d:Nat) (most:Int) (hk:(sgD l i).kind=1) (hnr:(sgD l i).near=false) (hneg: ¬ ((sgD l i).text=[45]∧(sgD l (i+1)).kind=3∧(sgD l (i+1)).at_=(sgD l i).at_+1)) (hp:(prefixOf (sgD l i).text).prio=0) (hq:(infixOf (sgD l i).text).prio=0):
 cw progA F.impl_parser_primary [.b (.a [.i τ (l.map Sg.v),I i,.o 1 (List.map S nm),I (d),B false]),I most]=some (.t [oT (.mk 2 (sgD l i).text 0 []),I 0],[.b (.a [.i τ (l.map Sg.v),I ((i+1:Nat):Int),.o 1 (List.map S nm),I (d),B false]),I most]):=by
 have hlen:=hg.len
 have sg:=impl_sign_ok l τ hlen i 0 (by omega) (by decide) (.i true (nm.map S)) d false
 simp only [Nat.add_zero,Int.natCast_zero]at sg
 rw [Sg.v]at sg
 have sg1:=impl_sign_ok l τ hlen i 1 (by omega) (by decide) (.i true (nm.map S)) d false
 rw [Sg.v]at sg1
 simp only [Int.natCast_one]at sg1
 have m40:=impl_isMark_ok l τ hlen i 0 (by omega) (by decide) (.i true (nm.map S)) d false [40]
 have m91:=impl_isMark_ok l τ hlen i 0 (by omega) (by decide) (.i true (nm.map S)) d false [91]
 have m41:=impl_isMark_ok l τ hlen i 2 (by omega) (by decide) (.i true (nm.map S)) d false [41]
 simp only [Nat.add_zero,Int.natCast_zero]at m40 m91
 have two:((2:Nat):Int)=2:=rfl
 rw [two]at m41
 have inf:=impl_InfixOf_ok (sgD l i).text
 have pre:=impl_PrefixOf_ok (sgD l i).text
 unfold opV at inf
 unfold preV at pre
 have e1:w64 ((i:Int)+1)=((i+1:Nat):Int):=by rw [w64_id]<;>omega
 have e2:w64 ((i:Int)+2)=((i+2:Nat):Int):=by rw [w64_id]<;>omega
 have e3:w64 ((i:Int)+3)=((i+3:Nat):Int):=by rw [w64_id]<;>omega
 have d21:decide ((2:Int)=1)=false:=rfl
 have d31:decide ((3:Int)=1)=false:=rfl
 have d41:decide ((4:Int)=1)=false:=rfl
 have d23:decide ((2:Int)=3)=false:=rfl
 have d13:decide ((1:Int)=3)=false:=rfl
 have d12:decide ((1:Int)=2)=false:=rfl
 have n40:isM l i [40]=false:=by unfold isM;rw [hk];rfl
 have n91:isM l i [91]=false:=by unfold isM;rw [hk];rfl
 rw [n40]at m40
 rw [n91]at m91
 rw [hk,hnr]at sg
 have ea:w64 ((sgD l i).at_+1)=(sgD l i).at_+1:=by
  have:=hg.at_ i
  rw [w64_id]<;>omega
 have hp':decide ((prefixOf (sgD l i).text).prio ≠ 0)=false:=decide_eq_false fun h=>h hp
 have hq':decide ((infixOf (sgD l i).text).prio ≠ 0)=false:=decide_eq_false fun h=>h hq
 rw [hp']at pre
 rw [hq']at inf
 have nk:=impl_atom_ok (sgD l i).text
 rw [oT_leaf]at nk
 rw [cw_fn pA_impl_parser_primary rfl,oT_leaf]
 by_cases ht:(sgD l i).text=[45]
 ·have dt:decide ((sgD l i).text=[45])=true:=decide_eq_true ht
  by_cases hk1:(sgD l (i+1)).kind=3
  ·have da:decide ((sgD l (i+1)).at_=(sgD l i).at_+1)=false:=decide_eq_false fun h=>hneg ⟨ht,hk1,h⟩
   have dk:decide ((sgD l (i+1)).kind=3)=true:=decide_eq_true hk1
   simp only [go_sem,Nat.reduceAdd,Nat.reduceSub,Nat.reduceMul,Nat.reduceEqDiff,Nat.reduceLeDiff,Nat.reduceBEq,reduceCtorEq,A.impl_parser_primary,finish,sg,sg1,inf,pre,e1,e2,e3,d21,d31,d41,d23,d13,d12,Bool.false_or,Bool.not_true,m40,m91,nk,ea,dt,dk,da]
  ·have dk:decide ((sgD l (i+1)).kind=3)=false:=decide_eq_false hk1
   simp only [go_sem,Nat.reduceAdd,Nat.reduceSub,Nat.reduceMul,Nat.reduceEqDiff,Nat.reduceLeDiff,Nat.reduceBEq,reduceCtorEq,A.impl_parser_primary,finish,sg,sg1,inf,pre,e1,e2,e3,d21,d31,d41,d23,d13,d12,Bool.false_or,Bool.not_true,m40,m91,nk,ea,dt,dk]
 ·have dt:decide ((sgD l i).text=[45])=false:=decide_eq_false ht
  simp only [go_sem,Nat.reduceAdd,Nat.reduceSub,Nat.reduceMul,Nat.reduceEqDiff,Nat.reduceLeDiff,Nat.reduceBEq,reduceCtorEq,A.impl_parser_primary,finish,sg,sg1,inf,pre,e1,e2,e3,d21,d31,d41,d23,d13,d12,Bool.false_or,Bool.not_true,m40,m91,nk,ea,dt]
theorem prim_bad1(l:List Sg) (τ:Bool) (hg:GoodL l) (i:Nat) (hi:i≤l.length) (nm:List Str) (d:Nat) (most:Int) (hk:(sgD l i).kind=1) (hnr:(sgD l i).near=false) (hneg: ¬ ((sgD l i).text=[45]∧(sgD l (i+1)).kind=3∧(sgD l (i+1)).at_=(sgD l i).at_+1)) (hp:(prefixOf (sgD l i).text).prio ≠ 0) (hm: ¬ (prefixOf (sgD l i).text).prio≤most):
 cw progA F.impl_parser_primary [.b (.a [.i τ (l.map Sg.v),I i,.o 1 (List.map S nm),I (d),B false]),I most]=some (.t [oT (.mk 0 [] 0 []),I 0],[.b (.a [.i τ (l.map Sg.v),I i,.o 1 (List.map S nm),I (d),B true]),I most]):=by
 have hlen:=hg.len
 have sg:=impl_sign_ok l τ hlen i 0 (by omega) (by decide) (.i true (nm.map S)) d false
 simp only [Nat.add_zero,Int.natCast_zero]at sg
 rw [Sg.v]at sg
 have sg1:=impl_sign_ok l τ hlen i 1 (by omega) (by decide) (.i true (nm.map S)) d false
 rw [Sg.v]at sg1
 simp only [Int.natCast_one]at sg1
 have m40:=impl_isMark_ok l τ hlen i 0 (by omega) (by decide) (.i true (nm.map S)) d false [40]
 have m91:=impl_isMark_ok l τ hlen i 0 (by omega) (by decide) (.i true (nm.map S)) d false [91]
 have m41:=impl_isMark_ok l τ hlen i 2 (by omega) (by decide) (.i true (nm.map S)) d false [41]
 simp only [Nat.add_zero,Int.natCast_zero]at m40 m91
 have two:((2:Nat):Int)=2:=rfl
 rw [two]at m41
 have inf:=impl_InfixOf_ok (sgD l i).text
 have pre:=impl_PrefixOf_ok (sgD l i).text
 unfold opV at inf
 unfold preV at pre
 have e1:w64 ((i:Int)+1)=((i+1:Nat):Int):=by rw [w64_id]<;>omega
 have e2:w64 ((i:Int)+2)=((i+2:Nat):Int):=by rw [w64_id]<;>omega
 have e3:w64 ((i:Int)+3)=((i+3:Nat):Int):=by rw [w64_id]<;>omega
 have d21:decide ((2:Int)=1)=false:=rfl
 have d31:decide ((3:Int)=1)=false:=rfl
 have d41:decide ((4:Int)=1)=false:=rfl
 have d23:decide ((2:Int)=3)=false:=rfl
 have d13:decide ((1:Int)=3)=false:=rfl
 have d12:decide ((1:Int)=2)=false:=rfl
 have n40:isM l i [40]=false:=by unfold isM;rw [hk];rfl
 have n91:isM l i [91]=false:=by unfold isM;rw [hk];rfl
 rw [n40]at m40
 rw [n91]at m91
 rw [hk,hnr]at sg
 have ea:w64 ((sgD l i).at_+1)=(sgD l i).at_+1:=by
  have:=hg.at_ i
  rw [w64_id]<;>omega
 have hp':decide ((prefixOf (sgD l i).text).prio ≠ 0)=true:=decide_eq_true hp
 rw [hp']at pre
 rw [cw_fn pA_impl_parser_primary rfl,oT_leaf]
 by_cases ht:(sgD l i).text=[45]
 ·have dt:decide ((sgD l i).text=[45])=true:=decide_eq_true ht
  by_cases hk1:(sgD l (i+1)).kind=3
  ·have da:decide ((sgD l (i+1)).at_=(sgD l i).at_+1)=false:=decide_eq_false fun h=>hneg ⟨ht,hk1,h⟩
   have dk:decide ((sgD l (i+1)).kind=3)=true:=decide_eq_true hk1
   simp only [go_sem,Nat.reduceAdd,Nat.reduceSub,Nat.reduceMul,Nat.reduceEqDiff,Nat.reduceLeDiff,Nat.reduceBEq,reduceCtorEq,A.impl_parser_primary,finish,sg,sg1,inf,pre,e1,e2,e3,d21,d31,d41,d23,d13,d12,Bool.false_or,Bool.not_true,m40,m91,hm,ea,dt,dk,da]
  ·have dk:decide ((sgD l (i+1)).kind=3)=false:=decide_eq_false hk1
   simp only [go_sem,Nat.reduceAdd,Nat.reduceSub,Nat.reduceMul,Nat.reduceEqDiff,Nat.reduceLeDiff,Nat.reduceBEq,reduceCtorEq,A.impl_parser_primary,finish,sg,sg1,inf,pre,e1,e2,e3,d21,d31,d41,d23,d13,d12,Bool.false_or,Bool.not_true,m40,m91,hm,ea,dt,dk]
 ·have dt:decide ((sgD l i).text=[45])=false:=decide_eq_false ht
  simp only [go_sem,Nat.reduceAdd,Nat.reduceSub,Nat.reduceMul,Nat.reduceEqDiff,Nat.reduceLeDiff,Nat.reduceBEq,reduceCtorEq,A.impl_parser_primary,finish,sg,sg1,inf,pre,e1,e2,e3,d21,d31,d41,d23,d13,d12,Bool.false_or,Bool.not_true,m40,m91,hm,ea,dt]
theorem prim_bad2(l:List Sg) (τ:Bool) (hg:GoodL l) (i:Nat) (hi:i≤l.length) (nm:List Str) (d:Nat) (most:Int) (hk:(sgD l i).kind=1) (hnr:(sgD l i).near=false) (hneg: ¬ ((sgD l i).text=[45]∧(sgD l (i+1)).kind=3∧(sgD l (i+1)).at_=(sgD l i).at_+1)) (hp:(prefixOf (sgD l i).text).prio=0) (hq:(infixOf (sgD l i).text).prio ≠ 0):
 cw progA F.impl_parser_primary [.b (.a [.i τ (l.map Sg.v),I i,.o 1 (List.map S nm),I (d),B false]),I most]=some (.t [oT (.mk 0 [] 0 []),I 0],[.b (.a [.i τ (l.map Sg.v),I i,.o 1 (List.map S nm),I (d),B true]),I most]):=by
 have hlen:=hg.len
 have sg:=impl_sign_ok l τ hlen i 0 (by omega) (by decide) (.i true (nm.map S)) d false
 simp only [Nat.add_zero,Int.natCast_zero]at sg
 rw [Sg.v]at sg
 have sg1:=impl_sign_ok l τ hlen i 1 (by omega) (by decide) (.i true (nm.map S)) d false
 rw [Sg.v]at sg1
 simp only [Int.natCast_one]at sg1
 have m40:=impl_isMark_ok l τ hlen i 0 (by omega) (by decide) (.i true (nm.map S)) d false [40]
 have m91:=impl_isMark_ok l τ hlen i 0 (by omega) (by decide) (.i true (nm.map S)) d false [91]
 have m41:=impl_isMark_ok l τ hlen i 2 (by omega) (by decide) (.i true (nm.map S)) d false [41]
 simp only [Nat.add_zero,Int.natCast_zero]at m40 m91
 have two:((2:Nat):Int)=2:=rfl
 rw [two]at m41
 have inf:=impl_InfixOf_ok (sgD l i).text
 have pre:=impl_PrefixOf_ok (sgD l i).text
 unfold opV at inf
 unfold preV at pre
 have e1:w64 ((i:Int)+1)=((i+1:Nat):Int):=by rw [w64_id]<;>omega
 have e2:w64 ((i:Int)+2)=((i+2:Nat):Int):=by rw [w64_id]<;>omega
 have e3:w64 ((i:Int)+3)=((i+3:Nat):Int):=by rw [w64_id]<;>omega
 have d21:decide ((2:Int)=1)=false:=rfl
 have d31:decide ((3:Int)=1)=false:=rfl
 have d41:decide ((4:Int)=1)=false:=rfl
 have d23:decide ((2:Int)=3)=false:=rfl
 have d13:decide ((1:Int)=3)=false:=rfl
 have d12:decide ((1:Int)=2)=false:=rfl
 have n40:isM l i [40]=false:=by unfold isM;rw [hk];rfl
 have n91:isM l i [91]=false:=by unfold isM;rw [hk];rfl
 rw [n40]at m40
 rw [n91]at m91
 rw [hk,hnr]at sg
 have ea:w64 ((sgD l i).at_+1)=(sgD l i).at_+1:=by
  have:=hg.at_ i
  rw [w64_id]<;>omega
 have hp':decide ((prefixOf (sgD l i).text).prio ≠ 0)=false:=decide_eq_false fun h=>h hp
 have hq':decide ((infixOf (sgD l i).text).prio ≠ 0)=true:=decide_eq_true hq
 rw [hp']at pre
 rw [hq']at inf
 rw [cw_fn pA_impl_parser_primary rfl,oT_leaf]
 by_cases ht:(sgD l i).text=[45]
 ·have dt:decide ((sgD l i).text=[45])=true:=decide_eq_true ht
  by_cases hk1:(sgD l (i+1)).kind=3
  ·have da:decide ((sgD l (i+1)).at_=(sgD l i).at_+1)=false:=decide_eq_false fun h=>hneg ⟨ht,hk1,h⟩
   have dk:decide ((sgD l (i+1)).kind=3)=true:=decide_eq_true hk1
   simp only [go_sem,Nat.reduceAdd,Nat.reduceSub,Nat.reduceMul,Nat.reduceEqDiff,Nat.reduceLeDiff,Nat.reduceBEq,reduceCtorEq,A.impl_parser_primary,finish,sg,sg1,inf,pre,e1,e2,e3,d21,d31,d41,d23,d13,d12,Bool.false_or,Bool.not_true,m40,m91,ea,dt,dk,da]
  ·have dk:decide ((sgD l (i+1)).kind=3)=false:=decide_eq_false hk1
   simp only [go_sem,Nat.reduceAdd,Nat.reduceSub,Nat.reduceMul,Nat.reduceEqDiff,Nat.reduceLeDiff,Nat.reduceBEq,reduceCtorEq,A.impl_parser_primary,finish,sg,sg1,inf,pre,e1,e2,e3,d21,d31,d41,d23,d13,d12,Bool.false_or,Bool.not_true,m40,m91,ea,dt,dk]
 ·have dt:decide ((sgD l i).text=[45])=false:=decide_eq_false ht
  simp only [go_sem,Nat.reduceAdd,Nat.reduceSub,Nat.reduceMul,Nat.reduceEqDiff,Nat.reduceLeDiff,Nat.reduceBEq,reduceCtorEq,A.impl_parser_primary,finish,sg,sg1,inf,pre,e1,e2,e3,d21,d31,d41,d23,d13,d12,Bool.false_or,Bool.not_true,m40,m91,ea,dt]
theorem prim_bad3(l:List Sg) (τ:Bool) (hg:GoodL l) (i:Nat) (hi:i≤l.length) (nm:List Str) (d:Nat) (most:Int) (n40:isM l i [40]=false) (n91:isM l i [91]=false) (k1:(sgD l i).kind ≠ 1) (k2:(sgD l i).kind ≠ 2) (k3:(sgD l i).kind ≠ 3):
 cw progA F.impl_parser_primary [.b (.a [.i τ (l.map Sg.v),I i,.o 1 (List.map S nm),I (d),B false]),I most]=some (.t [oT (.mk 0 [] 0 []),I 0],[.b (.a [.i τ (l.map Sg.v),I i,.o 1 (List.map S nm),I (d),B true]),I most]):=by
 have hlen:=hg.len
 have sg:=impl_sign_ok l τ hlen i 0 (by omega) (by decide) (.i true (nm.map S)) d false
 simp only [Nat.add_zero,Int.natCast_zero]at sg
 rw [Sg.v]at sg
 have sg1:=impl_sign_ok l τ hlen i 1 (by omega) (by decide) (.i true (nm.map S)) d false
 rw [Sg.v]at sg1
 simp only [Int.natCast_one]at sg1
 have m40:=impl_isMark_ok l τ hlen i 0 (by omega) (by decide) (.i true (nm.map S)) d false [40]
 have m91:=impl_isMark_ok l τ hlen i 0 (by omega) (by decide) (.i true (nm.map S)) d false [91]
 have m41:=impl_isMark_ok l τ hlen i 2 (by omega) (by decide) (.i true (nm.map S)) d false [41]
 simp only [Nat.add_zero,Int.natCast_zero]at m40 m91
 have two:((2:Nat):Int)=2:=rfl
 rw [two]at m41
 have inf:=impl_InfixOf_ok (sgD l i).text
 have pre:=impl_PrefixOf_ok (sgD l i).text
 unfold opV at inf
 unfold preV at pre
 have e1:w64 ((i:Int)+1)=((i+1:Nat):Int):=by rw [w64_id]<;>omega
 have e2:w64 ((i:Int)+2)=((i+2:Nat):Int):=by rw [w64_id]<;>omega
 have e3:w64 ((i:Int)+3)=((i+3:Nat):Int):=by rw [w64_id]<;>omega
 have d21:decide ((2:Int)=1)=false:=rfl
 have d31:decide ((3:Int)=1)=false:=rfl
 have d41:decide ((4:Int)=1)=false:=rfl
 have d23:decide ((2:Int)=3)=false:=rfl
 have d13:decide ((1:Int)=3)=false:=rfl
 have d12:decide ((1:Int)=2)=false:=rfl
 rw [n40]at m40
 rw [n91]at m91
 have dk1:decide ((sgD l i).kind=1)=false:=decide_eq_false k1
 have dk2:decide ((sgD l i).kind=2)=false:=decide_eq_false k2
 have dk3:decide ((sgD l i).kind=3)=false:=decide_eq_false k3
 rw [cw_fn pA_impl_parser_primary rfl,oT_leaf]
 simp only [go_sem,Nat.reduceAdd,Nat.reduceSub,Nat.reduceMul,Nat.reduceEqDiff,Nat.reduceLeDiff,Nat.reduceBEq,reduceCtorEq,A.impl_parser_primary,finish,sg,sg1,inf,pre,e1,e2,e3,d21,d31,d41,d23,d13,d12,Bool.false_or,Bool.not_true,m40,m91,dk1,dk2,dk3]
end Go.Vm
set_option autoImplicit false
set_option maxHeartbeats 16000000
set_option maxRecDepth 100000
set_option linter.unusedSimpArgs false
set_option linter.unusedVariables false
namespace Go.Vm
theorem IP_step(l:List Sg) (τ:Bool) (hg:GoodL l) (n:Nat) (hn20:n≤2^20) (hT:IT l τ n) (hA:IA l τ n):IP l τ (n+1):=by
 intro i nm d most hn hi hnm hd
 have hlen:=hg.len
 have bd: ∀ a:Nat,a≤l.length+8*n→l.length+8*(n+1) ≥ a+8:=fun a h=>by omega
 simp only [pP]
 by_cases c1:(sgD l i).kind=1∧(sgD l i).near=true
 ·have h40:=hg.near i c1.2
  have hlt:=(isM_lt h40).1
  obtain ⟨a1,a2⟩:=hA (i+2) nm d (by omega) (by omega) (by omega) hd
  rw [if_pos c1]
  cases hp:pA l n (i+2) nm d with
  |none=>
   refine ⟨fun t q i' nm' h=>by simp at h,fun _=> ?_⟩
   obtain ⟨ks,cs,⟨a,nm1,d1,ha,rfl⟩,hk,hc⟩:=a2 hp
   have:=prim_call l τ hg i hi nm d most c1.1 c1.2 ks a (by omega) nm1 d1 true hc
   simp only [Bool.true_or]at this
   exact ⟨_,_,_,⟨a+1,nm1,d1,by omega,rfl⟩,this⟩
  |some r=>
   obtain ⟨ks,i1,nm1⟩:=r
   have adv:=(p_adv l n).2.2.2.1 _ _ _ _ _ _ hp
   obtain ⟨hk,hc⟩:=a1 _ _ _ hp
   have:=prim_call l τ hg i hi nm d most c1.1 c1.2 ks i1 (by omega) nm1 d false hc
   simp only [Bool.false_or]at this
   simp only
   by_cases hm:isM l i1 [41]=true∧ks.length≤5
   ·rw [if_pos hm]
    rw [hm.1,decide_eq_false (by omega)]at this
    refine ⟨fun t q i' nm' h=> ?_,fun h=>by simp at h⟩
    simp only [Option.some.injEq,Prod.mk.injEq]at h
    obtain ⟨rfl,rfl,rfl,rfl⟩:=h
    exact this
   ·rw [if_neg hm]
    have hb:(!isM l i1 [41]||decide (5 < ks.length))=true:=by
     cases h:isM l i1 [41]with
     |false=>rfl
     |true=>
      have:5 < ks.length:=by
       apply Nat.lt_of_not_le;intro h5;exact hm ⟨h,h5⟩
      rw [decide_eq_true this];rfl
    rw [hb]at this
    exact ⟨fun t q i' nm' h=>by simp at h,fun _=>⟨_,_,_,⟨i1+1,nm1,d,by omega,rfl⟩,this⟩⟩
 rw [if_neg c1]
 by_cases c2:isM l i [40]=true
 ·have hlt:=(isM_lt c2).1
  rw [if_pos c2]
  by_cases c3:(sgD l (i+1)).kind=1∧isM l (i+2) [41]=true
  ·rw [if_pos c3]
   refine ⟨fun t q i' nm' h=> ?_,fun h=>by simp at h⟩
   simp only [Option.some.injEq,Prod.mk.injEq]at h
   obtain ⟨rfl,rfl,rfl,rfl⟩:=h
   exact prim_atomp l τ hg i hi nm d most c2 c3.1 c3.2
  ·rw [if_neg c3]
   obtain ⟨t1,t2⟩:=hT (i+1) nm d 1200 (by omega) (by omega) (by omega) hd
   cases hp:pT l n (i+1) nm d 1200 with
   |none=>
    refine ⟨fun t q i' nm' h=>by simp at h,fun _=> ?_⟩
    obtain ⟨g,cs,⟨a,nm1,d1,ha,rfl⟩,hc⟩:=t2 hp
    have:=prim_par l τ hg i hi nm d most c2 c3 g a (by omega) nm1 d1 true hc
    simp only [Bool.true_or]at this
    exact ⟨_,_,_,⟨a+1,nm1,d1,by omega,rfl⟩,this⟩
   |some r=>
    obtain ⟨g,i1,nm1⟩:=r
    have adv:=(p_adv l n).1 _ _ _ _ _ _ _ hp
    have:=prim_par l τ hg i hi nm d most c2 c3 g i1 (by omega) nm1 d false (t1 _ _ _ hp)
    simp only [Bool.false_or]at this
    simp only
    by_cases hm:isM l i1 [41]=true
    ·rw [if_pos hm]
     rw [hm]at this
     refine ⟨fun t q i' nm' h=> ?_,fun h=>by simp at h⟩
     simp only [Option.some.injEq,Prod.mk.injEq]at h
     obtain ⟨rfl,rfl,rfl,rfl⟩:=h
     exact this
    ·rw [if_neg hm]
     have hb:isM l i1 [41]=false:=by cases h:isM l i1 [41];rfl;exact absurd h hm
     rw [hb]at this
     exact ⟨fun t q i' nm' h=>by simp at h,fun _=>⟨_,_,_,⟨i1+1,nm1,d,by omega,rfl⟩,this⟩⟩
 rw [if_neg c2]
 have n40:isM l i [40]=false:=by cases h:isM l i [40];rfl;exact absurd h c2
 by_cases c4:isM l i [91]=true
 ·have hlt:=(isM_lt c4).1
  rw [if_pos c4]
  by_cases c5:isM l (i+1) [93]=true
  ·rw [if_pos c5]
   refine ⟨fun t q i' nm' h=> ?_,fun h=>by simp at h⟩
   simp only [Option.some.injEq,Prod.mk.injEq]at h
   obtain ⟨rfl,rfl,rfl,rfl⟩:=h
   exact prim_list l τ hg i hi nm d most c4 nilTm (i+2) nm d false (listTerm_nil l τ hg i hi nm d c4 c5)
  rw [if_neg c5]
  have n93:isM l (i+1) [93]=false:=by cases h:isM l (i+1) [93];rfl;exact absurd h c5
  obtain ⟨a1,a2⟩:=hA (i+1) nm d (by omega) (by omega) (by omega) hd
  cases hp:pA l n (i+1) nm d with
  |none=>
   refine ⟨fun t q i' nm' h=>by simp at h,fun _=> ?_⟩
   obtain ⟨ks,cs,⟨a,nm1,d1,ha,rfl⟩,hk,hc⟩:=a2 hp
   obtain ⟨k1,k2⟩:=listTerm_key l τ hg i hi nm d c4 n93 ks (by omega) a (by omega) nm1 d1 true hc
   cases hb:isM l a [124]with
   |false=>
    have:=k1 hb
    simp only [Bool.true_or]at this
    exact ⟨_,_,_,⟨a+1,nm1,d1,by omega,rfl⟩,prim_list l τ hg i hi nm d most c4 _ _ _ _ _ this⟩
   |true=>
    have:=k2 hb _ (a+1) nm1 d1 true (by omega) (term_bad l τ (a+1) nm1 d1 999)
    simp only [Bool.true_or]at this
    exact ⟨_,_,_,⟨a+1+1,nm1,d1,by omega,rfl⟩,prim_list l τ hg i hi nm d most c4 _ _ _ _ _ this⟩
  |some r=>
   obtain ⟨ks,i1,nm1⟩:=r
   have adv:=(p_adv l n).2.2.2.1 _ _ _ _ _ _ hp
   have nl:=(p_nlen l n).2.2.2.1 _ _ _ _ _ _ hp
   obtain ⟨hk,hc⟩:=a1 _ _ _ hp
   obtain ⟨k1,k2⟩:=listTerm_key l τ hg i hi nm d c4 n93 ks (by omega) i1 (by omega) nm1 d false hc
   simp only
   cases hb:isM l i1 [124]with
   |true=>
    have hlt1:=(isM_lt hb).1
    rw [if_pos rfl]
    obtain ⟨t1,t2⟩:=hT (i1+1) nm1 d 999 (by omega) (by omega) (by omega) hd
    cases hp2:pT l n (i1+1) nm1 d 999 with
    |none=>
     refine ⟨fun t q i' nm' h=>by simp at h,fun _=> ?_⟩
     obtain ⟨g,cs,⟨a,nm2,d1,ha,rfl⟩,hc2⟩:=t2 hp2
     have:=k2 hb g a nm2 d1 true (by omega) hc2
     simp only [Bool.true_or]at this
     exact ⟨_,_,_,⟨a+1,nm2,d1,by omega,rfl⟩,prim_list l τ hg i hi nm d most c4 _ _ _ _ _ this⟩
    |some r2=>
     obtain ⟨r,i2,nm2⟩:=r2
     have adv2:=(p_adv l n).1 _ _ _ _ _ _ _ hp2
     have:=k2 hb r i2 nm2 d false (by omega) (t1 _ _ _ hp2)
     simp only [Bool.false_or]at this
     have:=prim_list l τ hg i hi nm d most c4 _ _ _ _ _ this
     simp only
     by_cases hm:isM l i2 [93]=true
     ·rw [if_pos hm]
      rw [hm]at this
      refine ⟨fun t q i' nm' h=> ?_,fun h=>by simp at h⟩
      simp only [Option.some.injEq,Prod.mk.injEq]at h
      obtain ⟨rfl,rfl,rfl,rfl⟩:=h
      exact this
     ·rw [if_neg hm]
      have hf:isM l i2 [93]=false:=by cases h:isM l i2 [93];rfl;exact absurd h hm
      rw [hf]at this
      exact ⟨fun t q i' nm' h=>by simp at h,fun _=>⟨_,_,_,⟨i2+1,nm2,d,by omega,rfl⟩,this⟩⟩
   |false=>
    rw [if_neg (by decide)]
    have:=k1 hb
    simp only [Bool.false_or]at this
    have:=prim_list l τ hg i hi nm d most c4 _ _ _ _ _ this
    by_cases hm:isM l i1 [93]=true
    ·rw [if_pos hm]
     rw [hm]at this
     refine ⟨fun t q i' nm' h=> ?_,fun h=>by simp at h⟩
     simp only [Option.some.injEq,Prod.mk.injEq]at h
     obtain ⟨rfl,rfl,rfl,rfl⟩:=h
     exact this
    ·rw [if_neg hm]
     have hf:isM l i1 [93]=false:=by cases h:isM l i1 [93];rfl;exact absurd h hm
     rw [hf]at this
     exact ⟨fun t q i' nm' h=>by simp at h,fun _=>⟨_,_,_,⟨i1+1,nm1,d,by omega,rfl⟩,this⟩⟩
 rw [if_neg c4]
 have n91:isM l i [91]=false:=by cases h:isM l i [91];rfl;exact absurd h c4
 by_cases c6:(sgD l i).kind=3
 ·rw [if_pos c6]
  refine ⟨fun t q i' nm' h=> ?_,fun h=>by simp at h⟩
  simp only [Option.some.injEq,Prod.mk.injEq]at h
  obtain ⟨rfl,rfl,rfl,rfl⟩:=h
  exact prim_num l τ hg i hi nm d most c6
 rw [if_neg c6]
 by_cases c7:(sgD l i).kind=2
 ·rw [if_pos c7]
  refine ⟨fun t q i' nm' h=> ?_,fun h=>by simp at h⟩
  simp only [Option.some.injEq,Prod.mk.injEq]at h
  obtain ⟨rfl,rfl,rfl,rfl⟩:=h
  exact prim_var l τ hg i hi nm d most c7 (by omega)
 rw [if_neg c7]
 by_cases k1:(sgD l i).kind=1
 ·have hnr:(sgD l i).near=false:=by
   cases h:(sgD l i).near with
   |true=>exact absurd ⟨k1,h⟩ c1
   |false=>rfl
  by_cases c8:(sgD l i).kind=1∧(sgD l i).text=[45]∧(sgD l (i+1)).kind=3∧(sgD l (i+1)).at_=(sgD l i).at_+1
  ·rw [if_pos c8]
   refine ⟨fun t q i' nm' h=> ?_,fun h=>by simp at h⟩
   simp only [Option.some.injEq,Prod.mk.injEq]at h
   obtain ⟨rfl,rfl,rfl,rfl⟩:=h
   exact prim_neg l τ hg i hi nm d most k1 hnr c8.2.1 c8.2.2.1 c8.2.2.2
  rw [if_neg c8]
  have hneg:=fun h=>c8 ⟨k1,h⟩
  have hlt:i < l.length:=sgD_lt (by rw [k1];decide)
  by_cases hp0:(prefixOf (sgD l i).text).prio=0
  ·rw [if_neg fun h=>h.2.1 hp0]
   by_cases hq0:(infixOf (sgD l i).text).prio=0
   ·rw [if_pos ⟨k1,hp0,hq0⟩]
    refine ⟨fun t q i' nm' h=> ?_,fun h=>by simp at h⟩
    simp only [Option.some.injEq,Prod.mk.injEq]at h
    obtain ⟨rfl,rfl,rfl,rfl⟩:=h
    exact prim_atom l τ hg i hi nm d most k1 hnr hneg hp0 hq0
   ·rw [if_neg fun h=>hq0 h.2.2]
    exact ⟨fun t q i' nm' h=>by simp at h,fun _=>⟨_,_,_,⟨i,nm,d,by omega,rfl⟩,prim_bad2 l τ hg i hi nm d most k1 hnr hneg hp0 hq0⟩⟩
  ·by_cases hm:(prefixOf (sgD l i).text).prio≤most
   ·rw [if_pos ⟨k1,hp0,hm⟩]
    obtain ⟨t1,t2⟩:=hT (i+1) nm d (prefixOf (sgD l i).text).right (by omega) (by omega) (by omega) hd
    cases hp:pT l n (i+1) nm d (prefixOf (sgD l i).text).right with
    |none=>
     refine ⟨fun t q i' nm' h=>by simp at h,fun _=> ?_⟩
     obtain ⟨g,cs,⟨a,nm1,d1,ha,rfl⟩,hc⟩:=t2 hp
     exact ⟨_,_,_,⟨a,nm1,d1,by omega,rfl⟩,prim_pre l τ hg i hi nm d most k1 hnr hneg hp0 hm g a nm1 d1 true hc⟩
    |some r=>
     obtain ⟨x,i1,nm1⟩:=r
     refine ⟨fun t q i' nm' h=> ?_,fun h=>by simp at h⟩
     simp only [Option.some.injEq,Prod.mk.injEq]at h
     obtain ⟨rfl,rfl,rfl,rfl⟩:=h
     exact prim_pre l τ hg i hi nm d most k1 hnr hneg hp0 hm x i1 nm1 d false (t1 _ _ _ hp)
   ·rw [if_neg fun h=>hm h.2.2,if_neg fun h=>hp0 h.2.1]
    exact ⟨fun t q i' nm' h=>by simp at h,fun _=>⟨_,_,_,⟨i,nm,d,by omega,rfl⟩,prim_bad1 l τ hg i hi nm d most k1 hnr hneg hp0 hm⟩⟩
 ·rw [if_neg fun h=>k1 h.1,if_neg fun h=>k1 h.1,if_neg fun h=>k1 h.1]
  exact ⟨fun t q i' nm' h=>by simp at h,fun _=>⟨_,_,_,⟨i,nm,d,by omega,rfl⟩,prim_bad3 l τ hg i hi nm d most n40 n91 k1 c7 c6⟩⟩
theorem I_all(l:List Sg) (τ:Bool) (hg:GoodL l): ∀ n:Nat,n≤2^20→IT l τ n∧IL l τ n∧IP l τ n∧IA l τ n∧IB l τ n
 |0,_=>⟨fun i nm d most h=>by omega,fun i nm d most t q h=>by omega,fun i nm d most h=>by omega,fun i nm d h=>by omega,fun i nm d acc h=>by omega⟩
 |n+1,hn=>by
  obtain ⟨hT,hL,hP,hA,hB⟩:=I_all l τ hg n (by omega)
  exact ⟨IT_step l τ n hP hL,IL_step l τ hg n hT hL,IP_step l τ hg n (by omega) hT hA,IA_step l τ hg n hT hB,IB_step l τ hg n hT hB⟩
theorem impl_term_ok(l:List Sg) (τ:Bool) (hg:GoodL l) (i:Nat) (hi:i≤l.length):
 (∀ t i' nm',pT l 20000 i [] 0 1200=some (t,i',nm')→cw progA F.impl_parser_term [.b (.a [.i τ (l.map Sg.v),I i,.o 1 (List.map S []),I ((0:Nat)),B false]),I 1200]=some (oT t,[.b (.a [.i τ (l.map Sg.v),I i',.o 1 (List.map S nm'),I ((0:Nat)),B false]),I 1200]))∧
 (pT l 20000 i [] 0 1200=none→ ∃ g cs,BadI l τ (2^20) cs∧cw progA F.impl_parser_term [.b (.a [.i τ (l.map Sg.v),I i,.o 1 (List.map S []),I ((0:Nat)),B false]),I 1200]=some (oT g,[.b (.a cs),I 1200])):=by
 have hlen:=hg.len
 obtain ⟨h1,h2⟩:=(I_all l τ hg 20000 (by omega)).1 i [] 0 1200 (by omega) hi (by simp) (by omega)
 refine ⟨h1,fun h=> ?_⟩
 obtain ⟨g,cs,⟨a,nm,d,ha,rfl⟩,hc⟩:=h2 h
 exact ⟨g,_,⟨a,nm,d,by omega,rfl⟩,hc⟩
end Go.Vm
set_option autoImplicit false
set_option maxHeartbeats 16000000
set_option maxRecDepth 100000
set_option linter.unusedSimpArgs false
set_option linter.unusedVariables false
namespace Go.Vm
def bhd:List Sg→Nat→Nat
 |[],i=>i
 |x::r,i=>if x.kind=5 then i+1 else bhd r (i+1)
def behindS(l:List Sg) (n:Int):Nat:=if (max n 0).toNat < l.length then bhd (l.drop (max n 0).toNat) (max n 0).toNat else l.length
def readS(l:List Sg) (n:Int):Tm × List Str × Nat × Bool:=
 if 0≤n∧n≤(l.length:Int) - 1 then
  match pT l 20000 n.toNat [] 0 1200 with
  |some (t,i',nm')=>if (sgD l i').kind=5∧termOk t=true then (t,nm',i'+1,true)else (.mk 0 [] 0 [],[],behindS l n,false)
  |none=>(.mk 0 [] 0 [],[],behindS l n,false)
 else (.mk 0 [] 0 [],[],behindS l n,false)
theorem bhd_bd: ∀ (r:List Sg) (i:Nat),i≤bhd r i∧bhd r i≤i+r.length
 |[],i=>⟨Nat.le_refl _,Nat.le_refl _⟩
 |x::r,i=>by
  have:=bhd_bd r (i+1)
  simp only [bhd,List.length_cons]
  split<;>omega
theorem behind_loop(l:List Sg) (τ:Bool) (hl:l.length≤3000): ∀ (r:List Sg) (k:Nat),l.drop k=r→k+r.length=l.length→
 lw progA L.spec_l06Behind_0 ⟨[(0,.i τ (l.map Sg.v)),(1,I k)],[]⟩=(if ∃ x ∈ r,x.kind=5 then some (.ret,⟨[(4,I (bhd r k:Nat))],[]⟩)else some (.exit 0,⟨[(0,.i τ (l.map Sg.v))],[]⟩))
 |[],k,h,hk=>by
  have h1: ¬ (k:Int) < (l.length:Int):=by simp only [List.length_nil]at hk;omega
  rw [if_neg (by simp),lw_eq]
  simp only [go_sem,Nat.reduceAdd,Nat.reduceSub,Nat.reduceMul,Nat.reduceEqDiff,Nat.reduceLeDiff,Nat.reduceBEq,reduceCtorEq,LB.spec_l06Behind_0,List.length_map,h1]
 |x::r,k,h,hk=>by
  simp only [List.length_cons]at hk
  have hx:l[k]? =some x:=by
   have:=congrArg (fun z=>z[0]?) h
   simpa using this
  have hd:l.drop (k+1)=r:=by
   have:=congrArg (fun z=>z.drop 1) h
   simpa [List.drop_drop,Nat.add_comm]using this
  have h1:(k:Int) < (l.length:Int):=by omega
  have e1:w64 ((k:Int)+1)=((k+1:Nat):Int):=by rw [w64_id]<;>omega
  have e2:w64 (((k+1:Nat):Int) - 1)=(k:Int):=by rw [w64_id]<;>omega
  have g:=getmap (f:=Sg.v) hx
  have a1:=fun T=>addr_i (τ:=τ) (T:=T) (e:=5) g rfl
  rw [Sg.v]at g
  by_cases h5:x.kind=5
  ·have d5:decide (x.kind=5)=true:=decide_eq_true h5
   rw [if_pos ⟨x,List.mem_cons_self,h5⟩]
   simp only [bhd,if_pos h5]
   rw [lw_eq]
   simp only [go_sem,Nat.reduceAdd,Nat.reduceSub,Nat.reduceMul,Nat.reduceEqDiff,Nat.reduceLeDiff,Nat.reduceBEq,reduceCtorEq,LB.spec_l06Behind_0,List.length_map,h1,e1,e2,g,a1,d5]
  ·have d5:decide (x.kind=5)=false:=decide_eq_false h5
   have ih:=behind_loop l τ hl r (k+1) hd (by omega)
   have ex:(∃ y ∈ x::r,y.kind=5)↔(∃ y ∈ r,y.kind=5):=by
    simp only [List.mem_cons,exists_eq_or_imp,h5,false_or]
   simp only [bhd,if_neg h5,ex]
   rw [← ih,lw_eq]
   simp only [go_sem,Nat.reduceAdd,Nat.reduceSub,Nat.reduceMul,Nat.reduceEqDiff,Nat.reduceLeDiff,Nat.reduceBEq,reduceCtorEq,LB.spec_l06Behind_0,List.length_map,h1,e1,e2,g,a1,d5]
theorem bhd_none: ∀ (r:List Sg) (i:Nat),(¬ ∃ x ∈ r,x.kind=5)→bhd r i=i+r.length
 |[],i,h=>rfl
 |x::r,i,h=>by
  have h5: ¬ x.kind=5:=fun e=>h ⟨x,List.mem_cons_self,e⟩
  have:=bhd_none r (i+1) (fun ⟨y,hy,e⟩=>h ⟨y,List.mem_cons_of_mem _ hy,e⟩)
  simp only [bhd,if_neg h5,this,List.length_cons];omega
theorem spec_behind_ok(l:List Sg) (τ:Bool) (hl:l.length≤3000) (n:Int) (hn:n≤2^40):
 cr progA F.spec_l06Behind [.i τ (l.map Sg.v),I n]=some (I (behindS l n:Nat)):=by
 rw [cr_fn pA_spec_l06Behind rfl]
 have core: ∀ k:Nat,(max n 0).toNat=k→ ∃ st,lw progA L.spec_l06Behind_0 ⟨[(0,.i τ (l.map Sg.v)),(1,I k)],[]⟩=some st∧(st=(.ret,⟨[(4,I (behindS l n:Nat))],[]⟩)∨(behindS l n=l.length∧st=(.exit 0,⟨[(0,.i τ (l.map Sg.v))],[]⟩))):=by
  intro k hk
  unfold behindS
  rw [hk]
  by_cases h:k < l.length
  ·have lp:=behind_loop l τ hl (l.drop k) k rfl (by rw [List.length_drop];omega)
   rw [if_pos h]
   by_cases hx: ∃ x ∈ l.drop k,x.kind=5
   ·rw [if_pos hx]at lp
    exact ⟨_,lp,.inl rfl⟩
   ·rw [if_neg hx]at lp
    refine ⟨_,lp,.inr ⟨?_,rfl⟩⟩
    rw [bhd_none _ _ hx,List.length_drop];omega
  ·rw [if_neg h]
   refine ⟨_, ?_,.inr ⟨rfl,rfl⟩⟩
   have h1: ¬ (k:Int) < (l.length:Int):=by omega
   rw [lw_eq]
   simp only [go_sem,Nat.reduceAdd,Nat.reduceSub,Nat.reduceMul,Nat.reduceEqDiff,Nat.reduceLeDiff,Nat.reduceBEq,reduceCtorEq,LB.spec_l06Behind_0,List.length_map,h1]
 by_cases hn0:n < 0
 ·have hk:(max n 0).toNat=0:=by omega
  obtain ⟨st,lp,hst⟩:=core 0 hk
  simp only [Int.natCast_zero]at lp
  rcases hst with rfl|⟨hb,rfl⟩
  ·simp only [go_sem,Nat.reduceAdd,Nat.reduceSub,Nat.reduceMul,Nat.reduceEqDiff,Nat.reduceLeDiff,Nat.reduceBEq,reduceCtorEq,A.spec_l06Behind,hn0,lp]
  ·simp only [go_sem,Nat.reduceAdd,Nat.reduceSub,Nat.reduceMul,Nat.reduceEqDiff,Nat.reduceLeDiff,Nat.reduceBEq,reduceCtorEq,A.spec_l06Behind,hn0,lp,List.length_map,hb]
 ·obtain ⟨k,rfl⟩: ∃ k:Nat,n=k:=⟨n.toNat,by omega⟩
  obtain ⟨st,lp,hst⟩:=core k (by omega)
  rcases hst with rfl|⟨hb,rfl⟩
  ·simp only [go_sem,Nat.reduceAdd,Nat.reduceSub,Nat.reduceMul,Nat.reduceEqDiff,Nat.reduceLeDiff,Nat.reduceBEq,reduceCtorEq,A.spec_l06Behind,hn0,lp]
  ·simp only [go_sem,Nat.reduceAdd,Nat.reduceSub,Nat.reduceMul,Nat.reduceEqDiff,Nat.reduceLeDiff,Nat.reduceBEq,reduceCtorEq,A.spec_l06Behind,hn0,lp,List.length_map,hb]
end Go.Vm
set_option autoImplicit false
set_option maxHeartbeats 16000000
set_option maxRecDepth 100000
set_option linter.unusedSimpArgs false
set_option linter.unusedVariables false
namespace Go.Vm
theorem WT_leaf {k:Int} {s:Str} {n:Int} (hk:inI k) (hs:s.length≤Lm) (hn:inI n):WT (.mk k s n []):=WT_mk hk hs hn (Nat.zero_le _) (fun t h=>by cases h)
theorem inI_0:inI 0:=by unfold inI;omega
theorem WT_mkList: ∀ (ks:List Tm) (r:Tm),(∀ t ∈ ks,WT t)→WT r→WT (mkList ks r)
 |[],r,_,h=>h
 |t::ks,r,h,hr=>by
  refine WT_mk (by unfold inI;omega) (by simp [Lm]) inI_0 (by simp [Lm]) fun u hu=> ?_
  simp only [List.mem_cons,List.not_mem_nil,or_false]at hu
  rcases hu with rfl|rfl
  ·exact h _ List.mem_cons_self
  ·exact WT_mkList ks r (fun v hv=>h v (List.mem_cons_of_mem _ hv)) hr
theorem WT_two {s:Str} {t y:Tm} (hs:s.length≤3000) (ht:WT t) (hy:WT y):WT (.mk 4 s 0 [t,y]):=
 WT_mk (by unfold inI;omega) (by unfold Lm;omega) inI_0 (by simp [Lm]) fun u hu=>by
  simp only [List.mem_cons,List.not_mem_nil,or_false]at hu
  rcases hu with rfl|rfl<;>assumption
theorem WT_var {nm:List Str} {s:Str} (h:nm.length≤2^30):WT (varAt nm s).1:=by
 unfold varAt
 split
 ·rename_i hm
  have:=(idxS_ge s nm 0).1 hm.1
  exact WT_leaf (by unfold inI;omega) (by simp [Lm]) (by unfold inI;omega)
 ·exact WT_leaf (by unfold inI;omega) (by simp [Lm]) (by unfold inI;omega)
theorem p_WT(l:List Sg) (hg:GoodL l): ∀ n:Nat,
 (∀ i nm d most t i' nm',nm.length≤i→i≤l.length→pT l n i nm d most=some (t,i',nm')→WT t)∧
 (∀ i nm d most t q t' i' nm',nm.length≤i→i≤l.length→WT t→pL l n i nm d most t q=some (t',i',nm')→WT t')∧
 (∀ i nm d most t q i' nm',nm.length≤i→i≤l.length→pP l n i nm d most=some (t,q,i',nm')→WT t)∧
 (∀ i nm d ks i' nm',nm.length≤i→i≤l.length→pA l n i nm d=some (ks,i',nm')→ ∀ t ∈ ks,WT t)∧
 (∀ i nm d acc ks i' nm',nm.length≤i→i≤l.length→(∀ t ∈ acc,WT t)→pB l n i nm d acc=some (ks,i',nm')→ ∀ t ∈ ks,WT t):=by
 have hlen:=hg.len
 have h0:inI 0:=inI_0
 intro n
 induction n with
 |zero=>refine ⟨?_, ?_, ?_, ?_, ?_⟩<;>intros<;>simp_all [pT,pL,pP,pA,pB]
 |succ n ih=>
  obtain ⟨hT,hL,hP,hA,hB⟩:=ih
  have ad:=p_adv l n
  have nl:=p_nlen l n
  refine ⟨?_, ?_, ?_, ?_, ?_⟩
  ·intro i nm d most t i' nm' hn hi h
   simp only [pT]at h
   split at h
   ·cases h
   split at h
   ·cases h
   ·rename_i t1 q1 i1 nm1 h1
    have a:=ad.2.2.1 _ _ _ _ _ _ _ _ h1
    have b:=nl.2.2.1 _ _ _ _ _ _ _ _ h1
    exact hL _ _ _ _ _ _ _ _ _ (by omega) a.2 (hP _ _ _ _ _ _ _ _ hn hi h1) h
  ·intro i nm d most t q t' i' nm' hn hi ht h
   simp only [pL]at h
   split at h
   ·rename_i hgo
    have:=goOn_lt hgo
    split at h
    ·cases h
    ·rename_i y i1 nm1 h1
     have a:=ad.1 _ _ _ _ _ _ _ h1
     have b:=nl.1 _ _ _ _ _ _ _ h1
     exact hL _ _ _ _ _ _ _ _ _ (by omega) a.2 (WT_two (hg.text i) ht (hT _ _ _ _ _ _ _ (by omega) (by omega) h1)) h
   ·cases h;exact ht
  ·intro i nm d most t q i' nm' hn hi h
   have tx:=hg.text i
   simp only [pP]at h
   split at h
   ·rename_i hk
    have h40:=isM_lt (hg.near i hk.2)
    split at h
    ·cases h
    ·rename_i ks i1 nm1 h1
     split at h
     ·rename_i hm
      cases h
      exact WT_mk (by unfold inI;omega) (by unfold Lm;omega) h0 (by unfold Lm;omega) (hA _ _ _ _ _ _ (by omega) (by omega) h1)
     ·cases h
   split at h
   ·rename_i hk
    have:=isM_lt hk
    split at h
    ·have:=hg.text (i+1)
     cases h
     exact WT_leaf (by unfold inI;omega) (by unfold Lm;omega) h0
    ·split at h
     ·cases h
     ·rename_i t1 i1 nm1 h1
      split at h
      ·cases h
       exact hT _ _ _ _ _ _ _ (by omega) (by omega) h1
      ·cases h
   split at h
   ·rename_i hk
    have:=isM_lt hk
    split at h
    ·cases h
     exact WT_leaf (by unfold inI;omega) (by simp [Lm]) h0
    ·split at h
     ·cases h
     ·rename_i ks i1 nm1 h1
      have a:=ad.2.2.2.1 _ _ _ _ _ _ h1
      have b:=nl.2.2.2.1 _ _ _ _ _ _ h1
      have hks:=hA _ _ _ _ _ _ (by omega) (by omega) h1
      split at h
      ·rename_i hb
       have:=isM_lt hb
       split at h
       ·cases h
       ·rename_i r i2 nm2 h2
        split at h
        ·cases h
         exact WT_mkList _ _ hks (hT _ _ _ _ _ _ _ (by omega) (by omega) h2)
        ·cases h
      ·split at h
       ·cases h
        exact WT_mkList _ _ hks (WT_leaf (by unfold inI;omega) (by simp [Lm]) h0)
       ·cases h
   split at h
   ·cases h
    have:=hg.num i
    exact WT_leaf (by unfold inI;omega) (by simp [Lm]) (by unfold inI;omega)
   split at h
   ·cases h
    exact WT_var (by omega)
   split at h
   ·cases h
    have:=hg.num (i+1)
    exact WT_leaf (by unfold inI;omega) (by simp [Lm]) (by unfold inI;omega)
   split at h
   ·rename_i hk
    have hlt:i < l.length:=sgD_lt (by rw [hk.1];decide)
    split at h
    ·cases h
    ·rename_i x i1 nm1 h1
     cases h
     refine WT_mk (by unfold inI;omega) (by unfold Lm;omega) h0 (by simp [Lm]) fun u hu=> ?_
     simp only [List.mem_cons,List.not_mem_nil,or_false]at hu
     subst hu
     exact hT _ _ _ _ _ _ _ (by omega) (by omega) h1
   split at h
   ·cases h
    exact WT_leaf (by unfold inI;omega) (by unfold Lm;omega) h0
   ·cases h
  ·intro i nm d ks i' nm' hn hi h
   simp only [pA]at h
   split at h
   ·cases h
   ·rename_i t i1 nm1 h1
    have a:=ad.1 _ _ _ _ _ _ _ h1
    have b:=nl.1 _ _ _ _ _ _ _ h1
    exact hB _ _ _ _ _ _ _ (by omega) a.2 (fun u hu=>by
     simp only [List.mem_cons,List.not_mem_nil,or_false]at hu
     subst hu
     exact hT _ _ _ _ _ _ _ hn hi h1) h
  ·intro i nm d acc ks i' nm' hn hi hacc h
   simp only [pB]at h
   split at h
   ·rename_i hm
    have:=isM_lt hm
    split at h
    ·cases h
    ·rename_i t i1 nm1 h1
     have a:=ad.1 _ _ _ _ _ _ _ h1
     have b:=nl.1 _ _ _ _ _ _ _ h1
     exact hB _ _ _ _ _ _ _ (by omega) a.2 (fun u hu=>by
      rcases List.mem_append.1 hu with hu|hu
      ·exact hacc u hu
      ·simp only [List.mem_cons,List.not_mem_nil,or_false]at hu
       subst hu
       exact hT _ _ _ _ _ _ _ (by omega) (by omega) h1) h
   ·cases h;exact hacc
end Go.Vm
set_option autoImplicit false
set_option maxHeartbeats 16000000
set_option maxRecDepth 100000
set_option linter.unusedSimpArgs false
set_option linter.unusedVariables false
namespace Go.Vm
theorem impl_read_good(l:List Sg) (τ:Bool) (hg:GoodL l) (k:Nat) (hk:k < l.length) (t:Tm) (i':Nat) (hi:i'≤l.length) (nm':List Str) (hw:WT t)
 (hp:cw progA F.impl_parser_term [.b (.a [.i τ (l.map Sg.v),I k,.o 1 (List.map S ([]:List Str)),I ((0:Nat)),B false]),I 1200]=some (oT t,[.b (.a [.i τ (l.map Sg.v),I i',.o 1 (List.map S nm'),I ((0:Nat)),B false]),I 1200]))
 (h5:(sgD l i').kind=5) (hok:termOk t=true):
 cr progA F.impl_ReadSigns [.i τ (l.map Sg.v),I k]=some (.t [oT t,.o 1 (nm'.map S),I ((i'+1:Nat):Int),B true]):=by
 have hlen:=hg.len
 have e1:w64 ((l.length:Int) - 1)=(l.length:Int) - 1:=by rw [w64_id]<;>omega
 have wi:=within_ok k 0 ((l.length:Int) - 1)
 rw [decide_eq_true ⟨by omega,by omega⟩]at wi
 have sg:=impl_sign_ok l τ hlen i' 0 (by omega) (by decide) (.i true (nm'.map S)) (0:Nat) false
 simp only [Nat.add_zero,Int.natCast_zero]at sg
 rw [Sg.v,h5]at sg
 have e2:w64 ((i':Int)+1)=((i'+1:Nat):Int):=by rw [w64_id]<;>omega
 have ok:=impl_TermOk_ok t hw (iT true t) (BT_iT true t)
 rw [hok]at ok
 rw [iT_mk]at ok
 simp only [List.map_nil,Int.natCast_zero]at hp
 have tk: ∀ x:Tm,(x.kids.map oT).take x.kids.length=x.kids.map oT:=fun x=>List.take_of_length_le (by simp)
 have tk2:(nm'.map S).take nm'.length=nm'.map S:=List.take_of_length_le (by simp)
 rw [oT_mk]at hp
 rw [cr_fn pA_impl_ReadSigns rfl,oT_mk]
 simp only [go_sem,Nat.reduceAdd,Nat.reduceSub,Nat.reduceMul,Nat.reduceEqDiff,Nat.reduceLeDiff,Nat.reduceBEq,reduceCtorEq,A.impl_ReadSigns,List.length_map,e1,wi,hp,sg,e2,ok,tk,tk2]
theorem end_loop(l:List Sg) (τ:Bool) (hl:l.length≤3000): ∀ (r:List Sg) (k:Nat),l.drop k=r→k+r.length=l.length→
 lw progA L.impl_ReadSigns_0 ⟨[(0,.i τ (l.map Sg.v)),(4,.p (100000,0) 0 0),(10,I k)],[((100000,0),4,[.a [I 0,S [],I 0,.s (100000,1) 0 0]]),((100000,1),4,[])]⟩=(if ∃ x ∈ r,x.kind=5 then some (.ret,⟨[(4,.p (100000,0) 0 0),(5,.n 1),(6,I (bhd r k:Nat)),(7,B false)],[((100000,0),4,[.a [I 0,S [],I 0,.n 4]]),((100000,1),4,[])]⟩)else some (.exit 0,⟨[(0,.i τ (l.map Sg.v)),(4,.p (100000,0) 0 0)],[((100000,0),4,[.a [I 0,S [],I 0,.s (100000,1) 0 0]]),((100000,1),4,[])]⟩))
 |[],k,h,hk=>by
  have h1: ¬ (k:Int) < (l.length:Int):=by simp only [List.length_nil]at hk;omega
  rw [if_neg (by simp),lw_eq]
  simp only [go_sem,Nat.reduceAdd,Nat.reduceSub,Nat.reduceMul,Nat.reduceEqDiff,Nat.reduceLeDiff,Nat.reduceBEq,reduceCtorEq,LB.impl_ReadSigns_0,List.length_map,h1]
 |x::r,k,h,hk=>by
  simp only [List.length_cons]at hk
  have hx:l[k]? =some x:=by
   have:=congrArg (fun z=>z[0]?) h
   simpa using this
  have hd:l.drop (k+1)=r:=by
   have:=congrArg (fun z=>z.drop 1) h
   simpa [List.drop_drop,Nat.add_comm]using this
  have h1:(k:Int) < (l.length:Int):=by omega
  have e1:w64 ((k:Int)+1)=((k+1:Nat):Int):=by rw [w64_id]<;>omega
  have e2:w64 (((k+1:Nat):Int) - 1)=(k:Int):=by rw [w64_id]<;>omega
  have g:=getmap (f:=Sg.v) hx
  have a1:=fun T=>addr_i (τ:=τ) (T:=T) (e:=5) g rfl
  rw [Sg.v]at g
  by_cases h5:x.kind=5
  ·have d5:decide (x.kind=5)=true:=decide_eq_true h5
   rw [if_pos ⟨x,List.mem_cons_self,h5⟩]
   simp only [bhd,if_pos h5]
   rw [lw_eq]
   simp only [go_sem,Nat.reduceAdd,Nat.reduceSub,Nat.reduceMul,Nat.reduceEqDiff,Nat.reduceLeDiff,Nat.reduceBEq,reduceCtorEq,LB.impl_ReadSigns_0,List.length_map,h1,e1,e2,g,a1,d5]
  ·have d5:decide (x.kind=5)=false:=decide_eq_false h5
   have ih:=end_loop l τ hl r (k+1) hd (by omega)
   have ex:(∃ y ∈ x::r,y.kind=5)↔(∃ y ∈ r,y.kind=5):=by
    simp only [List.mem_cons,exists_eq_or_imp,h5,false_or]
   simp only [bhd,if_neg h5,ex]
   rw [← ih,lw_eq]
   simp only [go_sem,Nat.reduceAdd,Nat.reduceSub,Nat.reduceMul,Nat.reduceEqDiff,Nat.reduceLeDiff,Nat.reduceBEq,reduceCtorEq,LB.impl_ReadSigns_0,List.length_map,h1,e1,e2,g,a1,d5]
theorem end_core(l:List Sg) (τ:Bool) (hl:l.length≤3000) (n:Int) (k:Nat) (hk:(max n 0).toNat=k):
 lw progA L.impl_ReadSigns_0 ⟨[(0,.i τ (l.map Sg.v)),(4,.p (100000,0) 0 0),(10,I k)],[((100000,0),4,[.a [I 0,S [],I 0,.s (100000,1) 0 0]]),((100000,1),4,[])]⟩=some (.ret,⟨[(4,.p (100000,0) 0 0),(5,.n 1),(6,I (behindS l n:Nat)),(7,B false)],[((100000,0),4,[.a [I 0,S [],I 0,.n 4]]),((100000,1),4,[])]⟩)∨(behindS l n=l.length∧lw progA L.impl_ReadSigns_0 ⟨[(0,.i τ (l.map Sg.v)),(4,.p (100000,0) 0 0),(10,I k)],[((100000,0),4,[.a [I 0,S [],I 0,.s (100000,1) 0 0]]),((100000,1),4,[])]⟩=some (.exit 0,⟨[(0,.i τ (l.map Sg.v)),(4,.p (100000,0) 0 0)],[((100000,0),4,[.a [I 0,S [],I 0,.s (100000,1) 0 0]]),((100000,1),4,[])]⟩)):=by
 unfold behindS
 rw [hk]
 by_cases h:k < l.length
 ·have lp:=end_loop l τ hl (l.drop k) k rfl (by rw [List.length_drop];omega)
  rw [if_pos h]
  by_cases hx: ∃ x ∈ l.drop k,x.kind=5
  ·rw [if_pos hx]at lp;exact .inl lp
  ·rw [if_neg hx]at lp
   refine .inr ⟨?_,lp⟩
   rw [bhd_none _ _ hx,List.length_drop];omega
 ·rw [if_neg h]
  refine .inr ⟨rfl, ?_⟩
  have h1: ¬ (k:Int) < (l.length:Int):=by omega
  rw [lw_eq]
  simp only [go_sem,Nat.reduceAdd,Nat.reduceSub,Nat.reduceMul,Nat.reduceEqDiff,Nat.reduceLeDiff,Nat.reduceBEq,reduceCtorEq,LB.impl_ReadSigns_0,List.length_map,h1]
theorem impl_read_out(l:List Sg) (τ:Bool) (hg:GoodL l) (n:Int) (hn:n≤2^40) (ho: ¬ (0≤n∧n≤(l.length:Int) - 1)):
 cr progA F.impl_ReadSigns [.i τ (l.map Sg.v),I n]=some (.t [oT (.mk 0 [] 0 []),.o 1 [],I (behindS l n:Nat),B false]):=by
 have hlen:=hg.len
 have e1:w64 ((l.length:Int) - 1)=(l.length:Int) - 1:=by rw [w64_id]<;>omega
 have wi:=within_ok n 0 ((l.length:Int) - 1)
 rw [decide_eq_false ho]at wi
 have hm:(if 0 > n then (0:Int)else n)=((max n 0).toNat:Int):=by split<;>omega
 rw [cr_fn pA_impl_ReadSigns rfl,oT_leaf]
 rcases end_core l τ hlen n _ rfl with lp|⟨hb,lp⟩
 ·simp only [go_sem,Nat.reduceAdd,Nat.reduceSub,Nat.reduceMul,Nat.reduceEqDiff,Nat.reduceLeDiff,Nat.reduceBEq,reduceCtorEq,A.impl_ReadSigns,List.length_map,e1,wi,hm,lp]
 ·simp only [go_sem,Nat.reduceAdd,Nat.reduceSub,Nat.reduceMul,Nat.reduceEqDiff,Nat.reduceLeDiff,Nat.reduceBEq,reduceCtorEq,A.impl_ReadSigns,List.length_map,e1,wi,hm,lp,hb]
theorem impl_read_bad(l:List Sg) (τ:Bool) (hg:GoodL l) (k:Nat) (hk:k < l.length) (g:Tm) (a:Nat) (nm':List Str) (d':Int)
 (hp:cw progA F.impl_parser_term [.b (.a [.i τ (l.map Sg.v),I k,.o 1 (List.map S ([]:List Str)),I ((0:Nat)),B false]),I 1200]=some (oT g,[.b (.a [.i τ (l.map Sg.v),I a,.o 1 (List.map S nm'),I (d'),B true]),I 1200])):
 cr progA F.impl_ReadSigns [.i τ (l.map Sg.v),I k]=some (.t [oT (.mk 0 [] 0 []),.o 1 [],I (behindS l k:Nat),B false]):=by
 have hlen:=hg.len
 have e1:w64 ((l.length:Int) - 1)=(l.length:Int) - 1:=by rw [w64_id]<;>omega
 have wi:=within_ok k 0 ((l.length:Int) - 1)
 rw [decide_eq_true ⟨by omega,by omega⟩]at wi
 have hm:(if 0 > (k:Int)then (0:Int)else (k:Int))=(k:Int):=by rw [if_neg (by omega)]
 simp only [List.map_nil,Int.natCast_zero]at hp
 have tk: ∀ x:Tm,(x.kids.map oT).take x.kids.length=x.kids.map oT:=fun x=>List.take_of_length_le (by simp)
 rw [cr_fn pA_impl_ReadSigns rfl,oT_leaf]
 rw [oT_mk]at hp
 rcases end_core l τ hlen k k (by omega)with lp|⟨hb,lp⟩
 ·simp only [go_sem,Nat.reduceAdd,Nat.reduceSub,Nat.reduceMul,Nat.reduceEqDiff,Nat.reduceLeDiff,Nat.reduceBEq,reduceCtorEq,A.impl_ReadSigns,List.length_map,e1,wi,hm,hp,tk,lp]
 ·simp only [go_sem,Nat.reduceAdd,Nat.reduceSub,Nat.reduceMul,Nat.reduceEqDiff,Nat.reduceLeDiff,Nat.reduceBEq,reduceCtorEq,A.impl_ReadSigns,List.length_map,e1,wi,hm,hp,tk,lp,hb]
theorem impl_read_no5(l:List Sg) (τ:Bool) (hg:GoodL l) (k:Nat) (hk:k < l.length) (t:Tm) (i':Nat) (hi:i'≤l.length) (nm':List Str) (hw:WT t)
 (hp:cw progA F.impl_parser_term [.b (.a [.i τ (l.map Sg.v),I k,.o 1 (List.map S ([]:List Str)),I ((0:Nat)),B false]),I 1200]=some (oT t,[.b (.a [.i τ (l.map Sg.v),I i',.o 1 (List.map S nm'),I ((0:Nat)),B false]),I 1200])) (h5:(sgD l i').kind ≠ 5):
 cr progA F.impl_ReadSigns [.i τ (l.map Sg.v),I k]=some (.t [oT (.mk 0 [] 0 []),.o 1 [],I (behindS l k:Nat),B false]):=by
 have hlen:=hg.len
 have e1:w64 ((l.length:Int) - 1)=(l.length:Int) - 1:=by rw [w64_id]<;>omega
 have wi:=within_ok k 0 ((l.length:Int) - 1)
 rw [decide_eq_true ⟨by omega,by omega⟩]at wi
 have hm:(if 0 > (k:Int)then (0:Int)else (k:Int))=(k:Int):=by rw [if_neg (by omega)]
 simp only [List.map_nil,Int.natCast_zero]at hp
 have tk: ∀ x:Tm,(x.kids.map oT).take x.kids.length=x.kids.map oT:=fun x=>List.take_of_length_le (by simp)
 have sg:=impl_sign_ok l τ hlen i' 0 (by omega) (by decide) (.i true (nm'.map S)) (0:Nat) false
 simp only [Nat.add_zero,Int.natCast_zero]at sg
 rw [Sg.v]at sg
 have d5:decide ((sgD l i').kind=5)=false:=decide_eq_false h5
 rw [cr_fn pA_impl_ReadSigns rfl,oT_leaf]
 rw [oT_mk]at hp
 rcases end_core l τ hlen k k (by omega)with lp|⟨hb,lp⟩
 ·simp only [go_sem,Nat.reduceAdd,Nat.reduceSub,Nat.reduceMul,Nat.reduceEqDiff,Nat.reduceLeDiff,Nat.reduceBEq,reduceCtorEq,A.impl_ReadSigns,List.length_map,e1,wi,hm,hp,tk,lp,sg,d5]
 ·simp only [go_sem,Nat.reduceAdd,Nat.reduceSub,Nat.reduceMul,Nat.reduceEqDiff,Nat.reduceLeDiff,Nat.reduceBEq,reduceCtorEq,A.impl_ReadSigns,List.length_map,e1,wi,hm,hp,tk,lp,hb,sg,d5]
theorem impl_read_nok(l:List Sg) (τ:Bool) (hg:GoodL l) (k:Nat) (hk:k < l.length) (t:Tm) (i':Nat) (hi:i'≤l.length) (nm':List Str) (hw:WT t)
 (hp:cw progA F.impl_parser_term [.b (.a [.i τ (l.map Sg.v),I k,.o 1 (List.map S ([]:List Str)),I ((0:Nat)),B false]),I 1200]=some (oT t,[.b (.a [.i τ (l.map Sg.v),I i',.o 1 (List.map S nm'),I ((0:Nat)),B false]),I 1200])) (h5:(sgD l i').kind=5) (hok:termOk t=false):
 cr progA F.impl_ReadSigns [.i τ (l.map Sg.v),I k]=some (.t [oT (.mk 0 [] 0 []),.o 1 [],I (behindS l k:Nat),B false]):=by
 have hlen:=hg.len
 have e1:w64 ((l.length:Int) - 1)=(l.length:Int) - 1:=by rw [w64_id]<;>omega
 have wi:=within_ok k 0 ((l.length:Int) - 1)
 rw [decide_eq_true ⟨by omega,by omega⟩]at wi
 have hm:(if 0 > (k:Int)then (0:Int)else (k:Int))=(k:Int):=by rw [if_neg (by omega)]
 simp only [List.map_nil,Int.natCast_zero]at hp
 have tk: ∀ x:Tm,(x.kids.map oT).take x.kids.length=x.kids.map oT:=fun x=>List.take_of_length_le (by simp)
 have sg:=impl_sign_ok l τ hlen i' 0 (by omega) (by decide) (.i true (nm'.map S)) (0:Nat) false
 simp only [Nat.add_zero,Int.natCast_zero]at sg
 rw [Sg.v]at sg
 rw [h5]at sg
 have ok:=impl_TermOk_ok t hw (iT true t) (BT_iT true t)
 rw [hok]at ok
 rw [iT_mk]at ok
 rw [cr_fn pA_impl_ReadSigns rfl,oT_leaf]
 rw [oT_mk]at hp
 rcases end_core l τ hlen k k (by omega)with lp|⟨hb,lp⟩
 ·simp only [go_sem,Nat.reduceAdd,Nat.reduceSub,Nat.reduceMul,Nat.reduceEqDiff,Nat.reduceLeDiff,Nat.reduceBEq,reduceCtorEq,A.impl_ReadSigns,List.length_map,e1,wi,hm,hp,tk,lp,sg,ok]
 ·simp only [go_sem,Nat.reduceAdd,Nat.reduceSub,Nat.reduceMul,Nat.reduceEqDiff,Nat.reduceLeDiff,Nat.reduceBEq,reduceCtorEq,A.impl_ReadSigns,List.length_map,e1,wi,hm,hp,tk,lp,hb,sg,ok]
def rV(r:Tm × List Str × Nat × Bool):V:= .t [oT r.1,.o 1 (r.2.1.map S),I (r.2.2.1:Nat),B r.2.2.2]
theorem impl_ReadSigns_ok(l:List Sg) (τ:Bool) (hg:GoodL l) (n:Int) (hn:n≤2^40):
 cr progA F.impl_ReadSigns [.i τ (l.map Sg.v),I n]=some (rV (readS l n)):=by
 have hlen:=hg.len
 unfold readS
 by_cases ho:0≤n∧n≤(l.length:Int) - 1
 ·rw [if_pos ho]
  obtain ⟨k,rfl⟩: ∃ k:Nat,n=k:=⟨n.toNat,by omega⟩
  have hk:k < l.length:=by omega
  obtain ⟨h1,h2⟩:=impl_term_ok l τ hg k (by omega)
  simp only [Int.toNat_natCast]
  cases hp:pT l 20000 k [] 0 1200 with
  |none=>
   obtain ⟨g,cs,⟨a,nm,d,ha,rfl⟩,hc⟩:=h2 hp
   exact impl_read_bad l τ hg k hk g a nm d hc
  |some r=>
   obtain ⟨t,i',nm'⟩:=r
   have hc:=h1 _ _ _ hp
   have adv:=(p_adv l 20000).1 _ _ _ _ _ _ _ hp
   have hw:=(p_WT l hg 20000).1 _ _ _ _ _ _ _ (by simp) (by omega) hp
   simp only
   by_cases h5:(sgD l i').kind=5
   ·cases hok:termOk t with
    |true=>
     rw [if_pos ⟨h5,rfl⟩]
     exact impl_read_good l τ hg k hk t i' adv.2 nm' hw hc h5 hok
    |false=>
     rw [if_neg (fun h=>by cases h.2)]
     exact impl_read_nok l τ hg k hk t i' adv.2 nm' hw hc h5 hok
   ·rw [if_neg (fun h=>h5 h.1)]
    exact impl_read_no5 l τ hg k hk t i' adv.2 nm' hw hc h5
 ·rw [if_neg ho]
  exact impl_read_out l τ hg n hn ho
end Go.Vm
set_option autoImplicit false
set_option maxHeartbeats 16000000
set_option maxRecDepth 100000
set_option linter.unusedSimpArgs false
set_option linter.unusedVariables false
namespace Go.Vm
theorem spec_read_out(l:List Sg) (τ:Bool) (hg:GoodL l) (n:Int) (hn:n≤2^40) (ho: ¬ (0≤n∧n≤(l.length:Int) - 1)):
 cr progA F.spec_ReadSigns [.i τ (l.map Sg.v),I n]=some (.t [oT (.mk 0 [] 0 []),.o 1 [],I (behindS l n:Nat),B false]):=by
 have hlen:=hg.len
 have bh:=spec_behind_ok l τ hlen n hn
 have e1:w64 ((l.length:Int) - 1)=(l.length:Int) - 1:=by rw [w64_id]<;>omega
 have wi:=l01In_ok n 0 ((l.length:Int) - 1)
 rw [decide_eq_false ho]at wi
 rw [cr_fn pA_spec_ReadSigns rfl,oT_leaf]
 simp only [go_sem,Nat.reduceAdd,Nat.reduceSub,Nat.reduceMul,Nat.reduceEqDiff,Nat.reduceLeDiff,Nat.reduceBEq,reduceCtorEq,A.spec_ReadSigns,List.length_map,bh,e1,wi]
theorem spec_read_bad(l:List Sg) (τ:Bool) (hg:GoodL l) (k:Nat) (hk:k < l.length) (g:Tm) (a:Nat) (ha:a≤2^30) (nm':List Str) (d':Int)
 (hp:cw progA F.spec_l06Read_term [.b (.a [.i τ (l.map Sg.v),I k,B false,I ((0:Nat)),.o 1 (List.map S ([]:List Str))]),I 1200]=some (oT g,[.b (.a [.i τ (l.map Sg.v),I a,B true,I (d'),.o 1 (List.map S nm')]),I 1200])):
 cr progA F.spec_ReadSigns [.i τ (l.map Sg.v),I k]=some (.t [oT (.mk 0 [] 0 []),.o 1 [],I (behindS l k:Nat),B false]):=by
 have hlen:=hg.len
 have bh:=spec_behind_ok l τ hlen k (by omega)
 have e1:w64 ((l.length:Int) - 1)=(l.length:Int) - 1:=by rw [w64_id]<;>omega
 have wi:=l01In_ok k 0 ((l.length:Int) - 1)
 rw [decide_eq_true ⟨by omega,by omega⟩]at wi
 simp only [List.map_nil,Int.natCast_zero]at hp
 have tk: ∀ x:Tm,(x.kids.map oT).take x.kids.length=x.kids.map oT:=fun x=>List.take_of_length_le (by simp)
 rw [oT_mk]at hp
 have i5:=spec_is_ok l τ hlen a (by omega) (.i true (nm'.map S)) d' true 5 []
 rw [cr_fn pA_spec_ReadSigns rfl,oT_leaf]
 simp only [go_sem,Nat.reduceAdd,Nat.reduceSub,Nat.reduceMul,Nat.reduceEqDiff,Nat.reduceLeDiff,Nat.reduceBEq,reduceCtorEq,A.spec_ReadSigns,List.length_map,bh,e1,wi,hp,tk,i5,Bool.not_true,Bool.false_and]
theorem spec_read_no5(l:List Sg) (τ:Bool) (hg:GoodL l) (k:Nat) (hk:k < l.length) (t:Tm) (i':Nat) (hi:i'≤l.length) (nm':List Str) (hw:WT t)
 (hp:cw progA F.spec_l06Read_term [.b (.a [.i τ (l.map Sg.v),I k,B false,I ((0:Nat)),.o 1 (List.map S ([]:List Str))]),I 1200]=some (oT t,[.b (.a [.i τ (l.map Sg.v),I i',B false,I ((0:Nat)),.o 1 (List.map S nm')]),I 1200])) (h5:(sgD l i').kind ≠ 5):
 cr progA F.spec_ReadSigns [.i τ (l.map Sg.v),I k]=some (.t [oT (.mk 0 [] 0 []),.o 1 [],I (behindS l k:Nat),B false]):=by
 have hlen:=hg.len
 have bh:=spec_behind_ok l τ hlen k (by omega)
 have e1:w64 ((l.length:Int) - 1)=(l.length:Int) - 1:=by rw [w64_id]<;>omega
 have wi:=l01In_ok k 0 ((l.length:Int) - 1)
 rw [decide_eq_true ⟨by omega,by omega⟩]at wi
 simp only [List.map_nil,Int.natCast_zero]at hp
 have tk: ∀ x:Tm,(x.kids.map oT).take x.kids.length=x.kids.map oT:=fun x=>List.take_of_length_le (by simp)
 rw [oT_mk]at hp
 have i5:=spec_is_ok l τ hlen i' (by omega) (.i true (nm'.map S)) (0:Nat) false 5 []
 rw [isK_kind l i' 5 (by decide)]at i5
 simp only [Int.natCast_zero]at i5
 rw [decide_eq_false h5]at i5
 rw [cr_fn pA_spec_ReadSigns rfl,oT_leaf]
 simp only [go_sem,Nat.reduceAdd,Nat.reduceSub,Nat.reduceMul,Nat.reduceEqDiff,Nat.reduceLeDiff,Nat.reduceBEq,reduceCtorEq,A.spec_ReadSigns,List.length_map,bh,e1,wi,hp,tk,i5,Bool.not_false,Bool.true_and]
theorem spec_read_nok(l:List Sg) (τ:Bool) (hg:GoodL l) (k:Nat) (hk:k < l.length) (t:Tm) (i':Nat) (hi:i'≤l.length) (nm':List Str) (hw:WT t)
 (hp:cw progA F.spec_l06Read_term [.b (.a [.i τ (l.map Sg.v),I k,B false,I ((0:Nat)),.o 1 (List.map S ([]:List Str))]),I 1200]=some (oT t,[.b (.a [.i τ (l.map Sg.v),I i',B false,I ((0:Nat)),.o 1 (List.map S nm')]),I 1200])) (h5:(sgD l i').kind=5) (hok:termOk t=false):
 cr progA F.spec_ReadSigns [.i τ (l.map Sg.v),I k]=some (.t [oT (.mk 0 [] 0 []),.o 1 [],I (behindS l k:Nat),B false]):=by
 have hlen:=hg.len
 have bh:=spec_behind_ok l τ hlen k (by omega)
 have e1:w64 ((l.length:Int) - 1)=(l.length:Int) - 1:=by rw [w64_id]<;>omega
 have wi:=l01In_ok k 0 ((l.length:Int) - 1)
 rw [decide_eq_true ⟨by omega,by omega⟩]at wi
 simp only [List.map_nil,Int.natCast_zero]at hp
 have tk: ∀ x:Tm,(x.kids.map oT).take x.kids.length=x.kids.map oT:=fun x=>List.take_of_length_le (by simp)
 rw [oT_mk]at hp
 have i5:=spec_is_ok l τ hlen i' (by omega) (.i true (nm'.map S)) (0:Nat) false 5 []
 rw [isK_kind l i' 5 (by decide)]at i5
 simp only [Int.natCast_zero]at i5
 rw [decide_eq_true h5]at i5
 have ok:=spec_TermOk_ok t hw (iT true t) (BT_iT true t)
 rw [hok]at ok
 rw [iT_mk]at ok
 rw [cr_fn pA_spec_ReadSigns rfl,oT_leaf]
 simp only [go_sem,Nat.reduceAdd,Nat.reduceSub,Nat.reduceMul,Nat.reduceEqDiff,Nat.reduceLeDiff,Nat.reduceBEq,reduceCtorEq,A.spec_ReadSigns,List.length_map,bh,e1,wi,hp,tk,i5,ok,Bool.not_false,Bool.true_and]
theorem spec_read_good(l:List Sg) (τ:Bool) (hg:GoodL l) (k:Nat) (hk:k < l.length) (t:Tm) (i':Nat) (hi:i'≤l.length) (nm':List Str) (hw:WT t)
 (hp:cw progA F.spec_l06Read_term [.b (.a [.i τ (l.map Sg.v),I k,B false,I ((0:Nat)),.o 1 (List.map S ([]:List Str))]),I 1200]=some (oT t,[.b (.a [.i τ (l.map Sg.v),I i',B false,I ((0:Nat)),.o 1 (List.map S nm')]),I 1200])) (hn:nm'.length≤2^30) (h5:(sgD l i').kind=5) (hok:termOk t=true):
 cr progA F.spec_ReadSigns [.i τ (l.map Sg.v),I k]=some (.t [oT t,.o 1 (nm'.map S),I ((i'+1:Nat):Int),B true]):=by
 have hlen:=hg.len
 have bh:=spec_behind_ok l τ hlen k (by omega)
 have e1:w64 ((l.length:Int) - 1)=(l.length:Int) - 1:=by rw [w64_id]<;>omega
 have wi:=l01In_ok k 0 ((l.length:Int) - 1)
 rw [decide_eq_true ⟨by omega,by omega⟩]at wi
 simp only [List.map_nil,Int.natCast_zero]at hp
 have tk: ∀ x:Tm,(x.kids.map oT).take x.kids.length=x.kids.map oT:=fun x=>List.take_of_length_le (by simp)
 rw [oT_mk]at hp
 have i5:=spec_is_ok l τ hlen i' (by omega) (.i true (nm'.map S)) (0:Nat) false 5 []
 rw [isK_kind l i' 5 (by decide)]at i5
 simp only [Int.natCast_zero]at i5
 rw [decide_eq_true h5]at i5
 have ok:=spec_TermOk_ok t hw (iT true t) (BT_iT true t)
 rw [hok]at ok
 rw [iT_mk]at ok
 have e2:w64 ((i':Int)+1)=((i'+1:Nat):Int):=by rw [w64_id]<;>omega
 have z1:zeroBL (nm'.map S)=true:=zeroBL_map (f:=S) (fun _=>rfl) nm'
 have z2:allOne 1 (nm'.map S)=true:=allOne_map (f:=S) (fun _=>⟨rfl,rfl⟩) nm'
 have l1:decide (nm'.length*16≤lim)=true:=decide_eq_true (by rw [lim_val];omega)
 have l2:decide (nm'.length≤lim)=true:=decide_eq_true (by rw [lim_val];omega)
 have tk2:(nm'.map S).take nm'.length=nm'.map S:=List.take_of_length_le (by simp)
 rw [cr_fn pA_spec_ReadSigns rfl,oT_mk]
 simp only [go_sem,Nat.reduceAdd,Nat.reduceSub,Nat.reduceMul,Nat.reduceEqDiff,Nat.reduceLeDiff,Nat.reduceBEq,reduceCtorEq,A.spec_ReadSigns,List.length_map,bh,e1,wi,hp,tk,i5,ok,e2,l1,l2,z1,z2,tk2,Bool.not_false,Bool.true_and,Nat.zero_add,List.nil_append,List.length_nil]
theorem spec_ReadSigns_ok(l:List Sg) (τ:Bool) (hg:GoodL l) (n:Int) (hn:n≤2^40):
 cr progA F.spec_ReadSigns [.i τ (l.map Sg.v),I n]=some (rV (readS l n)):=by
 have hlen:=hg.len
 unfold readS
 by_cases ho:0≤n∧n≤(l.length:Int) - 1
 ·rw [if_pos ho]
  obtain ⟨k,rfl⟩: ∃ k:Nat,n=k:=⟨n.toNat,by omega⟩
  have hk:k < l.length:=by omega
  obtain ⟨h1,h2⟩:=spec_term_ok l τ hg k (by omega)
  simp only [Int.toNat_natCast]
  cases hp:pT l 20000 k [] 0 1200 with
  |none=>
   obtain ⟨g,cs,⟨a,nm,d,ha,rfl⟩,hc⟩:=h2 hp
   exact spec_read_bad l τ hg k hk g a (by omega) nm d hc
  |some r=>
   obtain ⟨t,i',nm'⟩:=r
   have hc:=h1 _ _ _ hp
   have adv:=(p_adv l 20000).1 _ _ _ _ _ _ _ hp
   have nl:=(p_nlen l 20000).1 _ _ _ _ _ _ _ hp
   simp only [List.length_nil]at nl
   have hw:=(p_WT l hg 20000).1 _ _ _ _ _ _ _ (by simp) (by omega) hp
   simp only
   by_cases h5:(sgD l i').kind=5
   ·cases hok:termOk t with
    |true=>
     rw [if_pos ⟨h5,rfl⟩]
     exact spec_read_good l τ hg k hk t i' adv.2 nm' hw hc (by omega) h5 hok
    |false=>
     rw [if_neg (fun h=>by cases h.2)]
     exact spec_read_nok l τ hg k hk t i' adv.2 nm' hw hc h5 hok
   ·rw [if_neg (fun h=>h5 h.1)]
    exact spec_read_no5 l τ hg k hk t i' adv.2 nm' hw hc h5
 ·rw [if_neg ho]
  exact spec_read_out l τ hg n hn ho
end Go.Vm
set_option autoImplicit false
set_option maxHeartbeats 16000000
set_option maxRecDepth 100000
set_option linter.unusedSimpArgs false
set_option linter.unusedVariables false
namespace Go.Vm
theorem readS_end(l:List Sg) (k:Nat) (hk:k < l.length):k < (readS l k).2.2.1∧(readS l k).2.2.1≤l.length+1:=by
 have hb:k < behindS l k∧behindS l k≤l.length:=by
  unfold behindS
  have h0:(max (k:Int) 0).toNat=k:=by omega
  rw [h0,if_pos hk]
  cases hd:l.drop k with
  |nil=>have:=congrArg List.length hd;rw [List.length_drop,List.length_nil]at this;omega
  |cons x r=>
   have hl:=congrArg List.length hd
   rw [List.length_drop,List.length_cons]at hl
   have:=bhd_bd r (k+1)
   simp only [bhd]
   split<;>omega
 unfold readS
 split
 ·split
  ·rename_i t i' nm' hp
   have adv:=(p_adv l 20000).1 _ _ _ _ _ _ _ hp
   simp only [Int.toNat_natCast]at adv
   split
   ·simp only;omega
   ·simp only;omega
  ·simp only;omega
 ·simp only;omega
def allS(l:List Sg):Nat→Nat→List Tm→Nat→List Tm × Nat
 |0,_,ts,b=>(ts,b)
 |n+1,k,ts,b=>if k < l.length then
  if (readS l k).2.2.2=true then allS l n (readS l k).2.2.1 (ts++[(readS l k).1]) b else allS l n (readS l k).2.2.1 ts (b+1)
  else (ts,b)
theorem implAll_loop(l:List Sg) (hg:GoodL l): ∀ (n k:Nat) (ts:List Tm) (b:Nat),l.length+2≤k+n→ts.length≤k→b≤k→k≤l.length+1→
 lw progA L.impl_ReadAll_0 ⟨[(4,.s (100000,0) 0 l.length),(6,.s (100000,1) 0 ts.length),(7,I b),(8,I k)],[((100000,0),5,l.map Sg.v),((100000,1),4,ts.map oT)]⟩=some (.exit 0,⟨[(6,.s (100000,1) 0 (allS l n k ts b).1.length),(7,I ((allS l n k ts b).2:Nat))],[((100000,0),5,l.map Sg.v),((100000,1),4,(allS l n k ts b).1.map oT)]⟩)
 |0,k,ts,b,hn,ht,hb,hk=>by omega
 |n+1,k,ts,b,hn,ht,hb,hk=>by
  have hlen:=hg.len
  have tk3:(l.map Sg.v).take l.length=l.map Sg.v:=List.take_of_length_le (by simp)
  have tk2:(ts.map oT).take ts.length=ts.map oT:=List.take_of_length_le (by simp)
  by_cases h:k < l.length
  ·have h1:(k:Int) < (l.length:Int):=by omega
   have he:=readS_end l k h
   have rd:=impl_ReadSigns_ok l true hg k (by omega)
   unfold rV at rd
   have l1:decide ((ts.length+1)*56≤lim)=true:=decide_eq_true (by rw [lim_val];omega)
   have l2:decide (ts.length+1≤lim)=true:=decide_eq_true (by rw [lim_val];omega)
   have eb:w64 ((b:Int)+1)=((b+1:Nat):Int):=by rw [w64_id]<;>omega
   have rp:=fun k' ob (y:V) (ys:List V)=>repEs_app k' ob (ts.map oT) (y::ys) (clEs_mT _)
   have tk: ∀ x:Tm,(x.kids.map oT).take x.kids.length=x.kids.map oT:=fun x=>List.take_of_length_le (by simp)
   cases hok:(readS l k).2.2.2 with
   |true=>
    have ih:=implAll_loop l hg n (readS l k).2.2.1 (ts++[(readS l k).1]) b (by omega) (by simp only [List.length_append,List.length_cons,List.length_nil];omega) (by omega) (by omega)
    simp only [allS,if_pos h,hok,if_true]
    rw [← ih]
    rw [hok,oT_mk (readS l k).1]at rd
    simp only [List.map_append,List.map_cons,List.map_nil,List.length_append,List.length_cons,List.length_nil,oT_mk (readS l k).1]
    rw [lw_eq]
    simp only [go_sem,Nat.reduceAdd,Nat.reduceSub,Nat.reduceMul,Nat.reduceEqDiff,Nat.reduceLeDiff,Nat.reduceBEq,reduceCtorEq,LB.impl_ReadAll_0,List.length_map,h1,rd,l1,l2,rp,Option.map_some,mapE_cat,tk,tk2,tk3]
   |false=>
    have ih:=implAll_loop l hg n (readS l k).2.2.1 ts (b+1) (by omega) (by omega) (by omega) (by omega)
    simp only [allS,if_pos h,hok,Bool.false_eq_true,if_false]
    rw [← ih]
    rw [hok,oT_mk (readS l k).1]at rd
    rw [lw_eq]
    simp only [go_sem,Nat.reduceAdd,Nat.reduceSub,Nat.reduceMul,Nat.reduceEqDiff,Nat.reduceLeDiff,Nat.reduceBEq,reduceCtorEq,LB.impl_ReadAll_0,List.length_map,h1,rd,eb,tk,tk2,tk3]
  ·have h1: ¬ (k:Int) < (l.length:Int):=by omega
   simp only [allS,if_neg h]
   rw [lw_eq]
   simp only [go_sem,Nat.reduceAdd,Nat.reduceSub,Nat.reduceMul,Nat.reduceEqDiff,Nat.reduceLeDiff,Nat.reduceBEq,reduceCtorEq,LB.impl_ReadAll_0,List.length_map,h1]
theorem specAll_loop(l:List Sg) (hg:GoodL l): ∀ (n k:Nat) (ts:List Tm) (b:Nat),l.length+2≤k+n→ts.length≤k→b≤k→k≤l.length+1→
 lw progA L.spec_ReadAll_0 ⟨[(4,.s (100000,0) 0 ts.length),(5,I b),(6,.s (100000,1) 0 l.length),(8,I k)],[((100000,0),4,ts.map oT),((100000,1),5,l.map Sg.v)]⟩=some (.exit 0,⟨[(4,.s (100000,0) 0 (allS l n k ts b).1.length),(5,I ((allS l n k ts b).2:Nat))],[((100000,0),4,(allS l n k ts b).1.map oT),((100000,1),5,l.map Sg.v)]⟩)
 |0,k,ts,b,hn,ht,hb,hk=>by omega
 |n+1,k,ts,b,hn,ht,hb,hk=>by
  have hlen:=hg.len
  have tk3:(l.map Sg.v).take l.length=l.map Sg.v:=List.take_of_length_le (by simp)
  have tk2:(ts.map oT).take ts.length=ts.map oT:=List.take_of_length_le (by simp)
  by_cases h:k < l.length
  ·have h1:(k:Int) < (l.length:Int):=by omega
   have he:=readS_end l k h
   have rd:=spec_ReadSigns_ok l true hg k (by omega)
   unfold rV at rd
   have l1:decide ((ts.length+1)*56≤lim)=true:=decide_eq_true (by rw [lim_val];omega)
   have l2:decide (ts.length+1≤lim)=true:=decide_eq_true (by rw [lim_val];omega)
   have eb:w64 ((b:Int)+1)=((b+1:Nat):Int):=by rw [w64_id]<;>omega
   have rp:=fun k' ob (y:V) (ys:List V)=>repEs_app k' ob (ts.map oT) (y::ys) (clEs_mT _)
   have tk: ∀ x:Tm,(x.kids.map oT).take x.kids.length=x.kids.map oT:=fun x=>List.take_of_length_le (by simp)
   cases hok:(readS l k).2.2.2 with
   |true=>
    have ih:=specAll_loop l hg n (readS l k).2.2.1 (ts++[(readS l k).1]) b (by omega) (by simp only [List.length_append,List.length_cons,List.length_nil];omega) (by omega) (by omega)
    simp only [allS,if_pos h,hok,if_true]
    rw [← ih]
    rw [hok,oT_mk (readS l k).1]at rd
    simp only [List.map_append,List.map_cons,List.map_nil,List.length_append,List.length_cons,List.length_nil,oT_mk (readS l k).1]
    rw [lw_eq]
    simp only [go_sem,Nat.reduceAdd,Nat.reduceSub,Nat.reduceMul,Nat.reduceEqDiff,Nat.reduceLeDiff,Nat.reduceBEq,reduceCtorEq,LB.spec_ReadAll_0,List.length_map,h1,rd,l1,l2,rp,Option.map_some,mapE_cat,tk,tk2,tk3]
   |false=>
    have ih:=specAll_loop l hg n (readS l k).2.2.1 ts (b+1) (by omega) (by omega) (by omega) (by omega)
    simp only [allS,if_pos h,hok,Bool.false_eq_true,if_false]
    rw [← ih]
    rw [hok,oT_mk (readS l k).1]at rd
    rw [lw_eq]
    simp only [go_sem,Nat.reduceAdd,Nat.reduceSub,Nat.reduceMul,Nat.reduceEqDiff,Nat.reduceLeDiff,Nat.reduceBEq,reduceCtorEq,LB.spec_ReadAll_0,List.length_map,h1,rd,eb,tk,tk2,tk3]
  ·have h1: ¬ (k:Int) < (l.length:Int):=by omega
   simp only [allS,if_neg h]
   rw [lw_eq]
   simp only [go_sem,Nat.reduceAdd,Nat.reduceSub,Nat.reduceMul,Nat.reduceEqDiff,Nat.reduceLeDiff,Nat.reduceBEq,reduceCtorEq,LB.spec_ReadAll_0,List.length_map,h1]
theorem good_of {s:Str} (h:s.length≤3000):GoodL (signs s):=good_signs h
def allOf(s:Str):List Tm × Nat:=if s.length≤3000 then allS (signs s) ((signs s).length+2) 0 [] 0 else ([],0)
theorem impl_ReadAll_ok(s:Str):cr progA F.impl_ReadAll [S s]=some (.t [.o 4 ((allOf s).1.map oT),I ((allOf s).2:Nat)]):=by
 have sg:=impl_SignsOf_ok s
 unfold signsV at sg
 unfold allOf
 rw [cr_fn pA_impl_ReadAll rfl]
 by_cases hl:s.length≤3000
 ·rw [if_pos hl]at sg
  rw [if_pos hl]
  have lp:=implAll_loop (signs s) (good_of hl) ((signs s).length+2) 0 [] 0 (by omega) (by simp) (by omega) (by omega)
  simp only [List.map_nil,List.length_nil,Int.natCast_zero]at lp
  have tk2: ∀ ts:List Tm,(ts.map oT).take ts.length=ts.map oT:=fun ts=>List.take_of_length_le (by simp)
  simp only [go_sem,Nat.reduceAdd,Nat.reduceSub,Nat.reduceMul,Nat.reduceEqDiff,Nat.reduceLeDiff,Nat.reduceBEq,reduceCtorEq,A.impl_ReadAll,sg,lp,tk2,List.length_map]
 ·rw [if_neg hl]at sg
  rw [if_neg hl]
  have g0:GoodL []:=⟨by simp,fun i h=>by simp [sgD,sg0]at h,fun i h=>by simp [sgD,sg0]at h,fun i=>by simp [sgD,sg0],fun i=>by simp [sgD,sg0],fun i=>by simp [sgD,sg0]⟩
  have lp:=implAll_loop [] g0 2 0 [] 0 (by simp) (by simp) (by omega) (by simp)
  simp only [List.map_nil,List.length_nil,Int.natCast_zero,allS,Nat.lt_irrefl,if_false]at lp
  simp only [go_sem,Nat.reduceAdd,Nat.reduceSub,Nat.reduceMul,Nat.reduceEqDiff,Nat.reduceLeDiff,Nat.reduceBEq,reduceCtorEq,A.impl_ReadAll,sg,lp,List.map_nil,List.length_nil,Int.natCast_zero]
theorem spec_ReadAll_ok(s:Str):cr progA F.spec_ReadAll [S s]=some (.t [.o 4 ((allOf s).1.map oT),I ((allOf s).2:Nat)]):=by
 have sg:=spec_SignsOf_ok s
 unfold signsV at sg
 unfold allOf
 rw [cr_fn pA_spec_ReadAll rfl]
 by_cases hl:s.length≤3000
 ·rw [if_pos hl]at sg
  rw [if_pos hl]
  have lp:=specAll_loop (signs s) (good_of hl) ((signs s).length+2) 0 [] 0 (by omega) (by simp) (by omega) (by omega)
  simp only [List.map_nil,List.length_nil,Int.natCast_zero]at lp
  have tk2: ∀ ts:List Tm,(ts.map oT).take ts.length=ts.map oT:=fun ts=>List.take_of_length_le (by simp)
  simp only [go_sem,Nat.reduceAdd,Nat.reduceSub,Nat.reduceMul,Nat.reduceEqDiff,Nat.reduceLeDiff,Nat.reduceBEq,reduceCtorEq,A.spec_ReadAll,sg,lp,tk2,List.length_map]
 ·rw [if_neg hl]at sg
  rw [if_neg hl]
  have g0:GoodL []:=⟨by simp,fun i h=>by simp [sgD,sg0]at h,fun i h=>by simp [sgD,sg0]at h,fun i=>by simp [sgD,sg0],fun i=>by simp [sgD,sg0],fun i=>by simp [sgD,sg0]⟩
  have lp:=specAll_loop [] g0 2 0 [] 0 (by simp) (by simp) (by omega) (by simp)
  simp only [List.map_nil,List.length_nil,Int.natCast_zero,allS,Nat.lt_irrefl,if_false]at lp
  simp only [go_sem,Nat.reduceAdd,Nat.reduceSub,Nat.reduceMul,Nat.reduceEqDiff,Nat.reduceLeDiff,Nat.reduceBEq,reduceCtorEq,A.spec_ReadAll,sg,lp,List.map_nil,List.length_nil,Int.natCast_zero]
end Go.Vm
set_option autoImplicit false
set_option maxHeartbeats 16000000
set_option maxRecDepth 100000
set_option linter.unusedSimpArgs false
set_option linter.unusedVariables false
namespace Go.Vm
theorem has_loop(τ:Bool) (nm:List Str) (s:Str) (hl:nm.length≤2^40): ∀ (r:List Str) (k:Nat),nm.drop k=r→k+r.length=nm.length→
 lw progA L.spec_l23Has_0 ⟨[(0,.i τ (nm.map S)),(1,S s),(5,I k)],[]⟩=(if s ∈ r then some (.ret,⟨[(4,B true)],[]⟩)else some (.exit 0,⟨[],[]⟩))
 |[],k,h,hk=>by
  have h1: ¬ (k:Int) < (nm.length:Int):=by simp only [List.length_nil]at hk;omega
  rw [if_neg (by simp),lw_eq]
  simp only [go_sem,Nat.reduceAdd,Nat.reduceSub,Nat.reduceMul,Nat.reduceEqDiff,Nat.reduceLeDiff,Nat.reduceBEq,reduceCtorEq,LB.spec_l23Has_0,List.length_map,h1]
 |x::r,k,h,hk=>by
  simp only [List.length_cons]at hk
  have hx:nm[k]? =some x:=by
   have:=congrArg (fun z=>z[0]?) h
   simpa using this
  have hd:nm.drop (k+1)=r:=by
   have:=congrArg (fun z=>z.drop 1) h
   simpa [List.drop_drop,Nat.add_comm]using this
  have h1:(k:Int) < (nm.length:Int):=by omega
  have e1:w64 ((k:Int)+1)=((k+1:Nat):Int):=by rw [w64_id]<;>omega
  have g:=getmap (f:=S) hx
  have a1:=fun T=>addr_i (τ:=τ) (T:=T) (e:=1) g rfl
  by_cases h5:x=s
  ·have d5:decide (x=s)=true:=decide_eq_true h5
   rw [if_pos (by rw [h5];exact List.mem_cons_self)]
   rw [lw_eq]
   simp only [go_sem,Nat.reduceAdd,Nat.reduceSub,Nat.reduceMul,Nat.reduceEqDiff,Nat.reduceLeDiff,Nat.reduceBEq,reduceCtorEq,LB.spec_l23Has_0,List.length_map,h1,e1,g,a1,d5]
  ·have d5:decide (x=s)=false:=decide_eq_false h5
   have ih:=has_loop τ nm s hl r (k+1) hd (by omega)
   have ex:(s ∈ x::r)↔(s ∈ r):=by
    rw [List.mem_cons]
    exact ⟨fun h=>h.elim (fun e=>absurd e.symm h5) id,.inr⟩
   simp only [ex]
   rw [← ih,lw_eq]
   simp only [go_sem,Nat.reduceAdd,Nat.reduceSub,Nat.reduceMul,Nat.reduceEqDiff,Nat.reduceLeDiff,Nat.reduceBEq,reduceCtorEq,LB.spec_l23Has_0,List.length_map,h1,e1,g,a1,d5]
theorem l23Has_ok(τ:Bool) (nm:List Str) (s:Str) (hl:nm.length≤2^40):cr progA F.spec_l23Has [.i τ (nm.map S),S s]=some (B (decide (s ∈ nm))):=by
 have lp:=has_loop τ nm s hl nm 0 rfl (by omega)
 simp only [Int.natCast_zero]at lp
 rw [cr_fn pA_spec_l23Has rfl]
 by_cases h:s ∈ nm
 ·rw [if_pos h]at lp
  rw [decide_eq_true h]
  simp only [go_sem,Nat.reduceAdd,Nat.reduceSub,Nat.reduceMul,Nat.reduceEqDiff,Nat.reduceLeDiff,Nat.reduceBEq,reduceCtorEq,A.spec_l23Has,lp]
 ·rw [if_neg h]at lp
  rw [decide_eq_false h]
  simp only [go_sem,Nat.reduceAdd,Nat.reduceSub,Nat.reduceMul,Nat.reduceEqDiff,Nat.reduceLeDiff,Nat.reduceBEq,reduceCtorEq,A.spec_l23Has,lp]
def onceS(nm:List Str) (s:Str):List Str:=if s ∈ nm then nm else nm++[s]
theorem impl_once_ok(nm:List Str) (s:Str) (hl:nm.length≤2^20):cw progA F.impl_once [.o 1 (nm.map S),S s]=some (.o 1 ((onceS nm s).map S),[.d,S s]):=by
 have h:=ContainsS_ok true nm s (by omega)
 have l1:decide ((nm.length+1)*16≤lim)=true:=decide_eq_true (by rw [lim_val];omega)
 have l2:decide (nm.length+1≤lim)=true:=decide_eq_true (by rw [lim_val];omega)
 have tk:(nm.map S).take nm.length=nm.map S:=List.take_of_length_le (by simp)
 have tk2:((nm++[s]).map S).take (nm.length+1)=(nm++[s]).map S:=List.take_of_length_le (by simp)
 rw [cw_fn pA_impl_once rfl]
 unfold onceS
 by_cases hm:s ∈ nm
 ·rw [decide_eq_true hm]at h
  rw [if_pos hm]
  simp only [go_sem,Nat.reduceAdd,Nat.reduceSub,Nat.reduceMul,Nat.reduceEqDiff,Nat.reduceLeDiff,Nat.reduceBEq,reduceCtorEq,A.impl_once,finish,h,tk,List.length_map]
 ·rw [decide_eq_false hm]at h
  rw [if_neg hm]
  simp only [go_sem,Nat.reduceAdd,Nat.reduceSub,Nat.reduceMul,Nat.reduceEqDiff,Nat.reduceLeDiff,Nat.reduceBEq,reduceCtorEq,A.impl_once,finish,h,tk,tk2,l1,l2,List.length_map]
theorem l23Add_ok(nm:List Str) (s:Str) (hl:nm.length≤2^20):cw progA F.spec_l23Add [.o 1 (nm.map S),S s]=some (.o 1 ((onceS nm s).map S),[(if s ∈ nm then .d else .o 1 (nm.map S)),S s]):=by
 have h:=l23Has_ok true nm s (by omega)
 have l1:decide ((nm.length+1)*16≤lim)=true:=decide_eq_true (by rw [lim_val];omega)
 have l2:decide (nm.length+1≤lim)=true:=decide_eq_true (by rw [lim_val];omega)
 have l3:decide (nm.length*16≤lim)=true:=decide_eq_true (by rw [lim_val];omega)
 have l4:decide (nm.length≤lim)=true:=decide_eq_true (by rw [lim_val];omega)
 have z1:zeroBL (nm.map S)=true:=zeroBL_map (f:=S) (fun _=>rfl) nm
 have z2:allOne 1 (nm.map S)=true:=allOne_map (f:=S) (fun _=>⟨rfl,rfl⟩) nm
 have tk:(nm.map S).take nm.length=nm.map S:=List.take_of_length_le (by simp)
 have tk2:((nm++[s]).map S).take (nm.length+1)=(nm++[s]).map S:=List.take_of_length_le (by simp)
 rw [cw_fn pA_spec_l23Add rfl]
 unfold onceS
 by_cases hm:s ∈ nm
 ·rw [decide_eq_true hm]at h
  rw [if_pos hm,if_pos hm]
  simp only [go_sem,Nat.reduceAdd,Nat.reduceSub,Nat.reduceMul,Nat.reduceEqDiff,Nat.reduceLeDiff,Nat.reduceBEq,reduceCtorEq,A.spec_l23Add,finish,h,tk,List.length_map]
 ·rw [decide_eq_false hm]at h
  rw [if_neg hm,if_neg hm]
  simp only [go_sem,Nat.reduceAdd,Nat.reduceSub,Nat.reduceMul,Nat.reduceEqDiff,Nat.reduceLeDiff,Nat.reduceBEq,reduceCtorEq,A.spec_l23Add,finish,h,tk,tk2,l1,l2,l3,l4,z1,z2,List.length_map,Nat.zero_add,List.nil_append,List.length_nil]
def incT(t:Tm):Option Str:=
 if isStr t [58,45] 1=true then
  match t.kids with
  |[x]=>if isStr x [105,110,99,108,117,100,101] 1=true then
   match x.kids with
   |[y]=>if y.kind=2 then some y.name else none
   |_=>none
   else none
  |_=>none
 else none
def addI(nm:List Str) (t:Tm):List Str:=match incT t with|some s=>onceS nm s|none=>nm
theorem isStr_one {t:Tm} {s:Str} (h:isStr t s 1=true): ∃ x,t.kids=[x]:=by
 unfold isStr at h
 simp only [Bool.and_eq_true,decide_eq_true_eq]at h
 have h3:t.kids.length=1:=by omega
 exact List.length_eq_one_iff.1 h3
theorem impl_inc_step(xs zs:List Tm) (t:Tm) (n k:Nat) (hk:xs.length=k) (hn:xs.length+1+zs.length=n) (hn3:n≤2^20) (nm:List Str) (hm:nm.length≤2^19):
 lw progA L.impl_IncludesIn_0 ⟨[(5,.s (100000,0) 0 (nm).length),(13,.s (100000,1) 0 n),(14,I n),(15,I k)],[((100000,0),1,(nm).map S),((100000,1),4,xs.map oT++oT t::zs.map oT)]⟩=lw progA L.impl_IncludesIn_0 ⟨[(5,.s (100000,0) 0 ((addI nm t)).length),(13,.s (100000,1) 0 n),(14,I n),(15,I ((k+1:Nat):Int))],[((100000,0),1,((addI nm t)).map S),((100000,1),4,xs.map oT++oT t::zs.map oT)]⟩:=by
 have h1:(k:Int) < (n:Int):=by omega
 have hlen:(xs.map oT).length=k:=by rw [List.length_map];exact hk
 have e1:w64 ((k:Int)+1)=((k+1:Nat):Int):=by rw [w64_id]<;>omega
 have ix:=fun y=>ixO_some (k:=(100000,1)) (e:=4) (xs:=xs.map oT++y::zs.map oT) (i:=k) (len:=n) (by omega) (by simp only [List.length_append,List.length_map,List.length_cons];omega)
 have cg:=fun y zs=>cell_get (xs.map oT) y zs k hlen
 have cs:=fun y y' zs=>cell_set (xs.map oT) y y' zs k hlen
 have rp:=fun k' ob (y:V) (ys:List V)=>repEs_app k' ob (xs.map oT) (y::ys) (clEs_mT _)
 have tk: ∀ x:Tm,(x.kids.map oT).take x.kids.length=x.kids.map oT:=fun x=>List.take_of_length_le (by simp)
 have tkn:(nm.map S).take nm.length=nm.map S:=List.take_of_length_le (by simp)
 have i1:=impl_isStruct_ok t (iT true t) (BT_iT true t) [58,45] 1
 rw [iT_mk]at i1
 unfold addI incT
 rw [oT_mk t]
 cases h2:isStr t [58,45] 1 with
 |false=>
  rw [h2]at i1
  simp only [Bool.false_eq_true,if_false]
  rw [lw_eq]
  simp only [go_sem,Nat.reduceAdd,Nat.reduceSub,Nat.reduceMul,Nat.reduceEqDiff,Nat.reduceLeDiff,Nat.reduceBEq,reduceCtorEq,LB.impl_IncludesIn_0,h1,ix,cg,cs,rp,Option.map_some,mapE_cat,tk,i1,e1]
 |true=>
  obtain ⟨x,hx⟩:=isStr_one h2
  rw [h2]at i1
  have i2:=impl_isStruct_ok x (iT true x) (BT_iT true x) [105,110,99,108,117,100,101] 1
  rw [iT_mk]at i2
  simp only [if_true,hx]
  rw [hx]at i1
  simp only [List.map_cons,List.map_nil,iT_mk true x]at i1
  cases h3:isStr x [105,110,99,108,117,100,101] 1 with
  |false=>
   rw [h3]at i2
   simp only [Bool.false_eq_true,if_false,List.map_cons,List.map_nil,oT_mk x,List.length_cons,List.length_nil]
   rw [lw_eq]
   simp only [go_sem,Nat.reduceAdd,Nat.reduceSub,Nat.reduceMul,Nat.reduceEqDiff,Nat.reduceLeDiff,Nat.reduceBEq,reduceCtorEq,LB.impl_IncludesIn_0,h1,ix,cg,cs,rp,Option.map_some,mapE_cat,tk,i1,i2,e1,oT_mk x]
  |true=>
   obtain ⟨y,hy⟩:=isStr_one h3
   rw [h3,hy]at i2
   rw [hy]at i1
   simp only [List.map_cons,List.map_nil,iT_mk true y]at i1 i2
   simp only [if_true,hy,List.map_cons,List.map_nil,oT_mk x,oT_mk y,List.length_cons,List.length_nil]
   by_cases h4:y.kind=2
   ·have d4:decide (y.kind=2)=true:=decide_eq_true h4
    rw [if_pos h4]
    simp only
    have on:=impl_once_ok nm y.name (by omega)
    have tko:((onceS nm y.name).map S).take (onceS nm y.name).length=(onceS nm y.name).map S:=List.take_of_length_le (by simp)
    rw [lw_eq]
    simp only [go_sem,Nat.reduceAdd,Nat.reduceSub,Nat.reduceMul,Nat.reduceEqDiff,Nat.reduceLeDiff,Nat.reduceBEq,reduceCtorEq,LB.impl_IncludesIn_0,h1,ix,cg,cs,rp,Option.map_some,mapE_cat,tk,tkn,tko,i1,i2,e1,d4,on,oT_mk x,oT_mk y]
   ·have d4:decide (y.kind=2)=false:=decide_eq_false h4
    rw [if_neg h4]
    simp only
    rw [lw_eq]
    simp only [go_sem,Nat.reduceAdd,Nat.reduceSub,Nat.reduceMul,Nat.reduceEqDiff,Nat.reduceLeDiff,Nat.reduceBEq,reduceCtorEq,LB.impl_IncludesIn_0,h1,ix,cg,cs,rp,Option.map_some,mapE_cat,tk,i1,i2,e1,d4,oT_mk x,oT_mk y]
theorem spec_inc_step(xs zs:List Tm) (t:Tm) (n k:Nat) (hk:xs.length=k) (hn:xs.length+1+zs.length=n) (hn3:n≤2^20) (nm:List Str) (hm:nm.length≤2^19):
 lw progA L.spec_IncludesIn_0 ⟨[(3,.s (100000,0) 0 (nm).length),(4,.s (100000,1) 0 n),(6,I k)],[((100000,0),1,(nm).map S),((100000,1),4,xs.map oT++oT t::zs.map oT)]⟩=lw progA L.spec_IncludesIn_0 ⟨[(3,.s (100000,0) 0 ((addI nm t)).length),(4,.s (100000,1) 0 n),(6,I ((k+1:Nat):Int))],[((100000,0),1,((addI nm t)).map S),((100000,1),4,xs.map oT++oT t::zs.map oT)]⟩:=by
 have h1:(k:Int) < (n:Int):=by omega
 have hlen:(xs.map oT).length=k:=by rw [List.length_map];exact hk
 have e1:w64 ((k:Int)+1)=((k+1:Nat):Int):=by rw [w64_id]<;>omega
 have ix:=fun y=>ixO_some (k:=(100000,1)) (e:=4) (xs:=xs.map oT++y::zs.map oT) (i:=k) (len:=n) (by omega) (by simp only [List.length_append,List.length_map,List.length_cons];omega)
 have cg:=fun y zs=>cell_get (xs.map oT) y zs k hlen
 have cs:=fun y y' zs=>cell_set (xs.map oT) y y' zs k hlen
 have rp:=fun k' ob (y:V) (ys:List V)=>repEs_app k' ob (xs.map oT) (y::ys) (clEs_mT _)
 have tk: ∀ x:Tm,(x.kids.map oT).take x.kids.length=x.kids.map oT:=fun x=>List.take_of_length_le (by simp)
 have tkn:(nm.map S).take nm.length=nm.map S:=List.take_of_length_le (by simp)
 have i1:=l03Is_ok t (iT true t) (BT_iT true t) [58,45] 1
 rw [iT_mk]at i1
 unfold addI incT
 rw [oT_mk t]
 cases h2:isStr t [58,45] 1 with
 |false=>
  rw [h2]at i1
  simp only [Bool.false_eq_true,if_false]
  rw [lw_eq]
  simp only [go_sem,Nat.reduceAdd,Nat.reduceSub,Nat.reduceMul,Nat.reduceEqDiff,Nat.reduceLeDiff,Nat.reduceBEq,reduceCtorEq,LB.spec_IncludesIn_0,h1,ix,cg,cs,rp,Option.map_some,mapE_cat,tk,i1,e1]
 |true=>
  obtain ⟨x,hx⟩:=isStr_one h2
  rw [h2]at i1
  have i2:=l03Is_ok x (iT true x) (BT_iT true x) [105,110,99,108,117,100,101] 1
  rw [iT_mk]at i2
  simp only [if_true,hx]
  rw [hx]at i1
  simp only [List.map_cons,List.map_nil,iT_mk true x]at i1
  cases h3:isStr x [105,110,99,108,117,100,101] 1 with
  |false=>
   rw [h3]at i2
   simp only [Bool.false_eq_true,if_false,List.map_cons,List.map_nil,oT_mk x,List.length_cons,List.length_nil]
   rw [lw_eq]
   simp only [go_sem,Nat.reduceAdd,Nat.reduceSub,Nat.reduceMul,Nat.reduceEqDiff,Nat.reduceLeDiff,Nat.reduceBEq,reduceCtorEq,LB.spec_IncludesIn_0,h1,ix,cg,cs,rp,Option.map_some,mapE_cat,tk,i1,i2,e1,oT_mk x]
  |true=>
   obtain ⟨y,hy⟩:=isStr_one h3
   rw [h3,hy]at i2
   rw [hy]at i1
   simp only [List.map_cons,List.map_nil,iT_mk true y]at i1 i2
   simp only [if_true,hy,List.map_cons,List.map_nil,oT_mk x,oT_mk y,List.length_cons,List.length_nil]
   by_cases h4:y.kind=2
   ·have d4:decide (y.kind=2)=true:=decide_eq_true h4
    rw [if_pos h4]
    simp only
    have on:=l23Add_ok nm y.name (by omega)
    have tko:((onceS nm y.name).map S).take (onceS nm y.name).length=(onceS nm y.name).map S:=List.take_of_length_le (by simp)
    by_cases hmem:y.name ∈ nm
    ·rw [if_pos hmem]at on
     rw [lw_eq]
     simp only [go_sem,Nat.reduceAdd,Nat.reduceSub,Nat.reduceMul,Nat.reduceEqDiff,Nat.reduceLeDiff,Nat.reduceBEq,reduceCtorEq,LB.spec_IncludesIn_0,h1,ix,cg,cs,rp,Option.map_some,mapE_cat,tk,tkn,tko,i1,i2,e1,d4,on,oT_mk x,oT_mk y]
    ·rw [if_neg hmem]at on
     rw [lw_eq]
     simp only [go_sem,Nat.reduceAdd,Nat.reduceSub,Nat.reduceMul,Nat.reduceEqDiff,Nat.reduceLeDiff,Nat.reduceBEq,reduceCtorEq,LB.spec_IncludesIn_0,h1,ix,cg,cs,rp,Option.map_some,mapE_cat,tk,tkn,tko,i1,i2,e1,d4,on,oT_mk x,oT_mk y]
   ·have d4:decide (y.kind=2)=false:=decide_eq_false h4
    rw [if_neg h4]
    simp only
    rw [lw_eq]
    simp only [go_sem,Nat.reduceAdd,Nat.reduceSub,Nat.reduceMul,Nat.reduceEqDiff,Nat.reduceLeDiff,Nat.reduceBEq,reduceCtorEq,LB.spec_IncludesIn_0,h1,ix,cg,cs,rp,Option.map_some,mapE_cat,tk,i1,i2,e1,d4,oT_mk x,oT_mk y]
def addAll(nm:List Str):List Tm→List Str
 |[]=>nm
 |t::r=>addAll (addI nm t) r
theorem addI_len(nm:List Str) (t:Tm):(addI nm t).length≤nm.length+1:=by
 unfold addI onceS
 split
 ·split
  ·omega
  ·simp
 ·omega
theorem impl_inc_loop(ts:List Tm) (hl:ts.length≤2^18): ∀ (r:List Tm) (k:Nat) (nm:List Str),ts.drop k=r→k+r.length=ts.length→nm.length≤k→
 lw progA L.impl_IncludesIn_0 ⟨[(5,.s (100000,0) 0 (nm).length),(13,.s (100000,1) 0 ts.length),(14,I ts.length),(15,I k)],[((100000,0),1,(nm).map S),((100000,1),4,ts.map oT)]⟩=some (.exit 0,⟨[(5,.s (100000,0) 0 ((addAll nm r)).length)],[((100000,0),1,((addAll nm r)).map S),((100000,1),4,ts.map oT)]⟩)
 |[],k,nm,h,hk,hn=>by
  have h1: ¬ (k:Int) < (ts.length:Int):=by simp only [List.length_nil]at hk;omega
  rw [lw_eq]
  simp only [go_sem,Nat.reduceAdd,Nat.reduceSub,Nat.reduceMul,Nat.reduceEqDiff,Nat.reduceLeDiff,Nat.reduceBEq,reduceCtorEq,LB.impl_IncludesIn_0,addAll,h1]
 |t::r,k,nm,h,hk,hn=>by
  simp only [List.length_cons]at hk
  have hx:ts[k]? =some t:=by
   have:=congrArg (fun z=>z[0]?) h
   simpa using this
  have hd:ts.drop (k+1)=r:=by
   have:=congrArg (fun z=>z.drop 1) h
   simpa [List.drop_drop,Nat.add_comm]using this
  have hlk:k < ts.length:=by omega
  have ht:ts.take k++t::r=ts:=by
   have:=List.take_append_drop k ts
   rw [h]at this;exact this
  have hrow:ts.map oT=(ts.take k).map oT++oT t::r.map oT:=by
   have:=congrArg (List.map oT) ht
   simpa using this.symm
  have ih:=impl_inc_loop ts hl r (k+1) (addI nm t) hd (by omega) (by have:=addI_len nm t;omega)
  have stp:=impl_inc_step (ts.take k) r t ts.length k (by rw [List.length_take];omega) (by rw [List.length_take];omega) (by omega) nm (by omega)
  simp only [addAll]
  rw [← ih,hrow]
  exact stp
theorem spec_inc_loop(ts:List Tm) (hl:ts.length≤2^18): ∀ (r:List Tm) (k:Nat) (nm:List Str),ts.drop k=r→k+r.length=ts.length→nm.length≤k→
 lw progA L.spec_IncludesIn_0 ⟨[(3,.s (100000,0) 0 (nm).length),(4,.s (100000,1) 0 ts.length),(6,I k)],[((100000,0),1,(nm).map S),((100000,1),4,ts.map oT)]⟩=some (.exit 0,⟨[(3,.s (100000,0) 0 ((addAll nm r)).length)],[((100000,0),1,((addAll nm r)).map S),((100000,1),4,ts.map oT)]⟩)
 |[],k,nm,h,hk,hn=>by
  have h1: ¬ (k:Int) < (ts.length:Int):=by simp only [List.length_nil]at hk;omega
  rw [lw_eq]
  simp only [go_sem,Nat.reduceAdd,Nat.reduceSub,Nat.reduceMul,Nat.reduceEqDiff,Nat.reduceLeDiff,Nat.reduceBEq,reduceCtorEq,LB.spec_IncludesIn_0,addAll,h1]
 |t::r,k,nm,h,hk,hn=>by
  simp only [List.length_cons]at hk
  have hx:ts[k]? =some t:=by
   have:=congrArg (fun z=>z[0]?) h
   simpa using this
  have hd:ts.drop (k+1)=r:=by
   have:=congrArg (fun z=>z.drop 1) h
   simpa [List.drop_drop,Nat.add_comm]using this
  have hlk:k < ts.length:=by omega
  have ht:ts.take k++t::r=ts:=by
   have:=List.take_append_drop k ts
   rw [h]at this;exact this
  have hrow:ts.map oT=(ts.take k).map oT++oT t::r.map oT:=by
   have:=congrArg (List.map oT) ht
   simpa using this.symm
  have ih:=spec_inc_loop ts hl r (k+1) (addI nm t) hd (by omega) (by have:=addI_len nm t;omega)
  have stp:=spec_inc_step (ts.take k) r t ts.length k (by rw [List.length_take];omega) (by rw [List.length_take];omega) (by omega) nm (by omega)
  simp only [addAll]
  rw [← ih,hrow]
  exact stp
theorem allS_len(l:List Sg): ∀ (n k:Nat) (ts:List Tm) (b:Nat),ts.length≤k→k≤l.length+1→(allS l n k ts b).1.length≤l.length+1
 |0,k,ts,b,h,hk=>by simp only [allS];omega
 |n+1,k,ts,b,h,hk=>by
  simp only [allS]
  split
  ·rename_i hlt
   have:=readS_end l k hlt
   split
   ·exact allS_len l n _ _ _ (by simp only [List.length_append,List.length_cons,List.length_nil];omega) this.2
   ·exact allS_len l n _ _ _ (by omega) this.2
  ·simp only;omega
theorem allOf_len(s:Str):(allOf s).1.length≤3001:=by
 unfold allOf
 split
 ·rename_i h
  have:=allS_len (signs s) ((signs s).length+2) 0 [] 0 (by simp) (by omega)
  have:=(good_of h).len
  omega
 ·simp
def incOf(s:Str):List Str:=addAll [] (allOf s).1
theorem impl_IncludesIn_ok(s:Str):cr progA F.impl_IncludesIn [S s]=some (.o 1 ((incOf s).map S)):=by
 have ra:=impl_ReadAll_ok s
 have hl:=allOf_len s
 unfold incOf
 generalize (allOf s).1=ts at*
 have lp:=impl_inc_loop ts (by omega) ts 0 [] rfl (by omega) (by simp)
 simp only [List.map_nil,List.length_nil,Int.natCast_zero]at lp
 have tk:(ts.map oT).take ts.length=ts.map oT:=List.take_of_length_le (by simp)
 have tk2:((addAll [] ts).map S).take (addAll [] ts).length=(addAll [] ts).map S:=List.take_of_length_le (by simp)
 rw [cr_fn pA_impl_IncludesIn rfl]
 simp only [go_sem,Nat.reduceAdd,Nat.reduceSub,Nat.reduceMul,Nat.reduceEqDiff,Nat.reduceLeDiff,Nat.reduceBEq,reduceCtorEq,A.impl_IncludesIn,ra,lp,tk,tk2]
theorem spec_IncludesIn_ok(s:Str):cr progA F.spec_IncludesIn [S s]=some (.o 1 ((incOf s).map S)):=by
 have ra:=spec_ReadAll_ok s
 have hl:=allOf_len s
 unfold incOf
 generalize (allOf s).1=ts at*
 have lp:=spec_inc_loop ts (by omega) ts 0 [] rfl (by omega) (by simp)
 simp only [List.map_nil,List.length_nil,Int.natCast_zero]at lp
 have tk:(ts.map oT).take ts.length=ts.map oT:=List.take_of_length_le (by simp)
 have tk2:((addAll [] ts).map S).take (addAll [] ts).length=(addAll [] ts).map S:=List.take_of_length_le (by simp)
 rw [cr_fn pA_spec_IncludesIn rfl]
 simp only [go_sem,Nat.reduceAdd,Nat.reduceSub,Nat.reduceMul,Nat.reduceEqDiff,Nat.reduceLeDiff,Nat.reduceBEq,reduceCtorEq,A.spec_IncludesIn,ra,lp,tk,tk2]
end Go.Vm
set_option autoImplicit false
set_option maxRecDepth 100000
set_option linter.unusedSimpArgs false
set_option linter.unusedVariables false
namespace Go.Vm
theorem markText_loop: ∀ (n:Nat) (k:Int) (l:Str),k≤n→0≤k→k < 9223372036854775808→l.length+n≤2^62→
 ∃ l',lw progA L.laws_markText_0 ⟨[(0,I k),(3,S l)],[]⟩=some (.exit 0,⟨[(3,S l')],[]⟩)∧l'.length≤2^62:=by
 intro n
 induction n with
 |zero=>
  intro k l h1 h2 hbig h3
  obtain rfl:k=0:=by omega
  rw [lw_eq]
  simp only [go_sem,Nat.reduceAdd,Nat.reduceSub,Nat.reduceMul,Nat.reduceEqDiff,Nat.reduceLeDiff,Nat.reduceBEq,reduceCtorEq,LB.laws_markText_0,show ¬ (0:Int) < 0 by decide]
  exact ⟨l,rfl,by omega⟩
 |succ n ih=>
  intro k l h1 h2 hbig h3
  rw [lw_eq]
  by_cases h:0 < k
  ·have e1:binV .rem (I k) (I 10)=_:=bin_rem (by decide)
   have e2:binV .quo (I k) (I 10)=_:=bin_quo (by decide)
   have hq:k.tdiv 10=k / 10:=Int.tdiv_eq_ediv_of_nonneg h2
   have e3:w64 (k.tdiv 10)=k / 10:=by rw [hq,w64_id]<;>omega
   have hm:k.tmod 10=k % 10:=Int.tmod_eq_emod_of_nonneg h2
   have e4:w64 (48+k.tmod 10)=48+k % 10:=by rw [hm,w64_id]<;>omega
   have e5:IntKind.u8.wrap (48+k % 10)=48+k % 10:=by
    have:(48+k % 10) % 256=48+k % 10:=by omega
    exact this
   have e6:bytesOf [U8 (48+k % 10)]=some [UInt8.ofNat (48+k % 10).toNat]:=rfl
   have e7:binV .add (S [UInt8.ofNat (48+k % 10).toNat]) (S l)=_:=binS_add (by simp only [List.length_cons,List.length_nil];omega)
   obtain ⟨l',g1,g2⟩:=ih (k / 10) ([UInt8.ofNat (48+k % 10).toNat]++l) (by omega) (by omega) (by omega) (by simp only [List.length_append,List.length_cons,List.length_nil];omega)
   refine ⟨l', ?_,g2⟩
   simp only [go_sem,Nat.reduceAdd,Nat.reduceSub,Nat.reduceMul,Nat.reduceEqDiff,Nat.reduceLeDiff,Nat.reduceBEq,reduceCtorEq,LB.laws_markText_0,h,e1,e2,e3,e4,e5,e6,e7,List.cons_append,List.nil_append]at g1 ⊢
   exact g1
  ·obtain rfl:k=0:=by omega
   simp only [go_sem,Nat.reduceAdd,Nat.reduceSub,Nat.reduceMul,Nat.reduceEqDiff,Nat.reduceLeDiff,Nat.reduceBEq,reduceCtorEq,LB.laws_markText_0,show ¬ (0:Int) < 0 by decide]
   exact ⟨l,rfl,by omega⟩
theorem markText_ok(k:Int) (hk:k < 4000000000000000000): ∃ s:Str,s.length≤2^62+1∧cr progA F.laws_markText [I k]=some (S s):=by
 rw [cr_fn pA_laws_markText rfl]
 by_cases h:k≤0
 ·simp only [go_sem,Nat.reduceAdd,Nat.reduceSub,Nat.reduceMul,Nat.reduceEqDiff,Nat.reduceLeDiff,Nat.reduceBEq,reduceCtorEq,A.laws_markText,h]
  exact ⟨_,by decide,rfl⟩
 ·obtain ⟨l',g1,g2⟩:=markText_loop k.toNat k [] (by omega) (by omega) (by omega) (by simp only [List.length_nil];omega)
  have e7:binV .add (S [109]) (S l')=_:=binS_add (by simp only [List.length_cons,List.length_nil];omega)
  simp only [go_sem,Nat.reduceAdd,Nat.reduceSub,Nat.reduceMul,Nat.reduceEqDiff,Nat.reduceLeDiff,Nat.reduceBEq,reduceCtorEq,A.laws_markText,h,g1,e7]
  exact ⟨_,by simp only [List.length_append,List.length_cons,List.length_nil];omega,rfl⟩
end Go.Vm
set_option autoImplicit false
set_option maxRecDepth 100000
set_option linter.unusedSimpArgs false
set_option linter.unusedVariables false
namespace Go.Vm
open Classical in
noncomputable def mkT(k:Int):Str:=if h:k < 4000000000000000000 then (markText_ok k h).choose else []
theorem mkT_ok(k:Int) (h:k < 4000000000000000000):cr progA F.laws_markText [I k]=some (S (mkT k)):=by
 unfold mkT;rw [dif_pos h];exact (markText_ok k h).choose_spec.2
mutual
noncomputable def markT:Tm→Int→Tm × Int
 | .mk _ _ _ ks,k=>(.mk k (mkT (k+1)) (k+2) (markTs ks (k+3)).1,(markTs ks (k+3)).2)
noncomputable def markTs:List Tm→Int→List Tm × Int
 |[],k=>([],k)
 |t::ts,k=>((markT t k).1::(markTs ts (markT t k).2).1,(markTs ts (markT t k).2).2)
end
mutual
theorem markT_k: ∀ (t:Tm) (k:Int),(markT t k).2=k+3*nT t
 | .mk _ _ _ ks,k=>by simp only [markT,nT,markTs_k ks (k+3)];omega
theorem markTs_k: ∀ (ts:List Tm) (k:Int),(markTs ts k).2=k+3*nTs ts
 |[],k=>by simp [markTs,nTs]
 |t::ts,k=>by simp only [markTs,nTs,markTs_k ts,markT_k t k];omega
end
theorem markTs_len: ∀ (ts:List Tm) (k:Int),(markTs ts k).1.length=ts.length
 |[],k=>rfl
 |t::ts,k=>by simp only [markTs,List.length_cons,markTs_len ts]
theorem markTs_app: ∀ (ts us:List Tm) (k:Int),markTs (ts++us) k=((markTs ts k).1++(markTs us (markTs ts k).2).1,(markTs us (markTs ts k).2).2)
 |[],us,k=>rfl
 |t::ts,us,k=>by simp only [List.cons_append,markTs,markTs_app ts us]
end Go.Vm
set_option autoImplicit false
set_option maxHeartbeats 16000000
set_option maxRecDepth 100000
set_option linter.unusedSimpArgs false
set_option linter.unusedVariables false
namespace Go.Vm
theorem cr_true {f:Nat} {xs:List V} (hs:cr progA f xs=some (B true)): ∃ outs,cw progA f xs=some (B true,outs):=by
 unfold cr at hs
 cases hc:cw progA f xs with
 |none=>rw [hc]at hs;cases hs
 |some r=>rw [hc]at hs;obtain ⟨a,b⟩:=r;simp only [Option.map_some,Option.some.injEq]at hs;subst hs;exact ⟨b,rfl⟩
noncomputable def mkL:Int→List Str→List Str
 |_,[]=>[]
 |k,_::r=>mkT k::mkL (k+1) r
theorem mkL_len: ∀ (r:List Str) (k:Int),(mkL k r).length=r.length
 |[],k=>rfl
 |x::r,k=>by simp only [mkL,List.length_cons,mkL_len r]
theorem markS_loop(n:Nat) (hn:n≤2^20): ∀ (r ys:List Str) (k:Int),ys.length+r.length=n→0≤k→k+r.length≤2^30→
 lw progA L.laws_markStringS_0 ⟨[(0,.s (0,0) 0 n),(1,I k),(5,I (ys.length:Nat))],[((0,0),1,(ys++r).map S)]⟩=
  some (.exit 0,⟨[(1,I (k+(r.length:Nat)))],[((0,0),1,(ys++mkL k r).map S)]⟩)
 |[],ys,k,h,h0,hk=>by
  have h1: ¬ ((ys.length:Nat):Int) < (n:Int):=by simp only [List.length_nil]at h;omega
  simp only [mkL,List.length_nil,Int.natCast_zero,Int.add_zero]
  rw [lw_eq]
  simp only [go_sem,Nat.reduceAdd,Nat.reduceSub,Nat.reduceMul,Nat.reduceEqDiff,Nat.reduceLeDiff,Nat.reduceBEq,reduceCtorEq,LB.laws_markStringS_0,h1]
 |x::r,ys,k,h,h0,hk=>by
  simp only [List.length_cons]at h hk
  have h1:((ys.length:Nat):Int) < (n:Int):=by omega
  have mk:=mkT_ok k (by omega)
  have e1:w64 (k+1)=k+1:=by rw [w64_id]<;>omega
  have e2:w64 (((ys.length:Nat):Int)+1)=((ys.length+1:Nat):Int):=by rw [w64_id]<;>omega
  have ix:=fun y=>ixO_some (k:=(0,0)) (e:=1) (xs:=ys.map S++y::r.map S) (i:=ys.length) (len:=n) (by omega) (by simp only [List.length_append,List.length_map,List.length_cons];omega)
  have cg:=fun y zs=>cell_get (ys.map S) y zs ys.length (by simp)
  have cs:=fun y y' zs=>cell_set (ys.map S) y y' zs ys.length (by simp)
  have ih:=markS_loop n hn r (ys++[mkT k]) (k+1) (by simp only [List.length_append,List.length_cons,List.length_nil];omega) (by omega) (by omega)
  have ek:k+((r.length+1:Nat):Int)=k+1+(r.length:Int):=by omega
  have e3:(ys++x::r).map S=ys.map S++S x::r.map S:=by simp
  have e4:ys++[mkT k]++r=ys++mkT k::r:=by simp
  have e5:ys++[mkT k]++mkL (k+1) r=ys++mkT k::mkL (k+1) r:=by simp
  have e6:(ys++mkT k::r).map S=ys.map S++S (mkT k)::r.map S:=by simp
  rw [e4,e5,e6]at ih
  simp only [List.length_append,List.length_cons,List.length_nil,Nat.zero_add]at ih
  simp only [mkL,List.length_cons,ek]
  rw [← ih,e3,lw_eq]
  simp only [go_sem,Nat.reduceAdd,Nat.reduceSub,Nat.reduceMul,Nat.reduceEqDiff,Nat.reduceLeDiff,Nat.reduceBEq,reduceCtorEq,LB.laws_markStringS_0,h1,mk,e1,e2,ix,cg,cs]
theorem markS_ok(ts:List Str) (hl:ts.length≤2^20) (k:Int) (h0:0≤k) (hk:k≤2^20):
 cw progA F.laws_markStringS [.o 1 (ts.map S),I k]=some (I (k+(ts.length:Nat)),[.o 1 ((mkL k ts).map S),I k]):=by
 have lp:=markS_loop ts.length hl ts [] k (by simp) h0 (by omega)
 simp only [List.nil_append,List.length_nil,Int.natCast_zero]at lp
 have tk:((mkL k ts).map S).take ts.length=(mkL k ts).map S:=List.take_of_length_le (by simp [mkL_len])
 have ml:=mkL_len ts k
 rw [cw_fn pA_laws_markStringS rfl]
 simp only [go_sem,Nat.reduceAdd,Nat.reduceSub,Nat.reduceMul,Nat.reduceEqDiff,Nat.reduceLeDiff,Nat.reduceBEq,reduceCtorEq,A.laws_markStringS,finish,lp,tk,ml,List.length_map]
theorem heldS_loop(τ:Bool) (n:Nat) (hn:n≤2^20) (all:List Str) (ha:all.length=n): ∀ (r:List Str) (i:Nat) (k:Int),all.drop i=mkL k r→i+r.length=n→0≤k→k+r.length≤2^30→
 lw progA L.laws_heldStringS_0 ⟨[(0,.i τ (all.map S)),(1,I k),(5,I i)],[]⟩=some (.exit 0,⟨[(1,I (k+(r.length:Nat)))],[]⟩)
 |[],i,k,h,hi,h0,hk=>by
  have h1: ¬ (i:Int) < (n:Int):=by simp only [List.length_nil]at hi;omega
  simp only [List.length_nil,Int.natCast_zero,Int.add_zero]
  rw [lw_eq]
  simp only [go_sem,Nat.reduceAdd,Nat.reduceSub,Nat.reduceMul,Nat.reduceEqDiff,Nat.reduceLeDiff,Nat.reduceBEq,reduceCtorEq,LB.laws_heldStringS_0,List.length_map,ha,h1]
 |x::r,i,k,h,hi,h0,hk=>by
  simp only [List.length_cons]at hi hk
  simp only [mkL]at h
  have hx:all[i]? =some (mkT k):=by
   have:=congrArg (fun z=>z[0]?) h
   simpa using this
  have hd:all.drop (i+1)=mkL (k+1) r:=by
   have:=congrArg (fun z=>z.drop 1) h
   simpa [List.drop_drop,Nat.add_comm]using this
  have h1:(i:Int) < (n:Int):=by omega
  have mk:=mkT_ok k (by omega)
  have e1:w64 (k+1)=k+1:=by rw [w64_id]<;>omega
  have e2:w64 ((i:Int)+1)=((i+1:Nat):Int):=by rw [w64_id]<;>omega
  have g:=getmap (f:=S) hx
  have a1:=fun T=>addr_i (τ:=τ) (T:=T) (e:=1) g rfl
  have ih:=heldS_loop τ n hn all ha r (i+1) (k+1) hd (by omega) (by omega) (by omega)
  have ek:k+((r.length+1:Nat):Int)=k+1+(r.length:Int):=by omega
  have dd:decide (mkT k=mkT k)=true:=decide_eq_true rfl
  simp only [List.length_cons,ek]
  rw [← ih,lw_eq]
  simp only [go_sem,Nat.reduceAdd,Nat.reduceSub,Nat.reduceMul,Nat.reduceEqDiff,Nat.reduceLeDiff,Nat.reduceBEq,reduceCtorEq,LB.laws_heldStringS_0,List.length_map,ha,h1,mk,e1,e2,g,a1,dd]
theorem heldS_ok(τ:Bool) (ts:List Str) (hl:ts.length≤2^20) (k:Int) (h0:0≤k) (hk:k≤2^20):
 cr progA F.laws_heldStringS [.i τ ((mkL k ts).map S),I k]=some (I (k+(ts.length:Nat))):=by
 have lp:=heldS_loop τ ts.length hl (mkL k ts) (mkL_len ts k) ts 0 k rfl (by omega) h0 (by omega)
 simp only [Int.natCast_zero]at lp
 rw [cr_fn pA_laws_heldStringS rfl]
 simp only [go_sem,Nat.reduceAdd,Nat.reduceSub,Nat.reduceMul,Nat.reduceEqDiff,Nat.reduceLeDiff,Nat.reduceBEq,reduceCtorEq,A.laws_heldStringS,lp]
theorem onceS_len(nm:List Str) (t:Tm):(addI nm t).length≤nm.length+1:=addI_len nm t
theorem addAll_len: ∀ (ts:List Tm) (nm:List Str),(addAll nm ts).length≤nm.length+ts.length
 |[],nm=>Nat.le_refl _
 |t::r,nm=>by
  have:=addAll_len r (addI nm t)
  have:=addI_len nm t
  simp only [addAll,List.length_cons];omega
theorem incOf_len(s:Str):(incOf s).length≤3001:=by
 have:=addAll_len (allOf s).1 []
 have:=allOf_len s
 unfold incOf
 simp only [List.length_nil]at*
 omega
theorem law_IncludesIn(s:Str) (hw:s.length≤Lm): ∃ outs,cw progA F.laws_FnExactIncludesIn [S s]=some (B true,outs):=by
 have i1:=impl_IncludesIn_ok s
 have s1:=spec_IncludesIn_ok s
 have hl:=incOf_len s
 generalize incOf s=ts at*
 have e:=fun τ τ'=>(eqStringS_ok τ τ' ts ts (by unfold Lm;omega)).trans (by rw [decide_eq_true (rfl:ts=ts)])
 have mk:=markS_ok ts (by omega) 1 (by decide) (by decide)
 have hd:=fun τ=>heldS_ok τ ts (by omega) 1 (by decide) (by decide)
 have n1: ¬ (1+(ts.length:Int)) < 0:=by omega
 have tk:(ts.map S).take ts.length=ts.map S:=List.take_of_length_le (by simp)
 have ml:=mkL_len ts 1
 have tk2:((mkL 1 ts).map S).take ts.length=(mkL 1 ts).map S:=List.take_of_length_le (by simp [mkL_len])
 by_cases hb:(1048576:Int) < s.length
 ·apply cr_true
  rw [cr_fn pA_laws_FnExactIncludesIn rfl]
  simp only [go_sem,Nat.reduceAdd,Nat.reduceSub,Nat.reduceMul,Nat.reduceEqDiff,Nat.reduceLeDiff,Nat.reduceBEq,reduceCtorEq,A.laws_FnExactIncludesIn,hb]
 ·apply cr_true
  rw [cr_fn pA_laws_FnExactIncludesIn rfl]
  simp only [go_sem,Nat.reduceAdd,Nat.reduceSub,Nat.reduceMul,Nat.reduceEqDiff,Nat.reduceLeDiff,Nat.reduceBEq,reduceCtorEq,A.laws_FnExactIncludesIn,C.laws_FnExactIncludesIn_0,C.laws_FnExactIncludesIn_1,C.laws_FnExactIncludesIn_2,C.laws_FnExactIncludesIn_3,hb,i1,s1,e,mk,hd,n1,tk,tk2,ml,List.length_map]
end Go.Vm
set_option autoImplicit false
set_option maxRecDepth 100000
set_option linter.unusedVariables false
set_option linter.unusedSimpArgs false
namespace Go.Proofs
open Go.Shelf
def Try.laysIB_ren:Go.Shelf.Ren:=⟨fun|137=>84|217=>104|266=>124|n=>n,fun|9=>9|5=>5|3=>3|n=>n,fun|n=>n⟩
theorem Try.laysIB:Go.Proofs.Lays.n137 Try.prog Try.laysIB_ren where
 mixed:=by kernel_rfl
 f137:=Try.func84.trans (congrArg some (by kernel_rfl))
 f217:=Try.func104.trans (congrArg some (by kernel_rfl))
 f266:=Try.func124.trans (congrArg some (by kernel_rfl))
 t3:=Try.underlying3
 a3:=Try.isAgg3
 z3:=Try.sizeOf3
 v3:=Try.zeroValue3
 t5:=Try.underlying5
 a5:=Try.isAgg5
 z5:=Try.sizeOf5
 v5:=Try.zeroValue5
 t9:=Try.underlying9
 a9:=Try.isAgg9
 z9:=Try.sizeOf9
 v9:=Try.zeroValue9
end Go.Proofs
namespace Go.Vm
open Go.Proofs
instance lay0:Lay:=⟨fun _=>False,fun _=>True,fun _ _ _ _=>trivial⟩
theorem ixbP_ok: ∀ args r outs,ixbP args=some (r,outs)→CallOk Try.prog (Try.laysIB_ren.f 137) args r outs:=by
 intro args r outs h
 unfold ixbP at h
 split at h
 case h_2=>cases h
 rename_i s n
 simp only [Option.some.injEq,Prod.mk.injEq]at h
 obtain ⟨rfl,rfl⟩:=h
 have hz: ∀ (E:Env) vs c,RelL E.cl [.v (.string s),.v (.int .u8 n)] vs c→c=c0∧vs=[.string s,.int .u8 n]:=by
  intro E vs c hx
  simp only [RelL,Rel]at hx
  obtain ⟨y,ys,c1,c2,rfl,⟨rfl,-,rfl⟩,⟨y',ys',c3,c4,rfl,⟨rfl,-,rfl⟩,⟨rfl,rfl⟩,rfl⟩,rfl⟩:=hx
  exact ⟨rfl,rfl⟩
 refine prim_ok (x:= .int .i64 (Lib.indexByte s.data.toList n.toNat.toUInt8)) Try.laysIB.f137 rfl rfl rfl rfl ?_ (fun E vs c hx=>(hz E vs c hx).1)
 intro E vs hx hL
 obtain ⟨-,rfl⟩:=hz E vs c0 hx
 refine (Any.strings_IndexByte Try.laysIB s n E.w).mono ?_
 rintro e w' ⟨rfl,rfl⟩
 exact ⟨rfl,Adds.refl _⟩
end Go.Vm
