import Derived.Test.YtimgahafdmacbaaT05
set_option autoImplicit false
set_option maxHeartbeats 8000000
set_option maxRecDepth 100000
set_option linter.unusedSimpArgs false
set_option linter.unusedVariables false
namespace Go.Vm
def bkP(k:Key) (i o n:Nat) (x:V) (ob:Option Ob):Mem:=
 match ob with
 |some ob=>if i=0∧o=0∧ob.1=n then [(k,n,[x])]else []
 |none=>[]
@[go_sem] theorem back1_pb {T:Mem} {k:Key} {i o:Nat} {x:V}:back1 T (.p k i o) (.b x)=bkP k i o x.cells.length x (getK T k):=by simp only [back1,bkP];cases getK T k<;>rfl
@[go_sem] theorem bkP_some {k:Key} {i o n:Nat} {x:V} {e:Nat} {zs:List V}:bkP k i o n x (some (e,zs))=if i=0∧o=0∧e=n then [(k,n,[x])]else []:=(rfl)
theorem sgD_get {l:List Sg} {i:Nat} (h:i < l.length):l[i]? =some (sgD l i):=by
 unfold sgD;rw [List.getD_eq_getElem?_getD,List.getElem?_eq_getElem h];rfl
theorem sgD_out {l:List Sg} {i:Nat} (h:l.length≤i):sgD l i=sg0:=by
 unfold sgD;rw [List.getD_eq_getElem?_getD,List.getElem?_eq_none h];rfl
theorem impl_sign_ok(l:List Sg) (τ:Bool) (hl:l.length≤3000) (a k:Nat) (ha:a≤2^40) (hk:k≤2) (nv:V) (d:Int) (b:Bool):
 cr progA F.impl_parser_sign [.q true [.a [.i τ (l.map Sg.v),I a,nv,I d,B b]] 0 0,I k]=some (sgD l (a+k)).v:=by
 have e1:w64 ((a:Int)+k)=((a+k:Nat):Int):=by rw [w64_id]<;>omega
 rw [cr_fn pA_impl_parser_sign rfl]
 by_cases h:l.length≤a+k
 ·have h':(l.length:Int)≤((a+k:Nat):Int):=by omega
  rw [sgD_out h]
  simp only [go_sem,Nat.reduceAdd,Nat.reduceSub,Nat.reduceMul,Nat.reduceEqDiff,Nat.reduceLeDiff,Nat.reduceBEq,reduceCtorEq,A.impl_parser_sign,e1,h',List.length_map,sg0,Sg.v]
 ·have h': ¬ (l.length:Int)≤((a+k:Nat):Int):=by omega
  have hg:=sgD_get (l:=l) (i:=a+k) (by omega)
  have g:=getmap (f:=Sg.v) hg
  have a1:=fun T=>addr_i (τ:=τ) (T:=T) (e:=5) g rfl
  rw [Sg.v]at g
  simp only [go_sem,Nat.reduceAdd,Nat.reduceSub,Nat.reduceMul,Nat.reduceEqDiff,Nat.reduceLeDiff,Nat.reduceBEq,reduceCtorEq,A.impl_parser_sign,e1,h',List.length_map,a1,g,Sg.v]
theorem impl_isMark_ok(l:List Sg) (τ:Bool) (hl:l.length≤3000) (a k:Nat) (ha:a≤2^40) (hk:k≤2) (nv:V) (d:Int) (b:Bool) (t:Str):
 cr progA F.impl_parser_isMark [.q true [.a [.i τ (l.map Sg.v),I a,nv,I d,B b]] 0 0,I k,S t]=some (B (isM l (a+k) t)):=by
 have s:=impl_sign_ok l τ hl a k ha hk nv d b
 rw [Sg.v]at s
 rw [cr_fn pA_impl_parser_isMark rfl]
 unfold isM
 cases h1:decide ((sgD l (a+k)).kind=4)with
 |false=>simp only [go_sem,Nat.reduceAdd,Nat.reduceSub,Nat.reduceMul,Nat.reduceEqDiff,Nat.reduceLeDiff,Nat.reduceBEq,reduceCtorEq,A.impl_parser_isMark,s,h1,Bool.false_and]
 |true=>simp only [go_sem,Nat.reduceAdd,Nat.reduceSub,Nat.reduceMul,Nat.reduceEqDiff,Nat.reduceLeDiff,Nat.reduceBEq,reduceCtorEq,A.impl_parser_isMark,s,h1,Bool.true_and]
theorem impl_mark_ok(l:List Sg) (τ:Bool) (hl:l.length≤3000) (a:Nat) (ha:a≤2^40) (nm:List Str) (d:Int) (b:Bool) (t:Str):
 cw progA F.impl_parser_mark [.b (.a [.i τ (l.map Sg.v),I a,.o 1 (List.map S nm),I d,B b]),S t]=some (.t [],[.b (.a [.i τ (l.map Sg.v),I ((a+1:Nat):Int),.o 1 (List.map S nm),I d,B (b|| !isM l a t)]),S t]):=by
 have s:=impl_isMark_ok l τ hl a 0 ha (by decide) (.i true (nm.map S)) d b t
 have e1:w64 ((a:Int)+1)=((a+1:Nat):Int):=by rw [w64_id]<;>omega
 simp only [Nat.add_zero,Int.natCast_zero]at s
 rw [cw_fn pA_impl_parser_mark rfl]
 cases hm:isM l a t with
 |true=>
  rw [hm]at s
  simp only [go_sem,Nat.reduceAdd,Nat.reduceSub,Nat.reduceMul,Nat.reduceEqDiff,Nat.reduceLeDiff,Nat.reduceBEq,reduceCtorEq,A.impl_parser_mark,finish,s,e1,Bool.or_false,Bool.not_true]
 |false=>
  rw [hm]at s
  simp only [go_sem,Nat.reduceAdd,Nat.reduceSub,Nat.reduceMul,Nat.reduceEqDiff,Nat.reduceLeDiff,Nat.reduceBEq,reduceCtorEq,A.impl_parser_mark,finish,s,e1,Bool.or_true,Bool.not_false]
theorem oT_leaf(k:Int) (s:Str) (n:Int):oT (.mk k s n [])= .a [I k,S s,I n,.o 4 []]:=rfl
theorem impl_variable_ok(n:Int):cr progA F.impl_variable [I n]=some (oT (.mk 1 [] n [])):=by
 rw [cr_fn pA_impl_variable rfl,oT_leaf]
 simp only [go_sem,Nat.reduceAdd,Nat.reduceSub,Nat.reduceMul,Nat.reduceEqDiff,Nat.reduceLeDiff,Nat.reduceBEq,reduceCtorEq,A.impl_variable]
theorem impl_number_ok(n:Int):cr progA F.impl_number [I n]=some (oT (.mk 3 [] n [])):=by
 rw [cr_fn pA_impl_number rfl,oT_leaf]
 simp only [go_sem,Nat.reduceAdd,Nat.reduceSub,Nat.reduceMul,Nat.reduceEqDiff,Nat.reduceLeDiff,Nat.reduceBEq,reduceCtorEq,A.impl_number]
theorem impl_atom_ok(s:Str):cr progA F.impl_atom [S s]=some (oT (.mk 2 s 0 [])):=by
 rw [cr_fn pA_impl_atom rfl,oT_leaf]
 simp only [go_sem,Nat.reduceAdd,Nat.reduceSub,Nat.reduceMul,Nat.reduceEqDiff,Nat.reduceLeDiff,Nat.reduceBEq,reduceCtorEq,A.impl_atom]
theorem spec_l03Var_ok(n:Int):cr progA F.spec_l03Var [I n]=some (oT (.mk 1 [] n [])):=by
 rw [cr_fn pA_spec_l03Var rfl,oT_leaf]
 simp only [go_sem,Nat.reduceAdd,Nat.reduceSub,Nat.reduceMul,Nat.reduceEqDiff,Nat.reduceLeDiff,Nat.reduceBEq,reduceCtorEq,A.spec_l03Var]
theorem spec_l03Num_ok(n:Int):cr progA F.spec_l03Num [I n]=some (oT (.mk 3 [] n [])):=by
 rw [cr_fn pA_spec_l03Num rfl,oT_leaf]
 simp only [go_sem,Nat.reduceAdd,Nat.reduceSub,Nat.reduceMul,Nat.reduceEqDiff,Nat.reduceLeDiff,Nat.reduceBEq,reduceCtorEq,A.spec_l03Num]
theorem spec_l03Atom_ok(s:Str):cr progA F.spec_l03Atom [S s]=some (oT (.mk 2 s 0 [])):=by
 rw [cr_fn pA_spec_l03Atom rfl,oT_leaf]
 simp only [go_sem,Nat.reduceAdd,Nat.reduceSub,Nat.reduceMul,Nat.reduceEqDiff,Nat.reduceLeDiff,Nat.reduceBEq,reduceCtorEq,A.spec_l03Atom]
theorem oT_struct(s:Str) (ks:List Tm):oT (.mk 4 s 0 ks)= .a [I 4,S s,I 0,.o 4 (ks.map oT)]:=by rw [oT_mk];rfl
theorem structure_of(s:Str) (ks:List Tm):cw progA F.impl_structure [S s,.o 4 (ks.map oT)]=some (oT (.mk 4 s 0 ks),[S s,.d]):=by
 rw [structure_ok s (ks.map oT) (clEs_mT ks),oT_struct]
def dT(t:Tm):V:= .a [I t.kind,S t.name,I t.num,.d]
theorem l03Two_io(s:Str) (a b:Tm):cw progA F.spec_l03Two [S s,oT a,oT b]=some (oT (.mk 4 s 0 [a,b]),[S s,dT a,dT b]):=by
 rw [cw_fn pA_spec_l03Two rfl,oT_struct,List.map_cons,List.map_cons,List.map_nil,oT_mk a,oT_mk b,dT,dT]
 simp only [go_sem,Nat.reduceAdd,Nat.reduceSub,Nat.reduceMul,Nat.reduceEqDiff,Nat.reduceLeDiff,Nat.reduceBEq,reduceCtorEq,A.spec_l03Two,finish]
theorem idx_lt(s:Str) (nm:List Str):(s ∈ nm→0≤idxS s 0 nm)∧(s ∉ nm→idxS s 0 nm= -1):=by
 obtain ⟨h1,h2⟩:=idxS_ge s nm 0
 exact ⟨fun h=>by have:=h1 h;omega,h2⟩
theorem impl_parser_variable_ok(l:List Sg) (τ:Bool) (a:Int) (nm:List Str) (hn:nm.length≤2^30) (d:Int) (b:Bool) (s:Str):
 cw progA F.impl_parser_variable [.b (.a [.i τ (l.map Sg.v),I a,.o 1 (List.map S nm),I d,B b]),S s]=some (oT (varAt nm s).1,[.b (.a [.i τ (l.map Sg.v),I a,.o 1 (List.map S ((varAt nm s).2)),I d,B b]),S s]):=by
 have ix:=IndexS_ok true nm s (by omega)
 have vk:=fun n=>impl_variable_ok n
 simp only [oT_leaf]at vk
 have l1:decide ((nm.length+1)*16≤lim)=true:=decide_eq_true (by rw [lim_val];omega)
 have l2:decide (nm.length+1≤lim)=true:=decide_eq_true (by rw [lim_val];omega)
 have tk:((nm++[s]).map S).take (nm.length+1)=(nm++[s]).map S:=List.take_of_length_le (by simp)
 rw [cw_fn pA_impl_parser_variable rfl]
 unfold varAt
 by_cases hm:s ∈ nm
 ·have h0: ¬ idxS s 0 nm < 0:=by have:=(idx_lt s nm).1 hm;omega
  by_cases h95:s=[95]
  ·have d95:decide (s=[95])=true:=decide_eq_true h95
   rw [if_neg fun h=>h.2 h95]
   simp only [go_sem,Nat.reduceAdd,Nat.reduceSub,Nat.reduceMul,Nat.reduceEqDiff,Nat.reduceLeDiff,Nat.reduceBEq,reduceCtorEq,A.impl_parser_variable,finish,ix,h0,d95,vk,l1,l2,tk,oT_leaf,List.length_cons,List.length_nil]
  ·have d95:decide (s=[95])=false:=decide_eq_false h95
   rw [if_pos ⟨hm,h95⟩]
   simp only [go_sem,Nat.reduceAdd,Nat.reduceSub,Nat.reduceMul,Nat.reduceEqDiff,Nat.reduceLeDiff,Nat.reduceBEq,reduceCtorEq,A.impl_parser_variable,finish,ix,h0,d95,vk,oT_leaf]
 ·have h0:idxS s 0 nm < 0:=by rw [(idx_lt s nm).2 hm];decide
  rw [if_neg fun h=>hm h.1]
  simp only [go_sem,Nat.reduceAdd,Nat.reduceSub,Nat.reduceMul,Nat.reduceEqDiff,Nat.reduceLeDiff,Nat.reduceBEq,reduceCtorEq,A.impl_parser_variable,finish,ix,h0,vk,l1,l2,tk,oT_leaf,List.length_cons,List.length_nil]
end Go.Vm
set_option autoImplicit false
set_option maxHeartbeats 8000000
set_option maxRecDepth 100000
set_option linter.unusedSimpArgs false
set_option linter.unusedVariables false
namespace Go.Vm
def isK(l:List Sg) (i:Nat) (k:Int) (t:Str):Bool:=decide (i < l.length)&&(decide ((sgD l i).kind=k)&&(decide (t=[])||decide ((sgD l i).text=t)))
theorem isK_mark(l:List Sg) (i:Nat) (t:Str) (ht:t ≠ []):isK l i 4 t=isM l i t:=by
 unfold isK isM
 rw [decide_eq_false ht,Bool.false_or]
 by_cases h:i < l.length
 ·rw [decide_eq_true h,Bool.true_and]
 ·rw [decide_eq_false h,Bool.false_and,sgD_out (by omega)];rfl
theorem isK_kind(l:List Sg) (i:Nat) (k:Int) (hk:k ≠ 0):isK l i k []=decide ((sgD l i).kind=k):=by
 unfold isK
 by_cases h:i < l.length
 ·rw [decide_eq_true h,Bool.true_and];simp
 ·rw [decide_eq_false h,Bool.false_and,sgD_out (by omega)]
  exact (decide_eq_false fun e=>hk e.symm).symm
theorem spec_is_ok(l:List Sg) (τ:Bool) (hl:l.length≤3000) (a:Nat) (ha:a≤2^40) (nv:V) (d:Int) (b:Bool) (k:Int) (t:Str):
 cr progA F.spec_l06Read_is [.q true [.a [.i τ (l.map Sg.v),I a,B b,I (d),nv]] 0 0,I k,S t]=some (B (!b&&isK l a k t)):=by
 rw [cr_fn pA_spec_l06Read_is rfl]
 unfold isK
 cases b with
 |true=>simp only [go_sem,Nat.reduceAdd,Nat.reduceSub,Nat.reduceMul,Nat.reduceEqDiff,Nat.reduceLeDiff,Nat.reduceBEq,reduceCtorEq,A.spec_l06Read_is,Bool.not_true,Bool.false_and]
 |false=>
  by_cases h:a < l.length
  ·have h':(a:Int) < (l.length:Int):=by omega
   rw [decide_eq_true h]
   have hg:=sgD_get h
   have g:=getmap (f:=Sg.v) hg
   have a1:=fun T=>addr_i (τ:=τ) (T:=T) (e:=5) g rfl
   rw [Sg.v]at g
   cases hk:decide ((sgD l a).kind=k)with
   |false=>simp only [go_sem,Nat.reduceAdd,Nat.reduceSub,Nat.reduceMul,Nat.reduceEqDiff,Nat.reduceLeDiff,Nat.reduceBEq,reduceCtorEq,A.spec_l06Read_is,h',List.length_map,a1,g,Sg.v,hk,Bool.not_false,Bool.true_and,Bool.false_and]
   |true=>
    cases ht:decide (t=[])with
    |true=>simp only [go_sem,Nat.reduceAdd,Nat.reduceSub,Nat.reduceMul,Nat.reduceEqDiff,Nat.reduceLeDiff,Nat.reduceBEq,reduceCtorEq,A.spec_l06Read_is,h',List.length_map,a1,g,Sg.v,hk,ht,Bool.not_false,Bool.true_and,Bool.true_or]
    |false=>simp only [go_sem,Nat.reduceAdd,Nat.reduceSub,Nat.reduceMul,Nat.reduceEqDiff,Nat.reduceLeDiff,Nat.reduceBEq,reduceCtorEq,A.spec_l06Read_is,h',List.length_map,a1,g,Sg.v,hk,ht,Bool.not_false,Bool.true_and,Bool.false_or]
  ·have h': ¬ (a:Int) < (l.length:Int):=by omega
   rw [decide_eq_false h]
   simp only [go_sem,Nat.reduceAdd,Nat.reduceSub,Nat.reduceMul,Nat.reduceEqDiff,Nat.reduceLeDiff,Nat.reduceBEq,reduceCtorEq,A.spec_l06Read_is,h',List.length_map,Bool.not_false,Bool.true_and,Bool.false_and]
theorem spec_mark_yes(l:List Sg) (τ:Bool) (hl:l.length≤3000) (a:Nat) (ha:a≤2^40) (nm:List Str) (d:Int) (t:Str) (ht:t ≠ []) (hm:isM l a t=true):
 cw progA F.spec_l06Read_mark [.b (.a [.i τ (l.map Sg.v),I a,B false,I (d),.o 1 (List.map S nm)]),S t]=some (B true,[.b (.a [.i τ (l.map Sg.v),I ((a+1:Nat):Int),B false,I (d),.o 1 (List.map S nm)]),S t]):=by
 have s:=spec_is_ok l τ hl a ha (.i true (nm.map S)) d false 4 t
 have e1:w64 ((a:Int)+1)=((a+1:Nat):Int):=by rw [w64_id]<;>omega
 rw [isK_mark l a t ht,hm]at s
 rw [cw_fn pA_spec_l06Read_mark rfl]
 simp only [go_sem,Nat.reduceAdd,Nat.reduceSub,Nat.reduceMul,Nat.reduceEqDiff,Nat.reduceLeDiff,Nat.reduceBEq,reduceCtorEq,A.spec_l06Read_mark,finish,s,e1,Bool.not_false,Bool.true_and]
theorem spec_mark_no(l:List Sg) (τ:Bool) (hl:l.length≤3000) (a:Nat) (ha:a≤2^40) (nm:List Str) (d:Int) (b:Bool) (t:Str) (ht:t ≠ []) (hm:(!b&&isM l a t)=false):
 cw progA F.spec_l06Read_mark [.b (.a [.i τ (l.map Sg.v),I a,B b,I (d),.o 1 (List.map S nm)]),S t]=some (B false,[.b (.a [.i τ (l.map Sg.v),I a,B b,I (d),.o 1 (List.map S nm)]),S t]):=by
 have s:=spec_is_ok l τ hl a ha (.i true (nm.map S)) d b 4 t
 rw [isK_mark l a t ht,hm]at s
 rw [cw_fn pA_spec_l06Read_mark rfl]
 simp only [go_sem,Nat.reduceAdd,Nat.reduceSub,Nat.reduceMul,Nat.reduceEqDiff,Nat.reduceLeDiff,Nat.reduceBEq,reduceCtorEq,A.spec_l06Read_mark,finish,s]
theorem spec_wants_yes(l:List Sg) (τ:Bool) (hl:l.length≤3000) (a:Nat) (ha:a≤2^40) (nm:List Str) (d:Int) (t:Str) (ht:t ≠ []) (hm:isM l a t=true):
 cw progA F.spec_l06Read_wants [.b (.a [.i τ (l.map Sg.v),I a,B false,I (d),.o 1 (List.map S nm)]),S t]=some (.t [],[.b (.a [.i τ (l.map Sg.v),I ((a+1:Nat):Int),B false,I (d),.o 1 (List.map S nm)]),S t]):=by
 have s:=spec_mark_yes l τ hl a ha nm d t ht hm
 rw [cw_fn pA_spec_l06Read_wants rfl]
 simp only [go_sem,Nat.reduceAdd,Nat.reduceSub,Nat.reduceMul,Nat.reduceEqDiff,Nat.reduceLeDiff,Nat.reduceBEq,reduceCtorEq,A.spec_l06Read_wants,finish,s]
theorem spec_wants_no(l:List Sg) (τ:Bool) (hl:l.length≤3000) (a:Nat) (ha:a≤2^40) (nm:List Str) (d:Int) (b:Bool) (t:Str) (ht:t ≠ []) (hm:(!b&&isM l a t)=false):
 cw progA F.spec_l06Read_wants [.b (.a [.i τ (l.map Sg.v),I a,B b,I (d),.o 1 (List.map S nm)]),S t]=some (.t [],[.b (.a [.i τ (l.map Sg.v),I a,B true,I (d),.o 1 (List.map S nm)]),S t]):=by
 have s:=spec_mark_no l τ hl a ha nm d b t ht hm
 rw [cw_fn pA_spec_l06Read_wants rfl]
 simp only [go_sem,Nat.reduceAdd,Nat.reduceSub,Nat.reduceMul,Nat.reduceEqDiff,Nat.reduceLeDiff,Nat.reduceBEq,reduceCtorEq,A.spec_l06Read_wants,finish,s]
theorem vA_ret(l:List Sg) (τ:Bool) (a:Int) (nm:List Str) (d:Int) (b:Bool) (s:Str) (k:Nat) (hs:nm[k]? =some s):
 lw progA L.spec_l06Read_variable_0 ⟨[(0,.p (0,0) 0 0),(1,S s),(4,.p (100000,0) 0 0),(5,I k)],[((0,0),5,[.a [.i τ (l.map Sg.v),I a,B b,I (d),.o 1 (List.map S nm)]]),((100000,0),4,[.a [I 0,S [],I 0,.s (100000,1) 0 0]]),((100000,1),4,[])]⟩=some (.ret,⟨[(0,.p (0,0) 0 0),(4,.p (100000,0) 0 0)],[((100000,0),4,[.a [I 1,S [],I (k),.s (27,0) 0 0]]),((27,0),4,[]),((12,0),1,nm.map S),((0,0),5,[.a [.i τ (l.map Sg.v),I a,B b,I d,.s (12,0) 0 nm.length]]),((100000,1),4,[])]⟩):=by
 have hk:=(List.getElem?_eq_some_iff.1 hs).1
 have h1:(k:Int) < (nm.length:Int):=by omega
 have g:=getmap (f:=S) hs
 have ix:=ixO_some (k:=(12,0)) (e:=1) (xs:=nm.map S) (i:=k) (len:=nm.length) hk (by simp)
 have vk:=spec_l03Var_ok (k:Int)
 rw [oT_leaf]at vk
 rw [lw_eq]
 simp only [go_sem,Nat.reduceAdd,Nat.reduceSub,Nat.reduceMul,Nat.reduceEqDiff,Nat.reduceLeDiff,Nat.reduceBEq,reduceCtorEq,LB.spec_l06Read_variable_0,List.length_map,h1,ix,g,vk]
theorem vA_step(l:List Sg) (τ:Bool) (a:Int) (nm:List Str) (d:Int) (b:Bool) (s:Str) (k:Nat) (hk3:nm.length≤2^30) (x:Str) (hs:nm[k]? =some x) (hx:x ≠ s):
 lw progA L.spec_l06Read_variable_0 ⟨[(0,.p (0,0) 0 0),(1,S s),(4,.p (100000,0) 0 0),(5,I k)],[((0,0),5,[.a [.i τ (l.map Sg.v),I a,B b,I (d),.o 1 (List.map S nm)]]),((100000,0),4,[.a [I 0,S [],I 0,.s (100000,1) 0 0]]),((100000,1),4,[])]⟩=lw progA L.spec_l06Read_variable_0 ⟨[(0,.p (0,0) 0 0),(1,S s),(4,.p (100000,0) 0 0),(5,I ((k+1:Nat):Int))],[((0,0),5,[.a [.i τ (l.map Sg.v),I a,B b,I d,.s (100000,1) 0 nm.length]]),((100000,0),4,[.a [I 0,S [],I 0,.s (100000,2) 0 0]]),((100000,1),1,nm.map S),((100000,2),4,[])]⟩:=by
 have hk:=(List.getElem?_eq_some_iff.1 hs).1
 have h1:(k:Int) < (nm.length:Int):=by omega
 have g:=getmap (f:=S) hs
 have ix:=ixO_some (k:=(12,0)) (e:=1) (xs:=nm.map S) (i:=k) (len:=nm.length) hk (by simp)
 have dx:decide (x=s)=false:=decide_eq_false hx
 have e1:w64 ((k:Int)+1)=((k+1:Nat):Int):=by rw [w64_id]<;>omega
 rw [lw_eq]
 simp only [go_sem,Nat.reduceAdd,Nat.reduceSub,Nat.reduceMul,Nat.reduceEqDiff,Nat.reduceLeDiff,Nat.reduceBEq,reduceCtorEq,LB.spec_l06Read_variable_0,List.length_map,h1,ix,g,dx,e1]
theorem vA_exit(l:List Sg) (τ:Bool) (a:Int) (nm:List Str) (d:Int) (b:Bool) (s:Str) (k:Nat) (hk: ¬ k < nm.length):
 lw progA L.spec_l06Read_variable_0 ⟨[(0,.p (0,0) 0 0),(1,S s),(4,.p (100000,0) 0 0),(5,I k)],[((0,0),5,[.a [.i τ (l.map Sg.v),I a,B b,I (d),.o 1 (List.map S nm)]]),((100000,0),4,[.a [I 0,S [],I 0,.s (100000,1) 0 0]]),((100000,1),4,[])]⟩=some (.exit 0,⟨[(0,.p (0,0) 0 0),(1,S s),(4,.p (100000,0) 0 0)],[((12,0),1,nm.map S),((0,0),5,[.a [.i τ (l.map Sg.v),I a,B b,I d,.s (12,0) 0 nm.length]]),((100000,0),4,[.a [I 0,S [],I 0,.s (100000,1) 0 0]]),((100000,1),4,[])]⟩):=by
 have h1: ¬ (k:Int) < (nm.length:Int):=by omega
 rw [lw_eq]
 simp only [go_sem,Nat.reduceAdd,Nat.reduceSub,Nat.reduceMul,Nat.reduceEqDiff,Nat.reduceLeDiff,Nat.reduceBEq,reduceCtorEq,LB.spec_l06Read_variable_0,List.length_map,h1]
theorem vB_loop(l:List Sg) (τ:Bool) (a:Int) (nm:List Str) (d:Int) (b:Bool) (s:Str) (hk3:nm.length≤2^30): ∀ (r:List Str) (k:Nat),nm.drop k=r→k+r.length=nm.length→
 (s ∈ r→lw progA L.spec_l06Read_variable_0 ⟨[(0,.p (0,0) 0 0),(1,S s),(4,.p (100000,0) 0 0),(5,I k)],[((0,0),5,[.a [.i τ (l.map Sg.v),I a,B b,I d,.s (100000,1) 0 nm.length]]),((100000,0),4,[.a [I 0,S [],I 0,.s (100000,2) 0 0]]),((100000,1),1,nm.map S),((100000,2),4,[])]⟩=some (.ret,⟨[(0,.p (0,0) 0 0),(4,.p (100000,0) 0 0)],[((100000,0),4,[.a [I 1,S [],I (idxS s k r),.s (27,0) 0 0]]),((27,0),4,[]),((0,0),5,[.a [.i τ (l.map Sg.v),I a,B b,I d,.s (100000,1) 0 nm.length]]),((100000,1),1,nm.map S),((100000,2),4,[])]⟩))∧(s ∉ r→lw progA L.spec_l06Read_variable_0 ⟨[(0,.p (0,0) 0 0),(1,S s),(4,.p (100000,0) 0 0),(5,I k)],[((0,0),5,[.a [.i τ (l.map Sg.v),I a,B b,I d,.s (100000,1) 0 nm.length]]),((100000,0),4,[.a [I 0,S [],I 0,.s (100000,2) 0 0]]),((100000,1),1,nm.map S),((100000,2),4,[])]⟩=some (.exit 0,⟨[(0,.p (0,0) 0 0),(1,S s),(4,.p (100000,0) 0 0)],[((0,0),5,[.a [.i τ (l.map Sg.v),I a,B b,I d,.s (100000,1) 0 nm.length]]),((100000,0),4,[.a [I 0,S [],I 0,.s (100000,2) 0 0]]),((100000,1),1,nm.map S),((100000,2),4,[])]⟩))
 |[],k,h,hl=>by
  refine ⟨fun h=>(by cases h),fun _=> ?_⟩
  have h1: ¬ (k:Int) < (nm.length:Int):=by simp only [List.length_nil]at hl;omega
  rw [lw_eq]
  simp only [go_sem,Nat.reduceAdd,Nat.reduceSub,Nat.reduceMul,Nat.reduceEqDiff,Nat.reduceLeDiff,Nat.reduceBEq,reduceCtorEq,LB.spec_l06Read_variable_0,List.length_map,h1]
 |x::r,k,h,hl=>by
  simp only [List.length_cons]at hl
  have hs:nm[k]? =some x:=by
   have:=congrArg (fun z=>z[0]?) h
   simpa using this
  have hd:nm.drop (k+1)=r:=by
   have:=congrArg (fun z=>z.drop 1) h
   simpa [List.drop_drop,Nat.add_comm]using this
  have hk:=(List.getElem?_eq_some_iff.1 hs).1
  have h1:(k:Int) < (nm.length:Int):=by omega
  have g:=getmap (f:=S) hs
  have ix:=ixO_some (k:=(100000,1)) (e:=1) (xs:=nm.map S) (i:=k) (len:=nm.length) hk (by simp)
  by_cases hx:x=s
  ·subst hx
   have ii:idxS x k (x::r)=(k:Int):=by simp [idxS]
   refine ⟨fun _=> ?_,fun h=>absurd List.mem_cons_self h⟩
   have vk:=spec_l03Var_ok (k:Int)
   rw [oT_leaf]at vk
   rw [ii,lw_eq]
   simp only [go_sem,Nat.reduceAdd,Nat.reduceSub,Nat.reduceMul,Nat.reduceEqDiff,Nat.reduceLeDiff,Nat.reduceBEq,reduceCtorEq,LB.spec_l06Read_variable_0,List.length_map,h1,ix,g,vk]
  ·have ii:idxS s k (x::r)=idxS s (k+1) r:=by
    simp only [idxS];rw [if_neg fun e=>hx e.symm]
   have mm:s ∈ x::r↔s ∈ r:=by
    rw [List.mem_cons]
    exact ⟨fun h=>h.elim (fun e=>absurd e.symm hx) id,.inr⟩
   have st:lw progA L.spec_l06Read_variable_0 ⟨[(0,.p (0,0) 0 0),(1,S s),(4,.p (100000,0) 0 0),(5,I k)],[((0,0),5,[.a [.i τ (l.map Sg.v),I a,B b,I d,.s (100000,1) 0 nm.length]]),((100000,0),4,[.a [I 0,S [],I 0,.s (100000,2) 0 0]]),((100000,1),1,nm.map S),((100000,2),4,[])]⟩=lw progA L.spec_l06Read_variable_0 ⟨[(0,.p (0,0) 0 0),(1,S s),(4,.p (100000,0) 0 0),(5,I ((k+1:Nat):Int))],[((0,0),5,[.a [.i τ (l.map Sg.v),I a,B b,I d,.s (100000,1) 0 nm.length]]),((100000,0),4,[.a [I 0,S [],I 0,.s (100000,2) 0 0]]),((100000,1),1,nm.map S),((100000,2),4,[])]⟩:=by
    have dx:decide (x=s)=false:=decide_eq_false hx
    have e1:w64 ((k:Int)+1)=((k+1:Nat):Int):=by rw [w64_id]<;>omega
    rw [lw_eq]
    simp only [go_sem,Nat.reduceAdd,Nat.reduceSub,Nat.reduceMul,Nat.reduceEqDiff,Nat.reduceLeDiff,Nat.reduceBEq,reduceCtorEq,LB.spec_l06Read_variable_0,List.length_map,h1,ix,g,dx,e1]
   have ih:=vB_loop l τ a nm d b s hk3 r (k+1) hd (by omega)
   rw [mm,ii,st]
   exact ih
theorem spec_variable_ok(l:List Sg) (τ:Bool) (a:Int) (nm:List Str) (hn:nm.length≤2^30) (d:Int) (b:Bool) (s:Str):
 cw progA F.spec_l06Read_variable [.b (.a [.i τ (l.map Sg.v),I a,B b,I (d),.o 1 (List.map S nm)]),S s]=some (oT (varAt nm s).1,[.b (.a [.i τ (l.map Sg.v),I a,B b,I (d),.o 1 (List.map S ((varAt nm s).2))]),S s]):=by
 have l1:decide ((nm.length+1)*16≤lim)=true:=decide_eq_true (by rw [lim_val];omega)
 have l2:decide (nm.length+1≤lim)=true:=decide_eq_true (by rw [lim_val];omega)
 have tk:((nm++[s]).map S).take (nm.length+1)=(nm++[s]).map S:=List.take_of_length_le (by simp)
 have tk0:(nm.map S).take nm.length=nm.map S:=List.take_of_length_le (by simp)
 have e1:w64 ((nm.length+1:Nat) - 1:Int)=(nm.length:Int):=by rw [w64_id]<;>omega
 have vk:=spec_l03Var_ok (nm.length:Int)
 rw [oT_leaf]at vk
 rw [cw_fn pA_spec_l06Read_variable rfl]
 unfold varAt
 by_cases h95:s=[95]
 ·have d95:decide (s=[95])=true:=decide_eq_true h95
  rw [if_neg fun h=>h.2 h95]
  rw [oT_leaf]
  simp only [go_sem,Nat.reduceAdd,Nat.reduceSub,Nat.reduceMul,Nat.reduceEqDiff,Nat.reduceLeDiff,Nat.reduceBEq,reduceCtorEq,A.spec_l06Read_variable,finish,d95,vk,l1,l2,tk,tk0,e1,List.length_cons,List.length_nil]
 have d95:decide (s=[95])=false:=decide_eq_false h95
 by_cases h0:nm=[]
 ·have lp:=vA_exit l τ a nm d b s 0 (by rw [h0];simp)
  simp only [Int.natCast_zero]at lp
  rw [if_neg fun h=>by rw [h0]at h;cases h.1]
  rw [oT_leaf]
  simp only [go_sem,Nat.reduceAdd,Nat.reduceSub,Nat.reduceMul,Nat.reduceEqDiff,Nat.reduceLeDiff,Nat.reduceBEq,reduceCtorEq,A.spec_l06Read_variable,finish,d95,lp,vk,l1,l2,tk,tk0,e1,List.length_cons,List.length_nil]
 obtain ⟨x,r,hnm⟩:=List.exists_cons_of_ne_nil h0
 have hx0:nm[0]? =some x:=by rw [hnm];rfl
 by_cases hx:x=s
 ·subst hx
  have lp:=vA_ret l τ a nm d b x 0 hx0
  simp only [Int.natCast_zero]at lp
  have ii:idxS x 0 nm=0:=by rw [hnm];simp [idxS]
  have hm:x ∈ nm:=by rw [hnm];exact List.mem_cons_self
  rw [if_pos ⟨hm,h95⟩,ii]
  rw [oT_leaf]
  simp only [go_sem,Nat.reduceAdd,Nat.reduceSub,Nat.reduceMul,Nat.reduceEqDiff,Nat.reduceLeDiff,Nat.reduceBEq,reduceCtorEq,A.spec_l06Read_variable,finish,d95,lp,tk0]
 ·have lp:=vA_step l τ a nm d b s 0 hn x hx0 hx
  have ii:idxS s 0 nm=idxS s 1 r:=by
   rw [hnm];simp only [idxS];rw [if_neg fun e=>hx e.symm]
  have mm:s ∈ nm↔s ∈ r:=by
   rw [hnm,List.mem_cons]
   exact ⟨fun h=>h.elim (fun e=>absurd e.symm hx) id,.inr⟩
  obtain ⟨b1,b2⟩:=vB_loop l τ a nm d b s hn r 1 (by rw [hnm];rfl) (by rw [hnm,List.length_cons];omega)
  by_cases hm:s ∈ r
  ·have lp2:=lp.trans (b1 hm)
   simp only [Int.natCast_zero]at lp2
   rw [if_pos ⟨mm.2 hm,h95⟩,ii]
   rw [oT_leaf]
   simp only [go_sem,Nat.reduceAdd,Nat.reduceSub,Nat.reduceMul,Nat.reduceEqDiff,Nat.reduceLeDiff,Nat.reduceBEq,reduceCtorEq,A.spec_l06Read_variable,finish,d95,lp2,tk0]
  ·have lp2:=lp.trans (b2 hm)
   simp only [Int.natCast_zero]at lp2
   rw [if_neg fun h=>hm (mm.1 h.1)]
   rw [oT_leaf]
   simp only [go_sem,Nat.reduceAdd,Nat.reduceSub,Nat.reduceMul,Nat.reduceEqDiff,Nat.reduceLeDiff,Nat.reduceBEq,reduceCtorEq,A.spec_l06Read_variable,finish,d95,lp2,vk,l1,l2,tk,tk0,e1,List.length_cons,List.length_nil]
end Go.Vm
set_option autoImplicit false
set_option maxHeartbeats 16000000
set_option maxRecDepth 100000
set_option linter.unusedSimpArgs false
set_option linter.unusedVariables false
namespace Go.Vm
def GB(G:Mem):Prop:=G=[]∨ ∃ (s1 s2:Str) (a1 a2 a3 a4 a5 a6:Int) (b1:Bool),G=[((8,0),4,[.a [S s1,I a1,I a2,I a3]]),((7,0),5,[.a [I a4,S s2,I a5,I a6,B b1]])]
def BadI(l:List Sg) (τ:Bool) (m:Nat) (cs:List V):Prop:= ∃ (a:Nat) (nm:List Str) (d:Int),a≤m∧cs=[.i τ (l.map Sg.v),I a,.o 1 (nm.map S),I d,B true]
def IT(l:List Sg) (τ:Bool) (n:Nat):Prop:= ∀ (i:Nat) (nm:List Str) (d:Nat) (most:Int),4*(l.length - i)+4≤n→i≤l.length→nm.length≤i→d≤130→
 (∀ t i' nm',pT l n i nm d most=some (t,i',nm')→cw progA F.impl_parser_term [.b (.a [.i τ (l.map Sg.v),I i,.o 1 (List.map S nm),I (d),B false]),I most]=some (oT t,[.b (.a [.i τ (l.map Sg.v),I i',.o 1 (List.map S nm'),I (d),B false]),I most]))∧
 (pT l n i nm d most=none→ ∃ g cs,BadI l τ (l.length+8*n) cs∧cw progA F.impl_parser_term [.b (.a [.i τ (l.map Sg.v),I i,.o 1 (List.map S nm),I (d),B false]),I most]=some (oT g,[.b (.a cs),I most]))
def IL(l:List Sg) (τ:Bool) (n:Nat):Prop:= ∀ (i:Nat) (nm:List Str) (d:Nat) (most:Int) (t:Tm) (q:Int),4*(l.length - i)+1≤n→i≤l.length→nm.length≤i→d≤130→
 (∀ t' i' nm',pL l n i nm d most t q=some (t',i',nm')→ ∃ G,GB G∧lw progA L.impl_parser_term_0 ⟨[(0,.p (0,0) 0 0),(1,I most),(4,.p (100000,0) 0 0),(5,.p (100000,1) 0 0),(6,I q)],[((0,0),5,[.a [.i τ (l.map Sg.v),I i,.o 1 (List.map S nm),I (d),B false]]),((100000,0),4,[.a [I 0,S [],I 0,.s (100000,2) 0 0]]),((100000,1),4,[.a [I (Tm.kind t),S (Tm.name t),I (Tm.num t),.s (100000,3) 0 (Tm.kids t).length]]),((100000,2),4,[]),((100000,3),4,(Tm.kids t).map oT)]⟩=some (.exit 0,⟨[(0,.p (0,0) 0 0),(4,.p (100000,0) 0 0),(5,.p (100000,1) 0 0)],G++[((0,0),5,[.a [.i τ (l.map Sg.v),I i',.o 1 (List.map S nm'),I (d),B false]]),((100000,0),4,[.a [I 0,S [],I 0,.s (100000,2) 0 0]]),((100000,1),4,[.a [I (Tm.kind t'),S (Tm.name t'),I (Tm.num t'),.s (100000,3) 0 (Tm.kids t').length]]),((100000,2),4,[]),((100000,3),4,(Tm.kids t').map oT)]⟩))∧
 (pL l n i nm d most t q=none→ ∃ (g:Tm) (a:Nat) (nm':List Str) (d':Int) (G:Mem),a≤l.length+8*n∧GB G∧lw progA L.impl_parser_term_0 ⟨[(0,.p (0,0) 0 0),(1,I most),(4,.p (100000,0) 0 0),(5,.p (100000,1) 0 0),(6,I q)],[((0,0),5,[.a [.i τ (l.map Sg.v),I i,.o 1 (List.map S nm),I (d),B false]]),((100000,0),4,[.a [I 0,S [],I 0,.s (100000,2) 0 0]]),((100000,1),4,[.a [I (Tm.kind t),S (Tm.name t),I (Tm.num t),.s (100000,3) 0 (Tm.kids t).length]]),((100000,2),4,[]),((100000,3),4,(Tm.kids t).map oT)]⟩=some (.exit 0,⟨[(0,.p (0,0) 0 0),(4,.p (100000,0) 0 0),(5,.p (100000,1) 0 0)],G++[((0,0),5,[.a [.i τ (l.map Sg.v),I a,.o 1 (List.map S nm'),I (d'),B true]]),((100000,0),4,[.a [I 0,S [],I 0,.s (100000,2) 0 0]]),((100000,1),4,[.a [I (Tm.kind g),S (Tm.name g),I (Tm.num g),.s (100000,3) 0 (Tm.kids g).length]]),((100000,2),4,[]),((100000,3),4,(Tm.kids g).map oT)]⟩))
def IP(l:List Sg) (τ:Bool) (n:Nat):Prop:= ∀ (i:Nat) (nm:List Str) (d:Nat) (most:Int),4*(l.length - i)+3≤n→i≤l.length→nm.length≤i→d≤130→
 (∀ t q i' nm',pP l n i nm d most=some (t,q,i',nm')→cw progA F.impl_parser_primary [.b (.a [.i τ (l.map Sg.v),I i,.o 1 (List.map S nm),I (d),B false]),I most]=some (.t [oT t,I q],[.b (.a [.i τ (l.map Sg.v),I i',.o 1 (List.map S nm'),I (d),B false]),I most]))∧
 (pP l n i nm d most=none→ ∃ g q cs,BadI l τ (l.length+8*n) cs∧cw progA F.impl_parser_primary [.b (.a [.i τ (l.map Sg.v),I i,.o 1 (List.map S nm),I (d),B false]),I most]=some (.t [oT g,I q],[.b (.a cs),I most]))
theorem struct2(s:Str) (t y:Tm):cw progA F.impl_structure [S s,.o 4 [.a [I t.kind,S t.name,I t.num,.o 4 (t.kids.map oT)],.a [I y.kind,S y.name,I y.num,.o 4 (y.kids.map oT)]]]=
 some (.a [I 4,S s,I 0,.o 4 [.a [I t.kind,S t.name,I t.num,.o 4 (t.kids.map oT)],.a [I y.kind,S y.name,I y.num,.o 4 (y.kids.map oT)]]],[S s,.d]):=by
 have:=structure_of s [t,y]
 rw [oT_struct]at this
 simp only [List.map_cons,List.map_nil,oT_mk t,oT_mk y]at this
 exact this
theorem badexit(l:List Sg) (τ:Bool) (a:Nat) (nm:List Str) (d:Int) (t:Tm) (q most:Int):
 lw progA L.impl_parser_term_0 ⟨[(0,.p (0,0) 0 0),(1,I most),(4,.p (100000,0) 0 0),(5,.p (100000,1) 0 0),(6,I q)],[((0,0),5,[.a [.i τ (l.map Sg.v),I a,.o 1 (List.map S nm),I (d),B true]]),((100000,0),4,[.a [I 0,S [],I 0,.s (100000,2) 0 0]]),((100000,1),4,[.a [I (Tm.kind t),S (Tm.name t),I (Tm.num t),.s (100000,3) 0 (Tm.kids t).length]]),((100000,2),4,[]),((100000,3),4,(Tm.kids t).map oT)]⟩=some (.exit 0,⟨[(0,.p (0,0) 0 0),(4,.p (100000,0) 0 0),(5,.p (100000,1) 0 0)],[]++[((0,0),5,[.a [.i τ (l.map Sg.v),I a,.o 1 (List.map S nm),I (d),B true]]),((100000,0),4,[.a [I 0,S [],I 0,.s (100000,2) 0 0]]),((100000,1),4,[.a [I (Tm.kind t),S (Tm.name t),I (Tm.num t),.s (100000,3) 0 (Tm.kids t).length]]),((100000,2),4,[]),((100000,3),4,(Tm.kids t).map oT)]⟩):=by
 rw [lw_eq,List.nil_append]
 simp only [go_sem,Nat.reduceAdd,Nat.reduceSub,Nat.reduceMul,Nat.reduceEqDiff,Nat.reduceLeDiff,Nat.reduceBEq,reduceCtorEq,LB.impl_parser_term_0]
theorem term_bad(l:List Sg) (τ:Bool) (a:Nat) (nm:List Str) (d:Int) (most:Int):
 cw progA F.impl_parser_term [.b (.a [.i τ (l.map Sg.v),I a,.o 1 (List.map S nm),I (d),B true]),I most]=some (oT (.mk 0 [] 0 []),[.b (.a [.i τ (l.map Sg.v),I a,.o 1 (List.map S nm),I (d),B true]),I most]):=by
 rw [cw_fn pA_impl_parser_term rfl,oT_leaf]
 cases d0:decide (d=130)<;>simp only [go_sem,Nat.reduceAdd,Nat.reduceSub,Nat.reduceMul,Nat.reduceEqDiff,Nat.reduceLeDiff,Nat.reduceBEq,reduceCtorEq,A.impl_parser_term,finish,d0]
theorem IL_step(l:List Sg) (τ:Bool) (hg:GoodL l) (n:Nat) (hT:IT l τ n) (hL:IL l τ n):IL l τ (n+1):=by
 intro i nm d most t q hn hi hnm hd
 have hlen:=hg.len
 have sg:=impl_sign_ok l τ hlen i 0 (by omega) (by decide) (.i true (nm.map S)) d false
 simp only [Nat.add_zero,Int.natCast_zero]at sg
 rw [Sg.v]at sg
 have inf:=impl_InfixOf_ok (sgD l i).text
 unfold opV at inf
 have e1:w64 ((i:Int)+1)=((i+1:Nat):Int):=by rw [w64_id]<;>omega
 generalize hs:sgD l i=s at*
 have stop:goOn s most q=false→lw progA L.impl_parser_term_0 ⟨[(0,.p (0,0) 0 0),(1,I most),(4,.p (100000,0) 0 0),(5,.p (100000,1) 0 0),(6,I q)],[((0,0),5,[.a [.i τ (l.map Sg.v),I i,.o 1 (List.map S nm),I (d),B false]]),((100000,0),4,[.a [I 0,S [],I 0,.s (100000,2) 0 0]]),((100000,1),4,[.a [I (Tm.kind t),S (Tm.name t),I (Tm.num t),.s (100000,3) 0 (Tm.kids t).length]]),((100000,2),4,[]),((100000,3),4,(Tm.kids t).map oT)]⟩=some (.exit 0,⟨[(0,.p (0,0) 0 0),(4,.p (100000,0) 0 0),(5,.p (100000,1) 0 0)],(([((8,0),4,[.a [S (if (infixOf s.text).prio=0 then []else s.text),I (infixOf s.text).prio,I (infixOf s.text).left,I (infixOf s.text).right]]),((7,0),5,[.a [I s.kind,S s.text,I s.num,I s.at_,B s.near]])]):Mem)++[((0,0),5,[.a [.i τ (l.map Sg.v),I i,.o 1 (List.map S nm),I (d),B false]]),((100000,0),4,[.a [I 0,S [],I 0,.s (100000,2) 0 0]]),((100000,1),4,[.a [I (Tm.kind t),S (Tm.name t),I (Tm.num t),.s (100000,3) 0 (Tm.kids t).length]]),((100000,2),4,[]),((100000,3),4,(Tm.kids t).map oT)]⟩):=by
  intro hgo
  rw [lw_eq,List.cons_append,List.cons_append,List.nil_append]
  by_cases h0:(infixOf s.text).prio=0
  ·simp only [go_sem,Nat.reduceAdd,Nat.reduceSub,Nat.reduceMul,Nat.reduceEqDiff,Nat.reduceLeDiff,Nat.reduceBEq,reduceCtorEq,LB.impl_parser_term_0,sg,inf,h0]
  by_cases k4:s.kind=4
  ·by_cases p1:most < (infixOf s.text).prio
   ·simp only [go_sem,Nat.reduceAdd,Nat.reduceSub,Nat.reduceMul,Nat.reduceEqDiff,Nat.reduceLeDiff,Nat.reduceBEq,reduceCtorEq,LB.impl_parser_term_0,sg,inf,h0,k4,p1]
   ·have p2:(infixOf s.text).left < q:=by
     unfold goOn at hgo
     simp only [Bool.and_eq_false_iff,Bool.or_eq_false_iff,decide_eq_false_iff_not,Bool.not_eq_false']at hgo
     omega
    simp only [go_sem,Nat.reduceAdd,Nat.reduceSub,Nat.reduceMul,Nat.reduceEqDiff,Nat.reduceLeDiff,Nat.reduceBEq,reduceCtorEq,LB.impl_parser_term_0,sg,inf,h0,k4,p1,p2]
  by_cases k1:s.kind=1
  ·have d14:decide ((1:Int)=4)=false:=rfl
   cases hnr:s.near with
   |true=>rw [hnr]at sg;simp only [go_sem,Nat.reduceAdd,Nat.reduceSub,Nat.reduceMul,Nat.reduceEqDiff,Nat.reduceLeDiff,Nat.reduceBEq,reduceCtorEq,LB.impl_parser_term_0,sg,inf,h0,d14,k1,hnr]
   |false=>
    rw [hnr]at sg
    by_cases p1:most < (infixOf s.text).prio
    ·simp only [go_sem,Nat.reduceAdd,Nat.reduceSub,Nat.reduceMul,Nat.reduceEqDiff,Nat.reduceLeDiff,Nat.reduceBEq,reduceCtorEq,LB.impl_parser_term_0,sg,inf,h0,d14,k1,p1,hnr]
    ·have p2:(infixOf s.text).left < q:=by
      unfold goOn at hgo
      simp only [hnr,Bool.and_eq_false_iff,Bool.or_eq_false_iff,decide_eq_false_iff_not,Bool.not_eq_false']at hgo
      rcases hgo with h|h|h
      ·exact absurd h0 (by simpa using h)
      ·rcases h.2 with h|h
       ·exact absurd k1 h
       ·cases h
      ·omega
     simp only [go_sem,Nat.reduceAdd,Nat.reduceSub,Nat.reduceMul,Nat.reduceEqDiff,Nat.reduceLeDiff,Nat.reduceBEq,reduceCtorEq,LB.impl_parser_term_0,sg,inf,h0,d14,k1,p1,p2,hnr]
  ·simp only [go_sem,Nat.reduceAdd,Nat.reduceSub,Nat.reduceMul,Nat.reduceEqDiff,Nat.reduceLeDiff,Nat.reduceBEq,reduceCtorEq,LB.impl_parser_term_0,sg,inf,h0,k4,k1]
 cases hgo:goOn s most q with
 |false=>
  have h:=stop hgo
  have hGB:GB ([((8,0),4,[.a [S (if (infixOf s.text).prio=0 then []else s.text),I (infixOf s.text).prio,I (infixOf s.text).left,I (infixOf s.text).right]]),((7,0),5,[.a [I s.kind,S s.text,I s.num,I s.at_,B s.near]])]:Mem):= .inr ⟨_,_,_,_,_,_,_,_,_,rfl⟩
  refine ⟨?_, ?_⟩
  ·intro t' i' nm' hp
   simp only [pL,hs,hgo,Bool.false_eq_true,if_false,Option.some.injEq,Prod.mk.injEq]at hp
   obtain ⟨rfl,rfl,rfl⟩:=hp
   exact ⟨_,hGB,h⟩
  ·intro hp
   simp only [pL,hs,hgo,Bool.false_eq_true,if_false,reduceCtorEq]at hp
 |true=>
  have hlt:i < l.length:=by rw [← hs]at hgo;exact goOn_lt hgo
  have hgo':=hgo
  unfold goOn at hgo'
  simp only [Bool.and_eq_true,Bool.or_eq_true,decide_eq_true_eq,Bool.not_eq_true']at hgo'
  obtain ⟨h0,hk,hp1,hp2⟩:=hgo'
  have p1: ¬ most < (infixOf s.text).prio:=by omega
  have p2: ¬ (infixOf s.text).left < q:=by omega
  obtain ⟨ht1,ht2⟩:=hT (i+1) nm d (infixOf s.text).right (by omega) (by omega) (by omega) hd
  have key: ∀ (y:Tm) (a:Nat) (nm1:List Str) (d1:Int) (b1:Bool),cw progA F.impl_parser_term [.b (.a [.i τ (l.map Sg.v),I ((i+1:Nat):Int),.o 1 (List.map S nm),I (d),B false]),I (infixOf s.text).right]=some (oT y,[.b (.a [.i τ (l.map Sg.v),I a,.o 1 (List.map S nm1),I (d1),B b1]),I (infixOf s.text).right])→
   lw progA L.impl_parser_term_0 ⟨[(0,.p (0,0) 0 0),(1,I most),(4,.p (100000,0) 0 0),(5,.p (100000,1) 0 0),(6,I q)],[((0,0),5,[.a [.i τ (l.map Sg.v),I i,.o 1 (List.map S nm),I (d),B false]]),((100000,0),4,[.a [I 0,S [],I 0,.s (100000,2) 0 0]]),((100000,1),4,[.a [I (Tm.kind t),S (Tm.name t),I (Tm.num t),.s (100000,3) 0 (Tm.kids t).length]]),((100000,2),4,[]),((100000,3),4,(Tm.kids t).map oT)]⟩=lw progA L.impl_parser_term_0 ⟨[(0,.p (0,0) 0 0),(1,I most),(4,.p (100000,0) 0 0),(5,.p (100000,1) 0 0),(6,I (infixOf s.text).prio)],[((0,0),5,[.a [.i τ (l.map Sg.v),I a,.o 1 (List.map S nm1),I (d1),B b1]]),((100000,0),4,[.a [I 0,S [],I 0,.s (100000,2) 0 0]]),((100000,1),4,[.a [I (Tm.kind (Tm.mk 4 s.text 0 [t,y])),S (Tm.name (Tm.mk 4 s.text 0 [t,y])),I (Tm.num (Tm.mk 4 s.text 0 [t,y])),.s (100000,3) 0 (Tm.kids (Tm.mk 4 s.text 0 [t,y])).length]]),((100000,2),4,[]),((100000,3),4,(Tm.kids (Tm.mk 4 s.text 0 [t,y])).map oT)]⟩:=by
   intro y a nm1 d1 b1 hc
   rw [oT_mk y]at hc
   have st:=struct2 s.text t y
   have tk: ∀ x:Tm,(x.kids.map oT).take x.kids.length=x.kids.map oT:=fun x=>List.take_of_length_le (by simp)
   rw [lw_eq]
   simp only [Tm.kind_mk,Tm.name_mk,Tm.num_mk,Tm.kids_mk,List.map_cons,List.map_nil,List.length_cons,List.length_nil,oT_mk t,oT_mk y]
   by_cases k4:s.kind=4
   ·simp only [go_sem,Nat.reduceAdd,Nat.reduceSub,Nat.reduceMul,Nat.reduceEqDiff,Nat.reduceLeDiff,Nat.reduceBEq,reduceCtorEq,LB.impl_parser_term_0,sg,inf,h0,k4,p1,p2,e1,hc,st,tk]
   ·have k1:s.kind=1:=by rcases hk with h|h;exact absurd h k4;exact h.1
    have hnr:s.near=false:=by rcases hk with h|h;exact absurd h k4;exact h.2
    rw [hnr]at sg
    have d14:decide ((1:Int)=4)=false:=rfl
    simp only [go_sem,Nat.reduceAdd,Nat.reduceSub,Nat.reduceMul,Nat.reduceEqDiff,Nat.reduceLeDiff,Nat.reduceBEq,reduceCtorEq,LB.impl_parser_term_0,sg,inf,h0,d14,k1,p1,p2,e1,hc,st,tk,hnr]
  refine ⟨?_, ?_⟩
  ·intro t' i' nm' hp
   simp only [pL,hs,hgo,if_true]at hp
   split at hp
   ·cases hp
   ·rename_i y i1 nm1 hp1'
    have adv:=(p_adv l n).1 _ _ _ _ _ _ _ hp1'
    have nl:=(p_nlen l n).1 _ _ _ _ _ _ _ hp1'
    rw [key y i1 nm1 d false (ht1 y i1 nm1 hp1')]
    exact (hL i1 nm1 d most _ _ (by omega) adv.2 (by omega) hd).1 t' i' nm' hp
  ·intro hp
   simp only [pL,hs,hgo,if_true]at hp
   split at hp
   ·rename_i hp1'
    obtain ⟨g,cs,⟨a,nm1,d1,ha,rfl⟩,hc⟩:=ht2 hp1'
    refine ⟨.mk 4 s.text 0 [t,g],a,nm1,d1,[],by omega,.inl rfl, ?_⟩
    rw [key g a nm1 d1 true hc]
    exact badexit l τ a nm1 d1 _ _ _
   ·rename_i y i1 nm1 hp1'
    have adv:=(p_adv l n).1 _ _ _ _ _ _ _ hp1'
    have nl:=(p_nlen l n).1 _ _ _ _ _ _ _ hp1'
    obtain ⟨g,a,nm',d',G,ha,hG,h⟩:=(hL i1 nm1 d most _ _ (by omega) adv.2 (by omega) hd).2 hp
    refine ⟨g,a,nm',d',G,by omega,hG, ?_⟩
    rw [key y i1 nm1 d false (ht1 y i1 nm1 hp1')]
    exact h
theorem IT_step(l:List Sg) (τ:Bool) (n:Nat) (hP:IP l τ n) (hL:IL l τ n):IT l τ (n+1):=by
 intro i nm d most hn hi hnm hd
 by_cases h130:d=130
 ·subst h130
  refine ⟨?_, ?_⟩
  ·intro t i' nm' hp;simp only [pT,Nat.le_refl,if_true,reduceCtorEq]at hp
  ·intro _
   refine ⟨.mk 0 [] 0 [],_,⟨i,nm,130,by omega,rfl⟩, ?_⟩
   have d0:decide (((130:Nat):Int)=130)=true:=rfl
   rw [cw_fn pA_impl_parser_term rfl,oT_leaf]
   simp only [go_sem,Nat.reduceAdd,Nat.reduceSub,Nat.reduceMul,Nat.reduceEqDiff,Nat.reduceLeDiff,Nat.reduceBEq,reduceCtorEq,A.impl_parser_term,finish,d0]
   try rfl
 have d0:decide ((d:Int)=130)=false:=decide_eq_false (by omega)
 have e1:w64 ((d:Int)+1)=((d+1:Nat):Int):=by rw [w64_id]<;>omega
 have e2:w64 (((d+1:Nat):Int) - 1)=(d:Int):=by rw [w64_id]<;>omega
 have hlt: ¬ 130≤d:=by omega
 obtain ⟨hp1,hp2⟩:=hP i nm (d+1) most (by omega) hi hnm (by omega)
 have tk: ∀ x:Tm,(x.kids.map oT).take x.kids.length=x.kids.map oT:=fun x=>List.take_of_length_le (by simp)
 refine ⟨?_, ?_⟩
 ·intro t i' nm' hp
  simp only [pT,if_neg hlt]at hp
  split at hp
  ·cases hp
  ·rename_i t1 q1 i1 nm1 h1
   have adv:=(p_adv l n).2.2.1 _ _ _ _ _ _ _ _ h1
   have nl:=(p_nlen l n).2.2.1 _ _ _ _ _ _ _ _ h1
   have hc:=hp1 _ _ _ _ h1
   obtain ⟨G,hG,lp⟩:=(hL i1 nm1 (d+1) most t1 q1 (by omega) adv.2 (by omega) (by omega)).1 _ _ _ hp
   rw [oT_mk t1]at hc
   rw [cw_fn pA_impl_parser_term rfl,oT_mk t]
   rcases hG with rfl|⟨s1,s2,a1,a2,a3,a4,a5,a6,b1,rfl⟩
   ·simp only [List.cons_append,List.nil_append]at lp
    simp only [go_sem,Nat.reduceAdd,Nat.reduceSub,Nat.reduceMul,Nat.reduceEqDiff,Nat.reduceLeDiff,Nat.reduceBEq,reduceCtorEq,A.impl_parser_term,finish,d0,e1,hc,lp,e2,tk]
   ·simp only [List.cons_append,List.nil_append]at lp
    simp only [go_sem,Nat.reduceAdd,Nat.reduceSub,Nat.reduceMul,Nat.reduceEqDiff,Nat.reduceLeDiff,Nat.reduceBEq,reduceCtorEq,A.impl_parser_term,finish,d0,e1,hc,lp,e2,tk]
 ·intro hp
  simp only [pT,if_neg hlt]at hp
  split at hp
  ·rename_i h1
   obtain ⟨g,q,cs,⟨a,nm1,d1,ha,rfl⟩,hc⟩:=hp2 h1
   refine ⟨g,_,⟨a,nm1,w64 (d1 - 1),by omega,rfl⟩, ?_⟩
   have lp:=badexit l τ a nm1 d1 g q most
   rw [List.nil_append]at lp
   rw [oT_mk g]at hc ⊢
   rw [cw_fn pA_impl_parser_term rfl]
   simp only [go_sem,Nat.reduceAdd,Nat.reduceSub,Nat.reduceMul,Nat.reduceEqDiff,Nat.reduceLeDiff,Nat.reduceBEq,reduceCtorEq,A.impl_parser_term,finish,d0,e1,hc,lp,tk]
  ·rename_i t1 q1 i1 nm1 h1
   have adv:=(p_adv l n).2.2.1 _ _ _ _ _ _ _ _ h1
   have nl:=(p_nlen l n).2.2.1 _ _ _ _ _ _ _ _ h1
   have hc:=hp1 _ _ _ _ h1
   obtain ⟨g,a,nm',d',G,ha,hG,lp⟩:=(hL i1 nm1 (d+1) most t1 q1 (by omega) adv.2 (by omega) (by omega)).2 hp
   refine ⟨g,_,⟨a,nm',w64 (d' - 1),by omega,rfl⟩, ?_⟩
   rw [oT_mk t1]at hc
   rw [cw_fn pA_impl_parser_term rfl,oT_mk g]
   rcases hG with rfl|⟨s1,s2,a1,a2,a3,a4,a5,a6,b1,rfl⟩
   ·simp only [List.cons_append,List.nil_append]at lp
    simp only [go_sem,Nat.reduceAdd,Nat.reduceSub,Nat.reduceMul,Nat.reduceEqDiff,Nat.reduceLeDiff,Nat.reduceBEq,reduceCtorEq,A.impl_parser_term,finish,d0,e1,hc,lp,tk]
   ·simp only [List.cons_append,List.nil_append]at lp
    simp only [go_sem,Nat.reduceAdd,Nat.reduceSub,Nat.reduceMul,Nat.reduceEqDiff,Nat.reduceLeDiff,Nat.reduceBEq,reduceCtorEq,A.impl_parser_term,finish,d0,e1,hc,lp,tk]
end Go.Vm
set_option autoImplicit false
set_option maxHeartbeats 16000000
set_option maxRecDepth 100000
set_option linter.unusedSimpArgs false
set_option linter.unusedVariables false
namespace Go.Vm
def GBs(G:Mem):Prop:=G=[]∨ ∃ (s1:Str) (a1 a2 a3:Int),G=[((7,0),4,[.a [S s1,I a1,I a2,I a3]])]
def BadS(l:List Sg) (τ:Bool) (m:Nat) (cs:List V):Prop:= ∃ (a:Nat) (nm:List Str) (d:Int),a≤m∧cs=[.i τ (l.map Sg.v),I a,B true,I d,.o 1 (nm.map S)]
def ST(l:List Sg) (τ:Bool) (n:Nat):Prop:= ∀ (i:Nat) (nm:List Str) (d:Nat) (most:Int),4*(l.length - i)+4≤n→i≤l.length→nm.length≤i→d≤130→
 (∀ t i' nm',pT l n i nm d most=some (t,i',nm')→cw progA F.spec_l06Read_term [.b (.a [.i τ (l.map Sg.v),I i,B false,I (d),.o 1 (List.map S nm)]),I most]=some (oT t,[.b (.a [.i τ (l.map Sg.v),I i',B false,I (d),.o 1 (List.map S nm')]),I most]))∧
 (pT l n i nm d most=none→ ∃ g cs,BadS l τ (l.length+8*n) cs∧cw progA F.spec_l06Read_term [.b (.a [.i τ (l.map Sg.v),I i,B false,I (d),.o 1 (List.map S nm)]),I most]=some (oT g,[.b (.a cs),I most]))
def SL(l:List Sg) (τ:Bool) (n:Nat):Prop:= ∀ (i:Nat) (nm:List Str) (d:Nat) (most:Int) (t:Tm) (q:Int),4*(l.length - i)+1≤n→i≤l.length→nm.length≤i→d≤130→
 (∀ t' i' nm',pL l n i nm d most t q=some (t',i',nm')→ ∃ G,GBs G∧lw progA L.spec_l06Read_term_0 ⟨[(0,.p (0,0) 0 0),(1,I most),(4,.p (100000,0) 0 0),(5,.p (100000,1) 0 0),(6,I q)],[((0,0),5,[.a [.i τ (l.map Sg.v),I i,B false,I (d),.o 1 (List.map S nm)]]),((100000,0),4,[.a [I 0,S [],I 0,.s (100000,2) 0 0]]),((100000,1),4,[.a [I (Tm.kind t),S (Tm.name t),I (Tm.num t),.s (100000,3) 0 (Tm.kids t).length]]),((100000,2),4,[]),((100000,3),4,(Tm.kids t).map oT)]⟩=some (.exit 0,⟨[(0,.p (0,0) 0 0),(4,.p (100000,0) 0 0),(5,.p (100000,1) 0 0)],G++[((0,0),5,[.a [.i τ (l.map Sg.v),I i',B false,I (d),.o 1 (List.map S nm')]]),((100000,0),4,[.a [I 0,S [],I 0,.s (100000,2) 0 0]]),((100000,1),4,[.a [I (Tm.kind t'),S (Tm.name t'),I (Tm.num t'),.s (100000,3) 0 (Tm.kids t').length]]),((100000,2),4,[]),((100000,3),4,(Tm.kids t').map oT)]⟩))∧
 (pL l n i nm d most t q=none→ ∃ (g:Tm) (a:Nat) (nm':List Str) (d':Int) (G:Mem),a≤l.length+8*n∧GBs G∧lw progA L.spec_l06Read_term_0 ⟨[(0,.p (0,0) 0 0),(1,I most),(4,.p (100000,0) 0 0),(5,.p (100000,1) 0 0),(6,I q)],[((0,0),5,[.a [.i τ (l.map Sg.v),I i,B false,I (d),.o 1 (List.map S nm)]]),((100000,0),4,[.a [I 0,S [],I 0,.s (100000,2) 0 0]]),((100000,1),4,[.a [I (Tm.kind t),S (Tm.name t),I (Tm.num t),.s (100000,3) 0 (Tm.kids t).length]]),((100000,2),4,[]),((100000,3),4,(Tm.kids t).map oT)]⟩=some (.exit 0,⟨[(0,.p (0,0) 0 0),(4,.p (100000,0) 0 0),(5,.p (100000,1) 0 0)],G++[((0,0),5,[.a [.i τ (l.map Sg.v),I a,B true,I (d'),.o 1 (List.map S nm')]]),((100000,0),4,[.a [I 0,S [],I 0,.s (100000,2) 0 0]]),((100000,1),4,[.a [I (Tm.kind g),S (Tm.name g),I (Tm.num g),.s (100000,3) 0 (Tm.kids g).length]]),((100000,2),4,[]),((100000,3),4,(Tm.kids g).map oT)]⟩))
def SP(l:List Sg) (τ:Bool) (n:Nat):Prop:= ∀ (i:Nat) (nm:List Str) (d:Nat) (most:Int),4*(l.length - i)+3≤n→i≤l.length→nm.length≤i→d≤130→
 (∀ t q i' nm',pP l n i nm d most=some (t,q,i',nm')→cw progA F.spec_l06Read_primary [.b (.a [.i τ (l.map Sg.v),I i,B false,I (d),.o 1 (List.map S nm)]),I most]=some (.t [oT t,I q],[.b (.a [.i τ (l.map Sg.v),I i',B false,I (d),.o 1 (List.map S nm')]),I most]))∧
 (pP l n i nm d most=none→ ∃ g q cs,BadS l τ (l.length+8*n) cs∧cw progA F.spec_l06Read_primary [.b (.a [.i τ (l.map Sg.v),I i,B false,I (d),.o 1 (List.map S nm)]),I most]=some (.t [oT g,I q],[.b (.a cs),I most]))
def isInf(l:List Sg) (i:Nat):Bool:=isM l i [44]||(decide ((sgD l i).kind=1)&& !(sgD l i).near)
theorem spec_infix_yes(l:List Sg) (τ:Bool) (hl:l.length≤3000) (a:Nat) (ha:a≤2^40) (nv:V) (d:Int) (h:isInf l a=true):
 cr progA F.spec_l06Read_infix [.q true [.a [.i τ (l.map Sg.v),I a,B false,I (d),nv]] 0 0]=some (opV (sgD l a).text):=by
 have s1:=spec_is_ok l τ hl a ha nv d false 4 [44]
 have s2:=spec_is_ok l τ hl a ha nv d false 1 []
 rw [isK_mark l a [44] (by decide)]at s1
 rw [isK_kind l a 1 (by decide)]at s2
 rw [cr_fn pA_spec_l06Read_infix rfl]
 cases hm:isM l a [44]with
 |true=>
  rw [hm]at s1
  have ht:(sgD l a).text=[44]:=(isM_lt hm).2.2
  have inf:=spec_InfixOf_ok [44]
  unfold opV at inf ⊢
  rw [ht]
  simp only [go_sem,Nat.reduceAdd,Nat.reduceSub,Nat.reduceMul,Nat.reduceEqDiff,Nat.reduceLeDiff,Nat.reduceBEq,reduceCtorEq,A.spec_l06Read_infix,s1,inf,Bool.not_false,Bool.true_and]
 |false=>
  rw [hm]at s1
  unfold isInf at h
  rw [hm,Bool.false_or]at h
  simp only [Bool.and_eq_true,decide_eq_true_eq,Bool.not_eq_true']at h
  obtain ⟨hk,hn⟩:=h
  have hlt:a < l.length:=sgD_lt (by rw [hk];decide)
  have h':(a:Int) < (l.length:Int):=by omega
  have hg:=sgD_get hlt
  have g:=getmap (f:=Sg.v) hg
  have a1:=fun T=>addr_i (τ:=τ) (T:=T) (e:=5) g rfl
  rw [Sg.v,hn]at g
  rw [decide_eq_true hk]at s2
  have inf:=spec_InfixOf_ok (sgD l a).text
  unfold opV at inf ⊢
  simp only [go_sem,Nat.reduceAdd,Nat.reduceSub,Nat.reduceMul,Nat.reduceEqDiff,Nat.reduceLeDiff,Nat.reduceBEq,reduceCtorEq,A.spec_l06Read_infix,s1,s2,inf,a1,g,Bool.not_false,Bool.true_and,Bool.and_false]
theorem spec_infix_no(l:List Sg) (τ:Bool) (hl:l.length≤3000) (a:Nat) (ha:a≤2^40) (nv:V) (d:Int) (h:isInf l a=false):
 cr progA F.spec_l06Read_infix [.q true [.a [.i τ (l.map Sg.v),I a,B false,I (d),nv]] 0 0]=some (.t [.a [S [],I 0,I 0,I 0],B false]):=by
 have s1:=spec_is_ok l τ hl a ha nv d false 4 [44]
 have s2:=spec_is_ok l τ hl a ha nv d false 1 []
 rw [isK_mark l a [44] (by decide)]at s1
 rw [isK_kind l a 1 (by decide)]at s2
 unfold isInf at h
 simp only [Bool.or_eq_false_iff,Bool.and_eq_false_iff,decide_eq_false_iff_not,Bool.not_eq_false']at h
 obtain ⟨hm,hk⟩:=h
 rw [hm]at s1
 rw [cr_fn pA_spec_l06Read_infix rfl]
 by_cases k1:(sgD l a).kind=1
 ·have hn:(sgD l a).near=true:=by
   rcases hk with h|h
   ·exact absurd k1 h
   ·exact h
  have hlt:a < l.length:=sgD_lt (by rw [k1];decide)
  have hg:=sgD_get hlt
  have g:=getmap (f:=Sg.v) hg
  have a1:=fun T=>addr_i (τ:=τ) (T:=T) (e:=5) g rfl
  rw [Sg.v,hn]at g
  rw [decide_eq_true k1]at s2
  simp only [go_sem,Nat.reduceAdd,Nat.reduceSub,Nat.reduceMul,Nat.reduceEqDiff,Nat.reduceLeDiff,Nat.reduceBEq,reduceCtorEq,A.spec_l06Read_infix,s1,s2,a1,g,Bool.not_false,Bool.true_and,Bool.and_false]
 ·rw [decide_eq_false k1]at s2
  simp only [go_sem,Nat.reduceAdd,Nat.reduceSub,Nat.reduceMul,Nat.reduceEqDiff,Nat.reduceLeDiff,Nat.reduceBEq,reduceCtorEq,A.spec_l06Read_infix,s1,s2,Bool.not_false,Bool.true_and,Bool.and_false]
theorem sbadexit(l:List Sg) (τ:Bool) (a:Nat) (nm:List Str) (d:Int) (t:Tm) (q most:Int):
 lw progA L.spec_l06Read_term_0 ⟨[(0,.p (0,0) 0 0),(1,I most),(4,.p (100000,0) 0 0),(5,.p (100000,1) 0 0),(6,I q)],[((0,0),5,[.a [.i τ (l.map Sg.v),I a,B true,I (d),.o 1 (List.map S nm)]]),((100000,0),4,[.a [I 0,S [],I 0,.s (100000,2) 0 0]]),((100000,1),4,[.a [I (Tm.kind t),S (Tm.name t),I (Tm.num t),.s (100000,3) 0 (Tm.kids t).length]]),((100000,2),4,[]),((100000,3),4,(Tm.kids t).map oT)]⟩=some (.exit 0,⟨[(0,.p (0,0) 0 0),(4,.p (100000,0) 0 0),(5,.p (100000,1) 0 0)],[]++[((0,0),5,[.a [.i τ (l.map Sg.v),I a,B true,I (d),.o 1 (List.map S nm)]]),((100000,0),4,[.a [I 0,S [],I 0,.s (100000,2) 0 0]]),((100000,1),4,[.a [I (Tm.kind t),S (Tm.name t),I (Tm.num t),.s (100000,3) 0 (Tm.kids t).length]]),((100000,2),4,[]),((100000,3),4,(Tm.kids t).map oT)]⟩):=by
 rw [lw_eq,List.nil_append]
 simp only [go_sem,Nat.reduceAdd,Nat.reduceSub,Nat.reduceMul,Nat.reduceEqDiff,Nat.reduceLeDiff,Nat.reduceBEq,reduceCtorEq,LB.spec_l06Read_term_0]
theorem isInf_go {l:List Sg} (hg:GoodL l) {i:Nat} {most q:Int}:goOn (sgD l i) most q=(isInf l i&&(decide ((infixOf (sgD l i).text).prio ≠ 0)&&(decide ((infixOf (sgD l i).text).prio≤most)&&decide (q≤(infixOf (sgD l i).text).left)))):=by
 unfold goOn isInf isM
 cases h0:decide ((infixOf (sgD l i).text).prio ≠ 0)with
 |false=>simp
 |true=>
  cases k4:decide ((sgD l i).kind=4)with
  |false=>simp
  |true=>
   have:=hg.mark i (of_decide_eq_true k4)
   have k1:decide ((sgD l i).kind=1)=false:=by rw [of_decide_eq_true k4];rfl
   have h0':=of_decide_eq_true h0
   have t44:(sgD l i).text=[44]:=by
    rcases this with h|h|h|h|h|h
    ·exact absurd (by rw [h];rfl) h0'
    ·exact absurd (by rw [h];rfl) h0'
    ·exact absurd (by rw [h];rfl) h0'
    ·exact absurd (by rw [h];rfl) h0'
    ·exact h
    ·exact absurd (by rw [h];rfl) h0'
   simp [k1,t44]
end Go.Vm
set_option autoImplicit false
set_option maxHeartbeats 16000000
set_option maxRecDepth 100000
set_option linter.unusedSimpArgs false
set_option linter.unusedVariables false
namespace Go.Vm
theorem SL_step(l:List Sg) (τ:Bool) (hg:GoodL l) (n:Nat) (hT:ST l τ n) (hL:SL l τ n):SL l τ (n+1):=by
 intro i nm d most t q hn hi hnm hd
 have hlen:=hg.len
 have e1:w64 ((i:Int)+1)=((i+1:Nat):Int):=by rw [w64_id]<;>omega
 have hgoI:=isInf_go hg (i:=i) (most:=most) (q:=q)
 have fy:=spec_infix_yes l τ hlen i (by omega) (.i true (nm.map S)) d
 have fn:=spec_infix_no l τ hlen i (by omega) (.i true (nm.map S)) d
 have stop:goOn (sgD l i) most q=false→ ∃ G,GBs G∧lw progA L.spec_l06Read_term_0 ⟨[(0,.p (0,0) 0 0),(1,I most),(4,.p (100000,0) 0 0),(5,.p (100000,1) 0 0),(6,I q)],[((0,0),5,[.a [.i τ (l.map Sg.v),I i,B false,I (d),.o 1 (List.map S nm)]]),((100000,0),4,[.a [I 0,S [],I 0,.s (100000,2) 0 0]]),((100000,1),4,[.a [I (Tm.kind t),S (Tm.name t),I (Tm.num t),.s (100000,3) 0 (Tm.kids t).length]]),((100000,2),4,[]),((100000,3),4,(Tm.kids t).map oT)]⟩=some (.exit 0,⟨[(0,.p (0,0) 0 0),(4,.p (100000,0) 0 0),(5,.p (100000,1) 0 0)],G++[((0,0),5,[.a [.i τ (l.map Sg.v),I i,B false,I (d),.o 1 (List.map S nm)]]),((100000,0),4,[.a [I 0,S [],I 0,.s (100000,2) 0 0]]),((100000,1),4,[.a [I (Tm.kind t),S (Tm.name t),I (Tm.num t),.s (100000,3) 0 (Tm.kids t).length]]),((100000,2),4,[]),((100000,3),4,(Tm.kids t).map oT)]⟩):=by
  intro hgo
  rw [hgoI]at hgo
  cases hI:isInf l i with
  |false=>
   have inf:=fn hI
   refine ⟨[((7,0),4,[.a [S [],I 0,I 0,I 0]])],.inr ⟨_,_,_,_,rfl⟩, ?_⟩
   rw [lw_eq,List.cons_append,List.nil_append]
   simp only [go_sem,Nat.reduceAdd,Nat.reduceSub,Nat.reduceMul,Nat.reduceEqDiff,Nat.reduceLeDiff,Nat.reduceBEq,reduceCtorEq,LB.spec_l06Read_term_0,inf]
  |true=>
   have inf:=fy hI
   unfold opV at inf
   refine ⟨[((7,0),4,[.a [S (if (infixOf (sgD l i).text).prio=0 then []else (sgD l i).text),I (infixOf (sgD l i).text).prio,I (infixOf (sgD l i).text).left,I (infixOf (sgD l i).text).right]])],.inr ⟨_,_,_,_,rfl⟩, ?_⟩
   rw [lw_eq,List.cons_append,List.nil_append]
   rw [hI,Bool.true_and]at hgo
   generalize hs:sgD l i=s at*
   by_cases h0:(infixOf s.text).prio=0
   ·simp only [go_sem,Nat.reduceAdd,Nat.reduceSub,Nat.reduceMul,Nat.reduceEqDiff,Nat.reduceLeDiff,Nat.reduceBEq,reduceCtorEq,LB.spec_l06Read_term_0,inf,h0]
   ·rw [decide_eq_true (show (infixOf s.text).prio ≠ 0 from h0),Bool.true_and]at hgo
    by_cases p1:most < (infixOf s.text).prio
    ·simp only [go_sem,Nat.reduceAdd,Nat.reduceSub,Nat.reduceMul,Nat.reduceEqDiff,Nat.reduceLeDiff,Nat.reduceBEq,reduceCtorEq,LB.spec_l06Read_term_0,inf,h0,p1]
    ·rw [decide_eq_true (by omega),Bool.true_and,decide_eq_false_iff_not]at hgo
     have p2:(infixOf s.text).left < q:=by omega
     simp only [go_sem,Nat.reduceAdd,Nat.reduceSub,Nat.reduceMul,Nat.reduceEqDiff,Nat.reduceLeDiff,Nat.reduceBEq,reduceCtorEq,LB.spec_l06Read_term_0,inf,h0,p1,p2]
 cases hgo:goOn (sgD l i) most q with
 |false=>
  obtain ⟨G,hG,h⟩:=stop hgo
  refine ⟨?_, ?_⟩
  ·intro t' i' nm' hp
   simp only [pL,hgo,Bool.false_eq_true,if_false,Option.some.injEq,Prod.mk.injEq]at hp
   obtain ⟨rfl,rfl,rfl⟩:=hp
   exact ⟨_,hG,h⟩
  ·intro hp
   simp only [pL,hgo,Bool.false_eq_true,if_false,reduceCtorEq]at hp
 |true=>
  have hlt:i < l.length:=goOn_lt hgo
  have hgo':=hgo
  rw [hgoI]at hgo'
  simp only [Bool.and_eq_true,decide_eq_true_eq]at hgo'
  obtain ⟨hI,h0,hp1,hp2⟩:=hgo'
  have inf:=fy hI
  unfold opV at inf
  have p1: ¬ most < (infixOf (sgD l i).text).prio:=by omega
  have p2: ¬ (infixOf (sgD l i).text).left < q:=by omega
  obtain ⟨ht1,ht2⟩:=hT (i+1) nm d (infixOf (sgD l i).text).right (by omega) (by omega) (by omega) hd
  have key: ∀ (y:Tm) (a:Nat) (nm1:List Str) (d1:Int) (b1:Bool),cw progA F.spec_l06Read_term [.b (.a [.i τ (l.map Sg.v),I ((i+1:Nat):Int),B false,I (d),.o 1 (List.map S nm)]),I (infixOf (sgD l i).text).right]=some (oT y,[.b (.a [.i τ (l.map Sg.v),I a,B b1,I (d1),.o 1 (List.map S nm1)]),I (infixOf (sgD l i).text).right])→
   lw progA L.spec_l06Read_term_0 ⟨[(0,.p (0,0) 0 0),(1,I most),(4,.p (100000,0) 0 0),(5,.p (100000,1) 0 0),(6,I q)],[((0,0),5,[.a [.i τ (l.map Sg.v),I i,B false,I (d),.o 1 (List.map S nm)]]),((100000,0),4,[.a [I 0,S [],I 0,.s (100000,2) 0 0]]),((100000,1),4,[.a [I (Tm.kind t),S (Tm.name t),I (Tm.num t),.s (100000,3) 0 (Tm.kids t).length]]),((100000,2),4,[]),((100000,3),4,(Tm.kids t).map oT)]⟩=lw progA L.spec_l06Read_term_0 ⟨[(0,.p (0,0) 0 0),(1,I most),(4,.p (100000,0) 0 0),(5,.p (100000,1) 0 0),(6,I (infixOf (sgD l i).text).prio)],[((0,0),5,[.a [.i τ (l.map Sg.v),I a,B b1,I (d1),.o 1 (List.map S nm1)]]),((100000,0),4,[.a [I 0,S [],I 0,.s (100000,2) 0 0]]),((100000,1),4,[.a [I (Tm.kind (Tm.mk 4 (sgD l i).text 0 [t,y])),S (Tm.name (Tm.mk 4 (sgD l i).text 0 [t,y])),I (Tm.num (Tm.mk 4 (sgD l i).text 0 [t,y])),.s (100000,3) 0 (Tm.kids (Tm.mk 4 (sgD l i).text 0 [t,y])).length]]),((100000,2),4,[]),((100000,3),4,(Tm.kids (Tm.mk 4 (sgD l i).text 0 [t,y])).map oT)]⟩:=by
   intro y a nm1 d1 b1 hc
   rw [oT_mk y]at hc
   have st:=l03Two_io (sgD l i).text t y
   rw [oT_struct]at st
   simp only [List.map_cons,List.map_nil,oT_mk t,oT_mk y]at st
   have tk: ∀ x:Tm,(x.kids.map oT).take x.kids.length=x.kids.map oT:=fun x=>List.take_of_length_le (by simp)
   rw [lw_eq]
   simp only [Tm.kind_mk,Tm.name_mk,Tm.num_mk,Tm.kids_mk,List.map_cons,List.map_nil,List.length_cons,List.length_nil,oT_mk t,oT_mk y]
   generalize hs:sgD l i=s at*
   simp only [go_sem,Nat.reduceAdd,Nat.reduceSub,Nat.reduceMul,Nat.reduceEqDiff,Nat.reduceLeDiff,Nat.reduceBEq,reduceCtorEq,LB.spec_l06Read_term_0,inf,h0,p1,p2,e1,hc,st,tk,dT]
  refine ⟨?_, ?_⟩
  ·intro t' i' nm' hp
   simp only [pL,hgo,if_true]at hp
   split at hp
   ·cases hp
   ·rename_i y i1 nm1 hp1'
    have adv:=(p_adv l n).1 _ _ _ _ _ _ _ hp1'
    have nl:=(p_nlen l n).1 _ _ _ _ _ _ _ hp1'
    rw [key y i1 nm1 d false (ht1 y i1 nm1 hp1')]
    exact (hL i1 nm1 d most _ _ (by omega) adv.2 (by omega) hd).1 t' i' nm' hp
  ·intro hp
   simp only [pL,hgo,if_true]at hp
   split at hp
   ·rename_i hp1'
    obtain ⟨g,cs,⟨a,nm1,d1,ha,rfl⟩,hc⟩:=ht2 hp1'
    refine ⟨.mk 4 (sgD l i).text 0 [t,g],a,nm1,d1,[],by omega,.inl rfl, ?_⟩
    rw [key g a nm1 d1 true hc]
    exact sbadexit l τ a nm1 d1 _ _ _
   ·rename_i y i1 nm1 hp1'
    have adv:=(p_adv l n).1 _ _ _ _ _ _ _ hp1'
    have nl:=(p_nlen l n).1 _ _ _ _ _ _ _ hp1'
    obtain ⟨g,a,nm',d',G,ha,hG,h⟩:=(hL i1 nm1 d most _ _ (by omega) adv.2 (by omega) hd).2 hp
    refine ⟨g,a,nm',d',G,by omega,hG, ?_⟩
    rw [key y i1 nm1 d false (ht1 y i1 nm1 hp1')]
    exact h
theorem ST_step(l:List Sg) (τ:Bool) (n:Nat) (hP:SP l τ n) (hL:SL l τ n):ST l τ (n+1):=by
 intro i nm d most hn hi hnm hd
 have e1:w64 ((d:Int)+1)=((d+1:Nat):Int):=by rw [w64_id]<;>omega
 have e2:w64 (((d+1:Nat):Int) - 1)=(d:Int):=by rw [w64_id]<;>omega
 by_cases h130:130≤d
 ·refine ⟨?_, ?_⟩
  ·intro t i' nm' hp;simp only [pT,if_pos h130,reduceCtorEq]at hp
  ·intro _
   refine ⟨.mk 0 [] 0 [],_,⟨i,nm,((d+1:Nat):Int),by omega,rfl⟩, ?_⟩
   have d0:(130:Int) < ((d+1:Nat):Int):=by omega
   rw [cw_fn pA_spec_l06Read_term rfl,oT_leaf]
   simp only [go_sem,Nat.reduceAdd,Nat.reduceSub,Nat.reduceMul,Nat.reduceEqDiff,Nat.reduceLeDiff,Nat.reduceBEq,reduceCtorEq,A.spec_l06Read_term,finish,d0,e1]
 have d0: ¬ (130:Int) < ((d+1:Nat):Int):=by omega
 obtain ⟨hp1,hp2⟩:=hP i nm (d+1) most (by omega) hi hnm (by omega)
 have tk: ∀ x:Tm,(x.kids.map oT).take x.kids.length=x.kids.map oT:=fun x=>List.take_of_length_le (by simp)
 refine ⟨?_, ?_⟩
 ·intro t i' nm' hp
  simp only [pT,if_neg h130]at hp
  split at hp
  ·cases hp
  ·rename_i t1 q1 i1 nm1 h1
   have adv:=(p_adv l n).2.2.1 _ _ _ _ _ _ _ _ h1
   have nl:=(p_nlen l n).2.2.1 _ _ _ _ _ _ _ _ h1
   have hc:=hp1 _ _ _ _ h1
   obtain ⟨G,hG,lp⟩:=(hL i1 nm1 (d+1) most t1 q1 (by omega) adv.2 (by omega) (by omega)).1 _ _ _ hp
   rw [oT_mk t1]at hc
   rw [cw_fn pA_spec_l06Read_term rfl,oT_mk t]
   rcases hG with rfl|⟨s1,a1,a2,a3,rfl⟩
   ·simp only [List.cons_append,List.nil_append]at lp
    simp only [go_sem,Nat.reduceAdd,Nat.reduceSub,Nat.reduceMul,Nat.reduceEqDiff,Nat.reduceLeDiff,Nat.reduceBEq,reduceCtorEq,A.spec_l06Read_term,finish,d0,e1,hc,lp,e2,tk]
   ·simp only [List.cons_append,List.nil_append]at lp
    simp only [go_sem,Nat.reduceAdd,Nat.reduceSub,Nat.reduceMul,Nat.reduceEqDiff,Nat.reduceLeDiff,Nat.reduceBEq,reduceCtorEq,A.spec_l06Read_term,finish,d0,e1,hc,lp,e2,tk]
 ·intro hp
  simp only [pT,if_neg h130]at hp
  split at hp
  ·rename_i h1
   obtain ⟨g,q,cs,⟨a,nm1,d1,ha,rfl⟩,hc⟩:=hp2 h1
   refine ⟨g,_,⟨a,nm1,w64 (d1 - 1),by omega,rfl⟩, ?_⟩
   have lp:=sbadexit l τ a nm1 d1 g q most
   rw [List.nil_append]at lp
   rw [oT_mk g]at hc ⊢
   rw [cw_fn pA_spec_l06Read_term rfl]
   simp only [go_sem,Nat.reduceAdd,Nat.reduceSub,Nat.reduceMul,Nat.reduceEqDiff,Nat.reduceLeDiff,Nat.reduceBEq,reduceCtorEq,A.spec_l06Read_term,finish,d0,e1,hc,lp,tk]
  ·rename_i t1 q1 i1 nm1 h1
   have adv:=(p_adv l n).2.2.1 _ _ _ _ _ _ _ _ h1
   have nl:=(p_nlen l n).2.2.1 _ _ _ _ _ _ _ _ h1
   have hc:=hp1 _ _ _ _ h1
   obtain ⟨g,a,nm',d',G,ha,hG,lp⟩:=(hL i1 nm1 (d+1) most t1 q1 (by omega) adv.2 (by omega) (by omega)).2 hp
   refine ⟨g,_,⟨a,nm',w64 (d' - 1),by omega,rfl⟩, ?_⟩
   rw [oT_mk t1]at hc
   rw [cw_fn pA_spec_l06Read_term rfl,oT_mk g]
   rcases hG with rfl|⟨s1,a1,a2,a3,rfl⟩
   ·simp only [List.cons_append,List.nil_append]at lp
    simp only [go_sem,Nat.reduceAdd,Nat.reduceSub,Nat.reduceMul,Nat.reduceEqDiff,Nat.reduceLeDiff,Nat.reduceBEq,reduceCtorEq,A.spec_l06Read_term,finish,d0,e1,hc,lp,tk]
   ·simp only [List.cons_append,List.nil_append]at lp
    simp only [go_sem,Nat.reduceAdd,Nat.reduceSub,Nat.reduceMul,Nat.reduceEqDiff,Nat.reduceLeDiff,Nat.reduceBEq,reduceCtorEq,A.spec_l06Read_term,finish,d0,e1,hc,lp,tk]
end Go.Vm
set_option autoImplicit false
set_option maxHeartbeats 16000000
set_option maxRecDepth 100000
set_option linter.unusedSimpArgs false
set_option linter.unusedVariables false
namespace Go.Vm
def IB(l:List Sg) (τ:Bool) (n:Nat):Prop:= ∀ (i:Nat) (nm:List Str) (d:Nat) (acc:List Tm),4*(l.length - i)+1≤n→i≤l.length→nm.length≤i→acc.length≤i→d≤130→
 (∀ ks i' nm',pB l n i nm d acc=some (ks,i',nm')→ks.length≤i'∧lw progA L.impl_parser_terms_0 ⟨[(0,.p (0,0) 0 0),(3,.s (100000,0) 0 (acc).length)],[((0,0),5,[.a [.i τ (l.map Sg.v),I i,.o 1 (List.map S nm),I (d),B false]]),((100000,0),4,(acc).map oT)]⟩=some (.exit 0,⟨[(0,.p (0,0) 0 0),(3,.s (100000,0) 0 (ks).length)],[((0,0),5,[.a [.i τ (l.map Sg.v),I i',.o 1 (List.map S nm'),I (d),B false]]),((100000,0),4,(ks).map oT)]⟩))∧
 (pB l n i nm d acc=none→ ∃ (ks:List Tm) (a:Nat) (nm':List Str) (d':Int),a≤l.length+8*n∧ks.length≤l.length+1∧lw progA L.impl_parser_terms_0 ⟨[(0,.p (0,0) 0 0),(3,.s (100000,0) 0 (acc).length)],[((0,0),5,[.a [.i τ (l.map Sg.v),I i,.o 1 (List.map S nm),I (d),B false]]),((100000,0),4,(acc).map oT)]⟩=some (.exit 0,⟨[(0,.p (0,0) 0 0),(3,.s (100000,0) 0 (ks).length)],[((0,0),5,[.a [.i τ (l.map Sg.v),I a,.o 1 (List.map S nm'),I (d'),B true]]),((100000,0),4,(ks).map oT)]⟩))
def IA(l:List Sg) (τ:Bool) (n:Nat):Prop:= ∀ (i:Nat) (nm:List Str) (d:Nat),4*(l.length - i)+5≤n→i≤l.length→nm.length≤i→d≤130→
 (∀ ks i' nm',pA l n i nm d=some (ks,i',nm')→ks.length≤i'∧cw progA F.impl_parser_terms [.b (.a [.i τ (l.map Sg.v),I i,.o 1 (List.map S nm),I (d),B false])]=some (.o 4 (ks.map oT),[.b (.a [.i τ (l.map Sg.v),I i',.o 1 (List.map S nm'),I (d),B false])]))∧
 (pA l n i nm d=none→ ∃ ks cs,BadI l τ (l.length+8*n) cs∧ks.length≤l.length+1∧cw progA F.impl_parser_terms [.b (.a [.i τ (l.map Sg.v),I i,.o 1 (List.map S nm),I (d),B false])]=some (.o 4 (List.map oT ks),[.b (.a cs)]))
theorem texit(l:List Sg) (τ:Bool) (a:Nat) (nm:List Str) (d:Int) (ks:List Tm):
 lw progA L.impl_parser_terms_0 ⟨[(0,.p (0,0) 0 0),(3,.s (100000,0) 0 (ks).length)],[((0,0),5,[.a [.i τ (l.map Sg.v),I a,.o 1 (List.map S nm),I (d),B true]]),((100000,0),4,(ks).map oT)]⟩=some (.exit 0,⟨[(0,.p (0,0) 0 0),(3,.s (100000,0) 0 (ks).length)],[((0,0),5,[.a [.i τ (l.map Sg.v),I a,.o 1 (List.map S nm),I (d),B true]]),((100000,0),4,(ks).map oT)]⟩):=by
 rw [lw_eq]
 simp only [go_sem,Nat.reduceAdd,Nat.reduceSub,Nat.reduceMul,Nat.reduceEqDiff,Nat.reduceLeDiff,Nat.reduceBEq,reduceCtorEq,LB.impl_parser_terms_0]
theorem IB_step(l:List Sg) (τ:Bool) (hg:GoodL l) (n:Nat) (hT:IT l τ n) (hB:IB l τ n):IB l τ (n+1):=by
 intro i nm d acc hn hi hnm ha hd
 have hlen:=hg.len
 have im:=impl_isMark_ok l τ hlen i 0 (by omega) (by decide) (.i true (nm.map S)) d false [44]
 simp only [Nat.add_zero,Int.natCast_zero]at im
 have e1:w64 ((i:Int)+1)=((i+1:Nat):Int):=by rw [w64_id]<;>omega
 cases hm:isM l i [44]with
 |false=>
  rw [hm]at im
  have h:lw progA L.impl_parser_terms_0 ⟨[(0,.p (0,0) 0 0),(3,.s (100000,0) 0 (acc).length)],[((0,0),5,[.a [.i τ (l.map Sg.v),I i,.o 1 (List.map S nm),I (d),B false]]),((100000,0),4,(acc).map oT)]⟩=some (.exit 0,⟨[(0,.p (0,0) 0 0),(3,.s (100000,0) 0 (acc).length)],[((0,0),5,[.a [.i τ (l.map Sg.v),I i,.o 1 (List.map S nm),I (d),B false]]),((100000,0),4,(acc).map oT)]⟩):=by
   rw [lw_eq]
   simp only [go_sem,Nat.reduceAdd,Nat.reduceSub,Nat.reduceMul,Nat.reduceEqDiff,Nat.reduceLeDiff,Nat.reduceBEq,reduceCtorEq,LB.impl_parser_terms_0,im]
  refine ⟨?_, ?_⟩
  ·intro ks i' nm' hp
   simp only [pB,hm,Bool.false_eq_true,if_false,Option.some.injEq,Prod.mk.injEq]at hp
   obtain ⟨rfl,rfl,rfl⟩:=hp
   exact ⟨ha,h⟩
  ·intro hp
   simp only [pB,hm,Bool.false_eq_true,if_false,reduceCtorEq]at hp
 |true=>
  have hlt:=(isM_lt hm).1
  rw [hm]at im
  obtain ⟨ht1,ht2⟩:=hT (i+1) nm d 999 (by omega) (by omega) (by omega) hd
  have l1:decide ((acc.length+1)*56≤lim)=true:=decide_eq_true (by rw [lim_val];omega)
  have l2:decide (acc.length+1≤lim)=true:=decide_eq_true (by rw [lim_val];omega)
  have key: ∀ (y:Tm) (a:Nat) (nm1:List Str) (d1:Int) (b1:Bool),cw progA F.impl_parser_term [.b (.a [.i τ (l.map Sg.v),I ((i+1:Nat):Int),.o 1 (List.map S nm),I (d),B false]),I 999]=some (oT y,[.b (.a [.i τ (l.map Sg.v),I a,.o 1 (List.map S nm1),I (d1),B b1]),I 999])→
   lw progA L.impl_parser_terms_0 ⟨[(0,.p (0,0) 0 0),(3,.s (100000,0) 0 (acc).length)],[((0,0),5,[.a [.i τ (l.map Sg.v),I i,.o 1 (List.map S nm),I (d),B false]]),((100000,0),4,(acc).map oT)]⟩=lw progA L.impl_parser_terms_0 ⟨[(0,.p (0,0) 0 0),(3,.s (100000,0) 0 ((acc++[y])).length)],[((0,0),5,[.a [.i τ (l.map Sg.v),I a,.o 1 (List.map S nm1),I (d1),B b1]]),((100000,0),4,((acc++[y])).map oT)]⟩:=by
   intro y a nm1 d1 b1 hc
   rw [oT_mk y]at hc
   have tk:(acc.map oT).take acc.length=acc.map oT:=List.take_of_length_le (by simp)
   have tk2:(y.kids.map oT).take y.kids.length=y.kids.map oT:=List.take_of_length_le (by simp)
   rw [lw_eq]
   simp only [List.map_append,List.map_cons,List.map_nil,List.length_append,List.length_cons,List.length_nil,oT_mk y]
   simp only [go_sem,Nat.reduceAdd,Nat.reduceSub,Nat.reduceMul,Nat.reduceEqDiff,Nat.reduceLeDiff,Nat.reduceBEq,reduceCtorEq,LB.impl_parser_terms_0,im,e1,hc,l1,l2,tk,tk2]
  refine ⟨?_, ?_⟩
  ·intro ks i' nm' hp
   simp only [pB,hm,if_true]at hp
   split at hp
   ·cases hp
   ·rename_i y i1 nm1 hp1'
    have adv:=(p_adv l n).1 _ _ _ _ _ _ _ hp1'
    have nl:=(p_nlen l n).1 _ _ _ _ _ _ _ hp1'
    rw [key y i1 nm1 d false (ht1 y i1 nm1 hp1')]
    exact (hB i1 nm1 d (acc++[y]) (by omega) adv.2 (by omega) (by simp only [List.length_append,List.length_cons,List.length_nil];omega) hd).1 ks i' nm' hp
  ·intro hp
   simp only [pB,hm,if_true]at hp
   split at hp
   ·rename_i hp1'
    obtain ⟨g,cs,⟨a,nm1,d1,ha',rfl⟩,hc⟩:=ht2 hp1'
    refine ⟨acc++[g],a,nm1,d1,by omega,by simp only [List.length_append,List.length_cons,List.length_nil];omega, ?_⟩
    rw [key g a nm1 d1 true hc]
    exact texit l τ a nm1 d1 _
   ·rename_i y i1 nm1 hp1'
    have adv:=(p_adv l n).1 _ _ _ _ _ _ _ hp1'
    have nl:=(p_nlen l n).1 _ _ _ _ _ _ _ hp1'
    obtain ⟨g,a,nm',d',ha',hk,h⟩:=(hB i1 nm1 d (acc++[y]) (by omega) adv.2 (by omega) (by simp only [List.length_append,List.length_cons,List.length_nil];omega) hd).2 hp
    refine ⟨g,a,nm',d',by omega,hk, ?_⟩
    rw [key y i1 nm1 d false (ht1 y i1 nm1 hp1')]
    exact h
theorem IA_step(l:List Sg) (τ:Bool) (hg:GoodL l) (n:Nat) (hT:IT l τ n) (hB:IB l τ n):IA l τ (n+1):=by
 intro i nm d hn hi hnm hd
 have hlen:=hg.len
 obtain ⟨ht1,ht2⟩:=hT i nm d 999 (by omega) hi hnm hd
 have key: ∀ (y:Tm) (a:Nat) (nm1:List Str) (d1:Int) (b1:Bool) (ks:List Tm) (a':Nat) (nm2:List Str) (d2:Int) (b2:Bool),cw progA F.impl_parser_term [.b (.a [.i τ (l.map Sg.v),I i,.o 1 (List.map S nm),I (d),B false]),I 999]=some (oT y,[.b (.a [.i τ (l.map Sg.v),I a,.o 1 (List.map S nm1),I (d1),B b1]),I 999])→
  lw progA L.impl_parser_terms_0 ⟨[(0,.p (0,0) 0 0),(3,.s (100000,0) 0 ([y]).length)],[((0,0),5,[.a [.i τ (l.map Sg.v),I a,.o 1 (List.map S nm1),I (d1),B b1]]),((100000,0),4,([y]).map oT)]⟩=some (.exit 0,⟨[(0,.p (0,0) 0 0),(3,.s (100000,0) 0 (ks).length)],[((0,0),5,[.a [.i τ (l.map Sg.v),I a',.o 1 (List.map S nm2),I (d2),B b2]]),((100000,0),4,(ks).map oT)]⟩)→
  cw progA F.impl_parser_terms [.b (.a [.i τ (l.map Sg.v),I i,.o 1 (List.map S nm),I (d),B false])]=some (.o 4 (ks.map oT),[.b (.a [.i τ (l.map Sg.v),I a',.o 1 (List.map S nm2),I (d2),B b2])]):=by
  intro y a nm1 d1 b1 ks a' nm2 d2 b2 hc lp
  rw [oT_mk y]at hc
  simp only [List.map_cons,List.map_nil,List.length_cons,List.length_nil,oT_mk y]at lp
  have tk:(ks.map oT).take ks.length=ks.map oT:=List.take_of_length_le (by simp)
  have tk2:(y.kids.map oT).take y.kids.length=y.kids.map oT:=List.take_of_length_le (by simp)
  rw [cw_fn pA_impl_parser_terms rfl]
  simp only [go_sem,Nat.reduceAdd,Nat.reduceSub,Nat.reduceMul,Nat.reduceEqDiff,Nat.reduceLeDiff,Nat.reduceBEq,reduceCtorEq,A.impl_parser_terms,finish,hc,lp,tk,tk2]
 refine ⟨?_, ?_⟩
 ·intro ks i' nm' hp
  simp only [pA]at hp
  split at hp
  ·cases hp
  ·rename_i y i1 nm1 hp1'
   have adv:=(p_adv l n).1 _ _ _ _ _ _ _ hp1'
   have nl:=(p_nlen l n).1 _ _ _ _ _ _ _ hp1'
   have lp:=(hB i1 nm1 d [y] (by omega) adv.2 (by omega) (by simp only [List.length_cons,List.length_nil];omega) hd).1 ks i' nm' hp
   exact ⟨lp.1,key y i1 nm1 d false ks i' nm' d false (ht1 y i1 nm1 hp1') lp.2⟩
 ·intro hp
  simp only [pA]at hp
  split at hp
  ·rename_i hp1'
   obtain ⟨g,cs,⟨a,nm1,d1,ha',rfl⟩,hc⟩:=ht2 hp1'
   exact ⟨[g],_,⟨a,nm1,d1,by omega,rfl⟩,by simp,key g a nm1 d1 true [g] a nm1 d1 true hc (texit l τ a nm1 d1 [g])⟩
  ·rename_i y i1 nm1 hp1'
   have adv:=(p_adv l n).1 _ _ _ _ _ _ _ hp1'
   have nl:=(p_nlen l n).1 _ _ _ _ _ _ _ hp1'
   obtain ⟨g,a,nm',d',ha',hk,h⟩:=(hB i1 nm1 d [y] (by omega) adv.2 (by omega) (by simp only [List.length_cons,List.length_nil];omega) hd).2 hp
   exact ⟨g,_,⟨a,nm',d',by omega,rfl⟩,hk,key y i1 nm1 d false g a nm' d' true (ht1 y i1 nm1 hp1') h⟩
end Go.Vm
set_option autoImplicit false
set_option maxHeartbeats 16000000
set_option maxRecDepth 100000
set_option linter.unusedSimpArgs false
set_option linter.unusedVariables false
namespace Go.Vm
theorem killV_dT(d:Nat) (t:Tm):killV d (dT t)=dT t:=rfl
theorem killL_dT(d:Nat): ∀ (ts:List Tm),killL d (ts.map dT)=ts.map dT
 |[]=>rfl
 |t::ts=>by rw [List.map_cons,killL,killV_dT,killL_dT d ts]
theorem repEs_dT(k:Key) (ob:Ob): ∀ (ts:List Tm),repEs k ob (ts.map dT)=none
 |[]=>rfl
 |t::ts=>by rw [List.map_cons,repEs,repEs_dT k ob ts];rfl
theorem closeE_dT(n:Nat) (T:Mem) (t:Tm):closeE (n+2) T (dT t)=(dT t,T):=rfl
theorem mapE_dT(n:Nat) (T:Mem): ∀ (ts:List Tm),mapT (closeE (n+2)) T (ts.map dT)=(ts.map dT,T)
 |[]=>rfl
 |t::ts=>by simp only [List.map_cons,mapT,closeE_dT,mapE_dT n T ts]
theorem mapE_cat(n:Nat) (T:Mem) (ys:List V): ∀ (xs:List Tm),mapT (closeE n) T (xs.map oT++ys)=(xs.map oT++(mapT (closeE n) T ys).1,(mapT (closeE n) T ys).2)
 |[]=>rfl
 |x::xs=>by
  have h:closeE n T (oT x)=(oT x,T):=by unfold closeE;rw [clE_oT];rfl
  simp only [List.map_cons,List.cons_append,mapT,h,mapE_cat n T ys xs]
theorem nilL_dT(d:Nat): ∀ (ts:List Tm) (i:Nat),nilL d i false (ts.map dT)=ts.map dT
 |[],i=>rfl
 |t::ts,i=>by
  have h:nilV d i false (dT t)=dT t:=rfl
  rw [List.map_cons,nilL,h,nilL_dT d ts]
theorem nilL_cat(d:Nat) (ys:List V) (h: ∀ i,nilL d i false ys=ys): ∀ (xs:List Tm) (i:Nat),nilL d i false (xs.map oT++ys)=xs.map oT++ys
 |[],i=>h i
 |x::xs,i=>by
  have e:nilV d i false (oT x)=oT x:=by rw [oT_mk];rfl
  rw [List.map_cons,List.cons_append,nilL,e,nilL_cat d ys h xs]
theorem renL_dT(tb:List Key): ∀ (ts:List Tm),renL tb (ts.map dT)=ts.map dT
 |[]=>rfl
 |t::ts=>by
  have h:renV tb (dT t)=dT t:=rfl
  rw [List.map_cons,renL,h,renL_dT tb ts]
theorem renL_cat(tb:List Key) (ys:List V) (h:renL tb ys=ys): ∀ (xs:List Tm),renL tb (xs.map oT++ys)=xs.map oT++ys
 |[]=>h
 |x::xs=>by
  have e:renV tb (oT x)=oT x:=by rw [oT_mk];rfl
  rw [List.map_cons,List.cons_append,renL,e,renL_cat tb ys h xs]
theorem pickB_same {α:Type} (c:Bool) (x:α):pickB c x x=x:=by cases c<;>rfl
theorem mkList_snoc(x:Tm) (r:Tm): ∀ (xs:List Tm),mkList (xs++[x]) r=mkList xs (.mk 4 [46] 0 [x,r])
 |[]=>rfl
 |y::ys=>by simp only [List.cons_append,mkList,mkList_snoc x r ys]
theorem fold_loop(l:List Sg) (τ:Bool) (a:Int) (nm:List Str) (d:Int) (b:Bool) (gs:List Tm) (hgs:gs.length≤2^30): ∀ (m:Nat),m≤gs.length→ ∀ (out:Tm),
 lw progA L.impl_parser_listTerm_0 ⟨[(0,.p (0,0) 0 0),(2,.p (100000,0) 0 0),(3,.s (100000,1) 0 gs.length),(4,.p (100000,2) 0 0),(5,I (((m:Nat):Int) - 1))],[((0,0),5,[.a [.i τ (l.map Sg.v),I a,.o 1 (List.map S nm),I (d),B b]]),((100000,0),4,[.a [I 0,S [],I 0,.s (100000,3) 0 0]]),((100000,1),4,(((gs.take m).map oT++(gs.drop m).map dT))),((100000,2),4,[.a [I (Tm.kind out),S (Tm.name out),I (Tm.num out),.s (100000,4) 0 (Tm.kids out).length]]),((100000,3),4,[]),((100000,4),4,(Tm.kids out).map oT)]⟩=
  some (.exit 0,⟨[(0,.p (0,0) 0 0),(2,.p (100000,0) 0 0),(4,.p (100000,2) 0 0)],[((0,0),5,[.a [.i τ (l.map Sg.v),I a,.o 1 (List.map S nm),I (d),B b]]),((100000,0),4,[.a [I 0,S [],I 0,.s (100000,3) 0 0]]),((100000,1),4,gs.map dT),((100000,2),4,[.a [I (mkList (gs.take m) out).kind,S (mkList (gs.take m) out).name,I (mkList (gs.take m) out).num,.s (100000,4) 0 (mkList (gs.take m) out).kids.length]]),((100000,3),4,[]),((100000,4),4,(mkList (gs.take m) out).kids.map oT)]⟩)
 |0,hm,out=>by
  have h1:((0:Nat):Int) - 1= -1:=rfl
  have h2: ¬ (0:Int)≤ -1:=by decide
  rw [lw_eq,h1]
  simp only [List.take_zero,List.drop_zero,List.map_nil,List.nil_append,mkList]
  simp only [go_sem,Nat.reduceAdd,Nat.reduceSub,Nat.reduceMul,Nat.reduceEqDiff,Nat.reduceLeDiff,Nat.reduceBEq,reduceCtorEq,LB.impl_parser_listTerm_0,h2]
 |k+1,hm,out=>by
  have hk:k < gs.length:=hm
  obtain ⟨g,hgk⟩:=get_some' (l:=gs) (i:=k) hk
  have h1:((k+1:Nat):Int) - 1=(k:Int):=by omega
  have hge:(0:Int)≤k:=by omega
  have hlen:((gs.take k).map oT).length=k:=by rw [List.length_map,List.length_take];omega
  have ix:=fun y=>ixO_some (k:=(100000,1)) (e:=4) (xs:=(gs.take k).map oT++y::(gs.drop (k+1)).map dT) (i:=k) (len:=gs.length) (by omega) (by simp only [List.length_append,List.length_map,List.length_take,List.length_cons,List.length_drop];omega)
  have cg:=fun y zs=>cell_get ((gs.take k).map oT) y zs k hlen
  have cs:=fun y y' zs=>cell_set ((gs.take k).map oT) y y' zs k hlen
  have st:=struct2 [46] g out
  have tk: ∀ x:Tm,(x.kids.map oT).take x.kids.length=x.kids.map oT:=fun x=>List.take_of_length_le (by simp)
  have rp:=fun k' ob (y:V) (ys:List V)=>repEs_app k' ob ((gs.take k).map oT) (y::ys) (clEs_mT _)
  have hrow:(gs.take (k+1)).map oT++(gs.drop (k+1)).map dT=(gs.take k).map oT++oT g::(gs.drop (k+1)).map dT:=(row_next (f:=oT) hgk _).symm
  have hdrop:gs.drop k=g::gs.drop (k+1):=by
   obtain ⟨h3,h4⟩:=List.getElem?_eq_some_iff.1 hgk
   rw [← h4];exact List.drop_eq_getElem_cons h3
  have hml:mkList (gs.take (k+1)) out=mkList (gs.take k) (.mk 4 [46] 0 [g,out]):=by
   obtain ⟨h3,h4⟩:=List.getElem?_eq_some_iff.1 hgk
   rw [List.take_succ_eq_append_getElem h3,h4,mkList_snoc]
  have ih:=fold_loop l τ a nm d b gs hgs k (by omega) (.mk 4 [46] 0 [g,out])
  have e1:w64 ((k:Int) - 1)=(k:Int) - 1:=by rw [w64_id]<;>omega
  have nl:=nilL_cat 0 ((g::gs.drop (k+1)).map dT) (fun i=>nilL_dT 0 _ i) (gs.take k) 0
  have rl:=fun tb=>renL_cat tb ((g::gs.drop (k+1)).map dT) (renL_dT tb _) (gs.take k)
  rw [hml,h1,hrow, ← ih,hdrop,oT_mk g]
  simp only [List.map_cons,List.map_nil,Tm.kind_mk,Tm.name_mk,Tm.num_mk,Tm.kids_mk,List.length_cons,List.length_nil,oT_mk g,oT_mk out]
  simp only [List.map_cons,dT]at nl rl
  rw [lw_eq]
  simp only [go_sem,Nat.reduceAdd,Nat.reduceSub,Nat.reduceMul,Nat.reduceEqDiff,Nat.reduceLeDiff,Nat.reduceBEq,reduceCtorEq,LB.impl_parser_listTerm_0,hge,ix,cg,cs,dT,Int.toNat_natCast,st,tk,killL_dT,repEs_dT,rp,mapE_dT,mapE_cat,e1,nl,rl,pickB_same]
end Go.Vm
set_option autoImplicit false
set_option maxHeartbeats 16000000
set_option maxRecDepth 100000
set_option linter.unusedSimpArgs false
set_option linter.unusedVariables false
namespace Go.Vm
theorem mapV_cat(n:Nat) (T:Mem) (ys:List V): ∀ (xs:List Tm),mapT (closeV (n+2)) T (xs.map oT++ys)=(xs.map oT++(mapT (closeV (n+2)) T ys).1,(mapT (closeV (n+2)) T ys).2)
 |[]=>rfl
 |x::xs=>by
  have h:closeV (n+2) T (oT x)=(oT x,T):=by rw [oT_mk];rfl
  simp only [List.map_cons,List.cons_append,mapT,h,mapV_cat n T ys xs]
def EXs(l:List Sg) (τ:Bool) (s:Str) (a:Nat) (nm:List Str) (d:Int) (b:Bool) (ks:List Tm) (st:St):Prop:=
 (b=true∧st=⟨[(0,.p (0,0) 0 0),(4,.p (100000,0) 0 0),(5,.p (100000,1) 0 0)],[((0,0),5,[.a [.i τ (l.map Sg.v),I a,B true,I (d),.o 1 (List.map S nm)]]),((100000,0),4,[.a [I 0,S [],I 0,.s (100000,2) 0 0]]),((100000,1),4,[.a [I (Tm.kind (Tm.mk 4 s 0 ks)),S (Tm.name (Tm.mk 4 s 0 ks)),I (Tm.num (Tm.mk 4 s 0 ks)),.s (100000,3) 0 (Tm.kids (Tm.mk 4 s 0 ks)).length]]),((100000,2),4,[]),((100000,3),4,(Tm.kids (Tm.mk 4 s 0 ks)).map oT)]⟩)∨(b=true∧ ∃ y:Tm,st=⟨[(0,.p (0,0) 0 0),(4,.p (100000,0) 0 0),(5,.p (100000,1) 0 0)],[((0,0),5,[.a [.i τ (l.map Sg.v),I a,B true,I (d),.o 1 (List.map S nm)]]),((6,0),4,[.a [I (Tm.kind y),S (Tm.name y),I (Tm.num y),.s (15,0) 0 (Tm.kids y).length]]),((15,0),4,(Tm.kids y).map oT),((100000,0),4,[.a [I 0,S [],I 0,.s (100000,2) 0 0]]),((100000,1),4,[.a [I 4,S s,I 0,.s (100000,3) 0 (ks).length]]),((100000,2),4,[]),((100000,3),4,(ks).map oT)]⟩)∨(b=false∧ ∃ (acc:List Tm) (y:Tm),ks=acc++[y]∧st=⟨[(0,.p (0,0) 0 0),(4,.p (100000,0) 0 0),(5,.p (100000,1) 0 0)],[((0,0),5,[.a [.i τ (l.map Sg.v),I a,B false,I (d),.o 1 (List.map S nm)]]),((100000,1),4,[.a [I 4,S s,I 0,.s (27,0) 0 ((acc).length+1)]]),((27,0),4,(acc).map oT++[.a [I (Tm.kind y),S (Tm.name y),I (Tm.num y),.s (15,0) 0 (Tm.kids y).length]]),((26,0),4,[.a [I (Tm.kind y),S (Tm.name y),I (Tm.num y),.s (15,0) 0 (Tm.kids y).length]]),((6,0),4,[.a [I (Tm.kind y),S (Tm.name y),I (Tm.num y),.s (15,0) 0 (Tm.kids y).length]]),((15,0),4,(Tm.kids y).map oT),((100000,0),4,[.a [I 0,S [],I 0,.s (100000,2) 0 0]]),((100000,2),4,[])]⟩)
def pC(l:List Sg) (n:Nat) (i:Nat) (nm:List Str) (d:Nat) (acc:List Tm):Option (List Tm × Nat × List Str):=
 match pT l n i nm d 999 with
 |none=>none
 |some (t,i',nm')=>pB l n i' nm' d (acc++[t])
def SS(l:List Sg) (τ:Bool) (n:Nat):Prop:= ∀ (i:Nat) (nm:List Str) (d:Nat) (s:Str) (acc:List Tm),4*(l.length - i)+4≤n→i≤l.length→nm.length≤i→acc.length≤5→d≤130→
 (∀ ks i' nm',pC l n i nm d acc=some (ks,i',nm')→isM l i' [41]=true→ks.length≤5→ ∃ st,EXs l τ s (i'+1) nm' d false ks st∧lw progA L.spec_l06Read_some_0 ⟨[(0,.p (0,0) 0 0),(4,.p (100000,0) 0 0),(5,.p (100000,1) 0 0)],[((0,0),5,[.a [.i τ (l.map Sg.v),I i,B false,I (d),.o 1 (List.map S nm)]]),((100000,0),4,[.a [I 0,S [],I 0,.s (100000,2) 0 0]]),((100000,1),4,[.a [I (Tm.kind (Tm.mk 4 s 0 acc)),S (Tm.name (Tm.mk 4 s 0 acc)),I (Tm.num (Tm.mk 4 s 0 acc)),.s (100000,3) 0 (Tm.kids (Tm.mk 4 s 0 acc)).length]]),((100000,2),4,[]),((100000,3),4,(Tm.kids (Tm.mk 4 s 0 acc)).map oT)]⟩=some (.exit 0,st))∧
 ((∀ ks i' nm',pC l n i nm d acc=some (ks,i',nm')→ ¬ (isM l i' [41]=true∧ks.length≤5))→ ∃ ks a nm' d' st,a≤l.length+8*n∧EXs l τ s a nm' d' true ks st∧lw progA L.spec_l06Read_some_0 ⟨[(0,.p (0,0) 0 0),(4,.p (100000,0) 0 0),(5,.p (100000,1) 0 0)],[((0,0),5,[.a [.i τ (l.map Sg.v),I i,B false,I (d),.o 1 (List.map S nm)]]),((100000,0),4,[.a [I 0,S [],I 0,.s (100000,2) 0 0]]),((100000,1),4,[.a [I (Tm.kind (Tm.mk 4 s 0 acc)),S (Tm.name (Tm.mk 4 s 0 acc)),I (Tm.num (Tm.mk 4 s 0 acc)),.s (100000,3) 0 (Tm.kids (Tm.mk 4 s 0 acc)).length]]),((100000,2),4,[]),((100000,3),4,(Tm.kids (Tm.mk 4 s 0 acc)).map oT)]⟩=some (.exit 0,st))
theorem pB_grow(l:List Sg): ∀ (n i:Nat) (nm:List Str) (d:Nat) (acc ks:List Tm) (i':Nat) (nm':List Str),pB l n i nm d acc=some (ks,i',nm')→acc.length≤ks.length
 |0,i,nm,d,acc,ks,i',nm',h=>by simp [pB]at h
 |n+1,i,nm,d,acc,ks,i',nm',h=>by
  simp only [pB]at h
  split at h
  ·split at h
   ·cases h
   ·have:=pB_grow l n _ _ _ _ _ _ _ h
    simp only [List.length_append,List.length_cons,List.length_nil]at this
    omega
  ·cases h;omega
theorem some_five(l:List Sg) (τ:Bool) (i:Nat) (nm:List Str) (d:Int) (s:Str) (acc:List Tm) (y:Tm) (a:Nat) (nm1:List Str) (d1:Int) (b1:Bool)
 (hc:cw progA F.spec_l06Read_term [.b (.a [.i τ (l.map Sg.v),I i,B false,I (d),.o 1 (List.map S nm)]),I 999]=some (oT y,[.b (.a [.i τ (l.map Sg.v),I a,B b1,I (d1),.o 1 (List.map S nm1)]),I 999])) (h5:5≤acc.length):
 lw progA L.spec_l06Read_some_0 ⟨[(0,.p (0,0) 0 0),(4,.p (100000,0) 0 0),(5,.p (100000,1) 0 0)],[((0,0),5,[.a [.i τ (l.map Sg.v),I i,B false,I (d),.o 1 (List.map S nm)]]),((100000,0),4,[.a [I 0,S [],I 0,.s (100000,2) 0 0]]),((100000,1),4,[.a [I (Tm.kind (Tm.mk 4 s 0 acc)),S (Tm.name (Tm.mk 4 s 0 acc)),I (Tm.num (Tm.mk 4 s 0 acc)),.s (100000,3) 0 (Tm.kids (Tm.mk 4 s 0 acc)).length]]),((100000,2),4,[]),((100000,3),4,(Tm.kids (Tm.mk 4 s 0 acc)).map oT)]⟩=some (.exit 0,⟨[(0,.p (0,0) 0 0),(4,.p (100000,0) 0 0),(5,.p (100000,1) 0 0)],[((0,0),5,[.a [.i τ (l.map Sg.v),I a,B true,I (d1),.o 1 (List.map S nm1)]]),((6,0),4,[.a [I (Tm.kind y),S (Tm.name y),I (Tm.num y),.s (15,0) 0 (Tm.kids y).length]]),((15,0),4,(Tm.kids y).map oT),((100000,0),4,[.a [I 0,S [],I 0,.s (100000,2) 0 0]]),((100000,1),4,[.a [I 4,S s,I 0,.s (100000,3) 0 (acc).length]]),((100000,2),4,[]),((100000,3),4,(acc).map oT)]⟩):=by
 have h5':(5:Int)≤(acc.length:Int):=by omega
 rw [oT_mk y]at hc
 have tk: ∀ x:Tm,(x.kids.map oT).take x.kids.length=x.kids.map oT:=fun x=>List.take_of_length_le (by simp)
 simp only [Tm.kind_mk,Tm.name_mk,Tm.num_mk,Tm.kids_mk]
 rw [lw_eq]
 simp only [go_sem,Nat.reduceAdd,Nat.reduceSub,Nat.reduceMul,Nat.reduceEqDiff,Nat.reduceLeDiff,Nat.reduceBEq,reduceCtorEq,LB.spec_l06Read_some_0,hc,tk,h5']
theorem some_end(l:List Sg) (τ:Bool) (hg:GoodL l) (i:Nat) (nm:List Str) (d:Int) (s:Str) (acc:List Tm) (y:Tm) (a:Nat) (ha:a≤2^40) (nm1:List Str) (d1:Int)
 (hc:cw progA F.spec_l06Read_term [.b (.a [.i τ (l.map Sg.v),I i,B false,I (d),.o 1 (List.map S nm)]),I 999]=some (oT y,[.b (.a [.i τ (l.map Sg.v),I a,B false,I (d1),.o 1 (List.map S nm1)]),I 999])) (h5: ¬ 5≤acc.length) (hm:isM l a [41]=true):
 lw progA L.spec_l06Read_some_0 ⟨[(0,.p (0,0) 0 0),(4,.p (100000,0) 0 0),(5,.p (100000,1) 0 0)],[((0,0),5,[.a [.i τ (l.map Sg.v),I i,B false,I (d),.o 1 (List.map S nm)]]),((100000,0),4,[.a [I 0,S [],I 0,.s (100000,2) 0 0]]),((100000,1),4,[.a [I (Tm.kind (Tm.mk 4 s 0 acc)),S (Tm.name (Tm.mk 4 s 0 acc)),I (Tm.num (Tm.mk 4 s 0 acc)),.s (100000,3) 0 (Tm.kids (Tm.mk 4 s 0 acc)).length]]),((100000,2),4,[]),((100000,3),4,(Tm.kids (Tm.mk 4 s 0 acc)).map oT)]⟩=some (.exit 0,⟨[(0,.p (0,0) 0 0),(4,.p (100000,0) 0 0),(5,.p (100000,1) 0 0)],[((0,0),5,[.a [.i τ (l.map Sg.v),I ((a+1:Nat):Int),B false,I (d1),.o 1 (List.map S nm1)]]),((100000,1),4,[.a [I 4,S s,I 0,.s (27,0) 0 ((acc).length+1)]]),((27,0),4,(acc).map oT++[.a [I (Tm.kind y),S (Tm.name y),I (Tm.num y),.s (15,0) 0 (Tm.kids y).length]]),((26,0),4,[.a [I (Tm.kind y),S (Tm.name y),I (Tm.num y),.s (15,0) 0 (Tm.kids y).length]]),((6,0),4,[.a [I (Tm.kind y),S (Tm.name y),I (Tm.num y),.s (15,0) 0 (Tm.kids y).length]]),((15,0),4,(Tm.kids y).map oT),((100000,0),4,[.a [I 0,S [],I 0,.s (100000,2) 0 0]]),((100000,2),4,[])]⟩):=by
 have hlen:=hg.len
 have h5': ¬ (5:Int)≤(acc.length:Int):=by omega
 have l1:decide ((acc.length+1)*56≤lim)=true:=decide_eq_true (by rw [lim_val];omega)
 have l2:decide (acc.length+1≤lim)=true:=decide_eq_true (by rw [lim_val];omega)
 have mk:=spec_mark_yes l τ hlen a ha nm1 d1 [41] (by decide) hm
 rw [oT_mk y]at hc
 have tk: ∀ x:Tm,(x.kids.map oT).take x.kids.length=x.kids.map oT:=fun x=>List.take_of_length_le (by simp)
 have tk2:(acc.map oT).take acc.length=acc.map oT:=List.take_of_length_le (by simp)
 simp only [Tm.kind_mk,Tm.name_mk,Tm.num_mk,Tm.kids_mk]
 rw [lw_eq]
 simp only [go_sem,Nat.reduceAdd,Nat.reduceSub,Nat.reduceMul,Nat.reduceEqDiff,Nat.reduceLeDiff,Nat.reduceBEq,reduceCtorEq,LB.spec_l06Read_some_0,hc,tk,tk2,h5',mk,l1,l2]
theorem some_next(l:List Sg) (τ:Bool) (hg:GoodL l) (i:Nat) (nm:List Str) (d:Int) (s:Str) (acc:List Tm) (y:Tm) (a:Nat) (ha:a≤2^40) (nm1:List Str) (d1:Int) (b1:Bool)
 (hc:cw progA F.spec_l06Read_term [.b (.a [.i τ (l.map Sg.v),I i,B false,I (d),.o 1 (List.map S nm)]),I 999]=some (oT y,[.b (.a [.i τ (l.map Sg.v),I a,B b1,I (d1),.o 1 (List.map S nm1)]),I 999])) (h5: ¬ 5≤acc.length) (hm:(!b1&&isM l a [41])=false):
 (b1=false→isM l a [44]=true→lw progA L.spec_l06Read_some_0 ⟨[(0,.p (0,0) 0 0),(4,.p (100000,0) 0 0),(5,.p (100000,1) 0 0)],[((0,0),5,[.a [.i τ (l.map Sg.v),I i,B false,I (d),.o 1 (List.map S nm)]]),((100000,0),4,[.a [I 0,S [],I 0,.s (100000,2) 0 0]]),((100000,1),4,[.a [I (Tm.kind (Tm.mk 4 s 0 acc)),S (Tm.name (Tm.mk 4 s 0 acc)),I (Tm.num (Tm.mk 4 s 0 acc)),.s (100000,3) 0 (Tm.kids (Tm.mk 4 s 0 acc)).length]]),((100000,2),4,[]),((100000,3),4,(Tm.kids (Tm.mk 4 s 0 acc)).map oT)]⟩=lw progA L.spec_l06Read_some_0 ⟨[(0,.p (0,0) 0 0),(4,.p (100000,0) 0 0),(5,.p (100000,1) 0 0)],[((0,0),5,[.a [.i τ (l.map Sg.v),I ((a+1:Nat):Int),B false,I (d1),.o 1 (List.map S nm1)]]),((100000,0),4,[.a [I 0,S [],I 0,.s (100000,2) 0 0]]),((100000,1),4,[.a [I (Tm.kind (Tm.mk 4 s 0 (acc++[y]))),S (Tm.name (Tm.mk 4 s 0 (acc++[y]))),I (Tm.num (Tm.mk 4 s 0 (acc++[y]))),.s (100000,3) 0 (Tm.kids (Tm.mk 4 s 0 (acc++[y]))).length]]),((100000,2),4,[]),((100000,3),4,(Tm.kids (Tm.mk 4 s 0 (acc++[y]))).map oT)]⟩)∧
 ((!b1&&isM l a [44])=false→lw progA L.spec_l06Read_some_0 ⟨[(0,.p (0,0) 0 0),(4,.p (100000,0) 0 0),(5,.p (100000,1) 0 0)],[((0,0),5,[.a [.i τ (l.map Sg.v),I i,B false,I (d),.o 1 (List.map S nm)]]),((100000,0),4,[.a [I 0,S [],I 0,.s (100000,2) 0 0]]),((100000,1),4,[.a [I (Tm.kind (Tm.mk 4 s 0 acc)),S (Tm.name (Tm.mk 4 s 0 acc)),I (Tm.num (Tm.mk 4 s 0 acc)),.s (100000,3) 0 (Tm.kids (Tm.mk 4 s 0 acc)).length]]),((100000,2),4,[]),((100000,3),4,(Tm.kids (Tm.mk 4 s 0 acc)).map oT)]⟩=lw progA L.spec_l06Read_some_0 ⟨[(0,.p (0,0) 0 0),(4,.p (100000,0) 0 0),(5,.p (100000,1) 0 0)],[((0,0),5,[.a [.i τ (l.map Sg.v),I a,B true,I (d1),.o 1 (List.map S nm1)]]),((100000,0),4,[.a [I 0,S [],I 0,.s (100000,2) 0 0]]),((100000,1),4,[.a [I (Tm.kind (Tm.mk 4 s 0 (acc++[y]))),S (Tm.name (Tm.mk 4 s 0 (acc++[y]))),I (Tm.num (Tm.mk 4 s 0 (acc++[y]))),.s (100000,3) 0 (Tm.kids (Tm.mk 4 s 0 (acc++[y]))).length]]),((100000,2),4,[]),((100000,3),4,(Tm.kids (Tm.mk 4 s 0 (acc++[y]))).map oT)]⟩):=by
 have hlen:=hg.len
 have h5': ¬ (5:Int)≤(acc.length:Int):=by omega
 have l1:decide ((acc.length+1)*56≤lim)=true:=decide_eq_true (by rw [lim_val];omega)
 have l2:decide (acc.length+1≤lim)=true:=decide_eq_true (by rw [lim_val];omega)
 have mk:=spec_mark_no l τ hlen a ha nm1 d1 b1 [41] (by decide) hm
 rw [oT_mk y]at hc
 have tk: ∀ x:Tm,(x.kids.map oT).take x.kids.length=x.kids.map oT:=fun x=>List.take_of_length_le (by simp)
 have tk2:(acc.map oT).take acc.length=acc.map oT:=List.take_of_length_le (by simp)
 have rp:=fun k' ob (y:V) (ys:List V)=>repEs_app k' ob (acc.map oT) (y::ys) (clEs_mT _)
 simp only [Tm.kind_mk,Tm.name_mk,Tm.num_mk,Tm.kids_mk,List.map_append,List.map_cons,List.map_nil,List.length_append,List.length_cons,List.length_nil,oT_mk y]
 refine ⟨?_, ?_⟩
 ·intro hb hw
  subst hb
  have wt:=spec_wants_yes l τ hlen a ha nm1 d1 [44] (by decide) hw
  rw [lw_eq]
  simp only [go_sem,Nat.reduceAdd,Nat.reduceSub,Nat.reduceMul,Nat.reduceEqDiff,Nat.reduceLeDiff,Nat.reduceBEq,reduceCtorEq,LB.spec_l06Read_some_0,hc,tk,tk2,h5',mk,l1,l2,wt,rp,Option.map_some,mapE_cat]
 ·intro hw
  have wt:=spec_wants_no l τ hlen a ha nm1 d1 b1 [44] (by decide) hw
  rw [lw_eq]
  simp only [go_sem,Nat.reduceAdd,Nat.reduceSub,Nat.reduceMul,Nat.reduceEqDiff,Nat.reduceLeDiff,Nat.reduceBEq,reduceCtorEq,LB.spec_l06Read_some_0,hc,tk,tk2,h5',mk,l1,l2,wt,rp,Option.map_some,mapE_cat]
theorem some_bad(l:List Sg) (τ:Bool) (a:Nat) (nm:List Str) (d:Int) (t:Tm):
 lw progA L.spec_l06Read_some_0 ⟨[(0,.p (0,0) 0 0),(4,.p (100000,0) 0 0),(5,.p (100000,1) 0 0)],[((0,0),5,[.a [.i τ (l.map Sg.v),I a,B true,I (d),.o 1 (List.map S nm)]]),((100000,0),4,[.a [I 0,S [],I 0,.s (100000,2) 0 0]]),((100000,1),4,[.a [I (Tm.kind t),S (Tm.name t),I (Tm.num t),.s (100000,3) 0 (Tm.kids t).length]]),((100000,2),4,[]),((100000,3),4,(Tm.kids t).map oT)]⟩=some (.exit 0,⟨[(0,.p (0,0) 0 0),(4,.p (100000,0) 0 0),(5,.p (100000,1) 0 0)],[((0,0),5,[.a [.i τ (l.map Sg.v),I a,B true,I (d),.o 1 (List.map S nm)]]),((100000,0),4,[.a [I 0,S [],I 0,.s (100000,2) 0 0]]),((100000,1),4,[.a [I (Tm.kind t),S (Tm.name t),I (Tm.num t),.s (100000,3) 0 (Tm.kids t).length]]),((100000,2),4,[]),((100000,3),4,(Tm.kids t).map oT)]⟩):=by
 rw [lw_eq]
 simp only [go_sem,Nat.reduceAdd,Nat.reduceSub,Nat.reduceMul,Nat.reduceEqDiff,Nat.reduceLeDiff,Nat.reduceBEq,reduceCtorEq,LB.spec_l06Read_some_0]
theorem some_fin(l:List Sg) (τ:Bool) (i:Nat) (nm:List Str) (d:Int) (s:Str) (a:Nat) (nm1:List Str) (d1:Int) (b1:Bool) (ks:List Tm) (st:St) (he:EXs l τ s a nm1 d1 b1 ks st)
 (hl:lw progA L.spec_l06Read_some_0 ⟨[(0,.p (0,0) 0 0),(4,.p (100000,0) 0 0),(5,.p (100000,1) 0 0)],[((0,0),5,[.a [.i τ (l.map Sg.v),I i,B false,I (d),.o 1 (List.map S nm)]]),((100000,0),4,[.a [I 0,S [],I 0,.s (100000,2) 0 0]]),((100000,1),4,[.a [I (Tm.kind (Tm.mk 4 s 0 [])),S (Tm.name (Tm.mk 4 s 0 [])),I (Tm.num (Tm.mk 4 s 0 [])),.s (100000,3) 0 (Tm.kids (Tm.mk 4 s 0 [])).length]]),((100000,2),4,[]),((100000,3),4,(Tm.kids (Tm.mk 4 s 0 [])).map oT)]⟩=some (.exit 0,st)):
 cw progA F.spec_l06Read_some [.b (.a [.i τ (l.map Sg.v),I i,B false,I (d),.o 1 (List.map S nm)]),S s]=some (oT (.mk 4 s 0 ks),[.b (.a [.i τ (l.map Sg.v),I a,B b1,I (d1),.o 1 (List.map S nm1)]),S s]):=by
 simp only [Tm.kind_mk,Tm.name_mk,Tm.num_mk,Tm.kids_mk,List.map_nil,List.length_nil]at hl
 have tk2: ∀ ks:List Tm,(ks.map oT).take ks.length=ks.map oT:=fun ks=>List.take_of_length_le (by simp)
 rw [cw_fn pA_spec_l06Read_some rfl,oT_struct]
 rcases he with ⟨rfl,rfl⟩|⟨rfl,y,rfl⟩|⟨rfl,acc,y,rfl,rfl⟩
 ·simp only [Tm.kind_mk,Tm.name_mk,Tm.num_mk,Tm.kids_mk]at hl
  simp only [go_sem,Nat.reduceAdd,Nat.reduceSub,Nat.reduceMul,Nat.reduceEqDiff,Nat.reduceLeDiff,Nat.reduceBEq,reduceCtorEq,A.spec_l06Read_some,finish,hl,tk2]
 ·simp only [go_sem,Nat.reduceAdd,Nat.reduceSub,Nat.reduceMul,Nat.reduceEqDiff,Nat.reduceLeDiff,Nat.reduceBEq,reduceCtorEq,A.spec_l06Read_some,finish,hl,tk2]
 ·have rp:=fun k' ob (y:V) (ys:List V)=>repEs_app k' ob (acc.map oT) (y::ys) (clEs_mT _)
  simp only [List.map_append,List.map_cons,List.map_nil,oT_mk y]
  have tk3:(acc.map oT++[V.a [I y.kind,S y.name,I y.num,.o 4 (y.kids.map oT)]]).take (acc.length+1)=acc.map oT++[V.a [I y.kind,S y.name,I y.num,.o 4 (y.kids.map oT)]]:=List.take_of_length_le (by simp)
  simp only [go_sem,Nat.reduceAdd,Nat.reduceSub,Nat.reduceMul,Nat.reduceEqDiff,Nat.reduceLeDiff,Nat.reduceBEq,reduceCtorEq,A.spec_l06Read_some,finish,hl,tk2,tk3,rp,Option.map_some,mapE_cat,mapV_cat,List.length_append,List.length_map,List.length_cons,List.length_nil]
end Go.Vm
set_option autoImplicit false
set_option maxHeartbeats 16000000
set_option maxRecDepth 100000
set_option linter.unusedSimpArgs false
set_option linter.unusedVariables false
namespace Go.Vm
theorem isM_ne(l:List Sg) (i:Nat) (t u:Str) (h:isM l i t=true) (htu:t ≠ u):isM l i u=false:=by
 have:=isM_lt h
 unfold isM
 rw [this.2.2,decide_eq_false htu,Bool.and_false]
theorem SS_step(l:List Sg) (τ:Bool) (hg:GoodL l) (n:Nat) (hn20:n≤2^20) (hT:ST l τ n) (hq: ∀ m,m+1=n→SS l τ m):SS l τ n:=by
 intro i nm d s acc hn hi hnm hacc hd
 have hlen:=hg.len
 obtain ⟨ht1,ht2⟩:=hT i nm d 999 (by omega) hi hnm hd
 obtain ⟨m,rfl⟩: ∃ m,n=m+1:=⟨n - 1,by omega⟩
 cases hp:pT l (m+1) i nm d 999 with
 |none=>
  obtain ⟨g,cs,⟨a,nm1,d1,ha,rfl⟩,hc⟩:=ht2 hp
  have pc:pC l (m+1) i nm d acc=none:=by unfold pC;rw [hp]
  rw [pc]
  refine ⟨fun ks i' nm' h=>(by cases h),fun _=> ?_⟩
  by_cases h5:5≤acc.length
  ·exact ⟨acc,a,nm1,d1,_,by omega,.inr (.inl ⟨rfl,g,rfl⟩),some_five l τ i nm d s acc g a nm1 d1 true hc h5⟩
  ·have h:=(some_next l τ hg i nm d s acc g a (by omega) nm1 d1 true hc h5 rfl).2 rfl
   exact ⟨acc++[g],a,nm1,d1,_,by omega,.inl ⟨rfl,rfl⟩,h.trans (some_bad l τ a nm1 d1 _)⟩
 |some r=>
  obtain ⟨t,i1,nm1⟩:=r
  have adv:=(p_adv l (m+1)).1 _ _ _ _ _ _ _ hp
  have nl:=(p_nlen l (m+1)).1 _ _ _ _ _ _ _ hp
  have hc:=ht1 _ _ _ hp
  have pc:pC l (m+1) i nm d acc=pB l (m+1) i1 nm1 d (acc++[t]):=by unfold pC;rw [hp]
  rw [pc]
  by_cases h5:5≤acc.length
  ·refine ⟨fun ks i' nm' h _ hk=> ?_,fun _=>⟨acc,i1,nm1,d,_,by omega,.inr (.inl ⟨rfl,t,rfl⟩),some_five l τ i nm d s acc t i1 nm1 d false hc h5⟩⟩
   have:=pB_grow l _ _ _ _ _ _ _ _ h
   simp only [List.length_append,List.length_cons,List.length_nil]at this
   omega
  cases hm:isM l i1 [41]with
  |true=>
   have h44:isM l i1 [44]=false:=isM_ne l i1 [41] [44] hm (by decide)
   have pb:pB l (m+1) i1 nm1 d (acc++[t])=some (acc++[t],i1,nm1):=by
    simp only [pB,h44,Bool.false_eq_true,if_false]
   rw [pb]
   have h:=some_end l τ hg i nm d s acc t i1 (by omega) nm1 d hc h5 hm
   refine ⟨fun ks i' nm' h' _ _=> ?_,fun h'=>absurd ⟨hm, ?_⟩ (h' _ _ _ rfl)⟩
   ·simp only [Option.some.injEq,Prod.mk.injEq]at h'
    obtain ⟨rfl,rfl,rfl⟩:=h'
    exact ⟨_,.inr (.inr ⟨rfl,acc,t,rfl,rfl⟩),h⟩
   ·simp only [List.length_append,List.length_cons,List.length_nil];omega
  |false=>
   cases h44:isM l i1 [44]with
   |true=>
    have h:=(some_next l τ hg i nm d s acc t i1 (by omega) nm1 d false hc h5 (by rw [hm];rfl)).1 rfl h44
    have pb:pB l (m+1) i1 nm1 d (acc++[t])=pC l m (i1+1) nm1 d (acc++[t]):=by
     simp only [pB,h44,if_true,pC]
     cases pT l m (i1+1) nm1 d 999<;>rfl
    have hlt:=(isM_lt h44).1
    obtain ⟨k1,k2⟩:=hq m rfl (i1+1) nm1 d s (acc++[t]) (by omega) (by omega) (by omega) (by simp only [List.length_append,List.length_cons,List.length_nil];omega) hd
    rw [pb]
    refine ⟨fun ks i' nm' h1 h2 h3=> ?_,fun h1=> ?_⟩
    ·obtain ⟨st,he,hl⟩:=k1 ks i' nm' h1 h2 h3
     exact ⟨st,he,h.trans hl⟩
    ·obtain ⟨ks,a,nm',d',st,ha,he,hl⟩:=k2 h1
     exact ⟨ks,a,nm',d',st,by omega,he,h.trans hl⟩
   |false=>
    have h:=(some_next l τ hg i nm d s acc t i1 (by omega) nm1 d false hc h5 (by rw [hm];rfl)).2 (by rw [h44];rfl)
    have pb:pB l (m+1) i1 nm1 d (acc++[t])=some (acc++[t],i1,nm1):=by
     simp only [pB,h44,Bool.false_eq_true,if_false]
    rw [pb]
    refine ⟨fun ks i' nm' h' h2 _=> ?_,fun _=>⟨acc++[t],i1,nm1,d,_,by omega,.inl ⟨rfl,rfl⟩,h.trans (some_bad l τ i1 nm1 d _)⟩⟩
    simp only [Option.some.injEq,Prod.mk.injEq]at h'
    obtain ⟨rfl,rfl,rfl⟩:=h'
    rw [hm]at h2;cases h2
def isNeg(l:List Sg) (i:Nat):Bool:=decide ((sgD l (i+1)).kind=3)&&decide ((sgD l (i+1)).at_=(sgD l i).at_+1)
theorem spec_near_ok(l:List Sg) (τ:Bool) (hg:GoodL l) (a:Nat) (ha:a < l.length) (nv:V) (d:Int) (b:Bool):
 cr progA F.spec_l06Read_near [.q true [.a [.i τ (l.map Sg.v),I a,B b,I (d),nv]] 0 0]=some (B (isNeg l a)):=by
 have hlen:=hg.len
 have e1:w64 ((a:Int)+1)=((a+1:Nat):Int):=by rw [w64_id]<;>omega
 have e2:w64 ((sgD l a).at_+1)=(sgD l a).at_+1:=by
  have:=hg.at_ a
  rw [w64_id]<;>omega
 have hg0:=sgD_get ha
 have g0:=getmap (f:=Sg.v) hg0
 have a0:=fun T=>addr_i (τ:=τ) (T:=T) (e:=5) g0 rfl
 rw [Sg.v]at g0
 rw [cr_fn pA_spec_l06Read_near rfl]
 unfold isNeg
 by_cases h:a+1 < l.length
 ·have h':((a+1:Nat):Int) < (l.length:Int):=by omega
  have hg1:=sgD_get h
  have g1:=getmap (f:=Sg.v) hg1
  have a1:=fun T=>addr_i (τ:=τ) (T:=T) (e:=5) g1 rfl
  rw [Sg.v]at g1
  cases hk:decide ((sgD l (a+1)).kind=3)with
  |false=>simp only [go_sem,Nat.reduceAdd,Nat.reduceSub,Nat.reduceMul,Nat.reduceEqDiff,Nat.reduceLeDiff,Nat.reduceBEq,reduceCtorEq,A.spec_l06Read_near,e1,e2,h',List.length_map,a0,g0,a1,g1,hk,Bool.false_and]
  |true=>simp only [go_sem,Nat.reduceAdd,Nat.reduceSub,Nat.reduceMul,Nat.reduceEqDiff,Nat.reduceLeDiff,Nat.reduceBEq,reduceCtorEq,A.spec_l06Read_near,e1,e2,h',List.length_map,a0,g0,a1,g1,hk,Bool.true_and]
 ·have h': ¬ ((a+1:Nat):Int) < (l.length:Int):=by omega
  have hk:decide ((sgD l (a+1)).kind=3)=false:=by rw [sgD_out (by omega)];rfl
  rw [hk,Bool.false_and]
  simp only [go_sem,Nat.reduceAdd,Nat.reduceSub,Nat.reduceMul,Nat.reduceEqDiff,Nat.reduceLeDiff,Nat.reduceBEq,reduceCtorEq,A.spec_l06Read_near,e1,e2,h',List.length_map]
theorem round_atom(l:List Sg) (τ:Bool) (hg:GoodL l) (i:Nat) (nm:List Str) (d:Int) (hk:(sgD l i).kind=1) (hm:isM l (i+1) [41]=true):
 cw progA F.spec_l06Read_round [.b (.a [.i τ (l.map Sg.v),I i,B false,I (d),.o 1 (List.map S nm)])]=some (oT (.mk 2 (sgD l i).text 0 []),[.b (.a [.i τ (l.map Sg.v),I ((i+2:Nat):Int),B false,I (d),.o 1 (List.map S nm)])]):=by
 have hlen:=hg.len
 have hlt:=isM_lt hm
 have s:=spec_is_ok l τ hlen i (by omega) (.i true (nm.map S)) d false 1 []
 rw [isK_kind l i 1 (by decide),decide_eq_true hk]at s
 have e1:w64 ((i:Int)+1)=((i+1:Nat):Int):=by rw [w64_id]<;>omega
 have e2:w64 ((i:Int)+2)=((i+2:Nat):Int):=by rw [w64_id]<;>omega
 have e3:w64 (((i+2:Nat):Int) - 2)=(i:Int):=by rw [w64_id]<;>omega
 have h':((i+1:Nat):Int) < (l.length:Int):=by omega
 have g0:=getmap (f:=Sg.v) (sgD_get (l:=l) (i:=i) (by omega))
 have a0:=fun T=>addr_i (τ:=τ) (T:=T) (e:=5) g0 rfl
 rw [Sg.v]at g0
 have g1:=getmap (f:=Sg.v) (sgD_get hlt.1)
 have a1:=fun T=>addr_i (τ:=τ) (T:=T) (e:=5) g1 rfl
 rw [Sg.v,hlt.2.1,hlt.2.2]at g1
 have nk:=spec_l03Atom_ok (sgD l i).text
 rw [oT_leaf]at nk
 rw [cw_fn pA_spec_l06Read_round rfl,oT_leaf]
 simp only [go_sem,Nat.reduceAdd,Nat.reduceSub,Nat.reduceMul,Nat.reduceEqDiff,Nat.reduceLeDiff,Nat.reduceBEq,reduceCtorEq,A.spec_l06Read_round,finish,s,e1,e2,e3,h',List.length_map,a0,g0,a1,g1,nk,Bool.not_false,Bool.true_and]
theorem round_term(l:List Sg) (τ:Bool) (hg:GoodL l) (i:Nat) (hi:i≤l.length) (nm:List Str) (d:Int) (hn: ¬ ((sgD l i).kind=1∧isM l (i+1) [41]=true)) (t:Tm) (a:Nat) (ha:a≤2^30) (nm1:List Str) (d1:Int) (b1:Bool)
 (hT:cw progA F.spec_l06Read_term [.b (.a [.i τ (l.map Sg.v),I i,B false,I (d),.o 1 (List.map S nm)]),I 1200]=some (oT t,[.b (.a [.i τ (l.map Sg.v),I a,B b1,I (d1),.o 1 (List.map S nm1)]),I 1200])):
 (b1=false→isM l a [41]=true→cw progA F.spec_l06Read_round [.b (.a [.i τ (l.map Sg.v),I i,B false,I (d),.o 1 (List.map S nm)])]=some (oT t,[.b (.a [.i τ (l.map Sg.v),I ((a+1:Nat):Int),B false,I (d1),.o 1 (List.map S nm1)])]))∧
 ((!b1&&isM l a [41])=false→cw progA F.spec_l06Read_round [.b (.a [.i τ (l.map Sg.v),I i,B false,I (d),.o 1 (List.map S nm)])]=some (oT t,[.b (.a [.i τ (l.map Sg.v),I a,B true,I (d1),.o 1 (List.map S nm1)])])):=by
 have hlen:=hg.len
 have s:=spec_is_ok l τ hlen i (by omega) (.i true (nm.map S)) d false 1 []
 rw [isK_kind l i 1 (by decide)]at s
 have e1:w64 ((i:Int)+1)=((i+1:Nat):Int):=by rw [w64_id]<;>omega
 rw [oT_mk t]at hT
 have tk: ∀ x:Tm,(x.kids.map oT).take x.kids.length=x.kids.map oT:=fun x=>List.take_of_length_le (by simp)
 have go: ∀ (x:Nat) (y:Bool),cw progA F.spec_l06Read_wants [.b (.a [.i τ (l.map Sg.v),I a,B b1,I (d1),.o 1 (List.map S nm1)]),S [41]]=some (.t [],[.b (.a [.i τ (l.map Sg.v),I x,B y,I (d1),.o 1 (List.map S nm1)]),S [41]])→
  cw progA F.spec_l06Read_round [.b (.a [.i τ (l.map Sg.v),I i,B false,I (d),.o 1 (List.map S nm)])]=some (oT t,[.b (.a [.i τ (l.map Sg.v),I x,B y,I (d1),.o 1 (List.map S nm1)])]):=by
  intro x y wt
  rw [cw_fn pA_spec_l06Read_round rfl,oT_mk t]
  by_cases hk:(sgD l i).kind=1
  ·have hlt0:i < l.length:=sgD_lt (by rw [hk];decide)
   rw [decide_eq_true hk]at s
   by_cases h1:i+1 < l.length
   ·have h':((i+1:Nat):Int) < (l.length:Int):=by omega
    have g1:=getmap (f:=Sg.v) (sgD_get h1)
    have a1:=fun T=>addr_i (τ:=τ) (T:=T) (e:=5) g1 rfl
    rw [Sg.v]at g1
    have hm:isM l (i+1) [41]=false:=by
     cases h:isM l (i+1) [41]with
     |true=>exact absurd ⟨hk,h⟩ hn
     |false=>rfl
    unfold isM at hm
    cases k4:decide ((sgD l (i+1)).kind=4)with
    |false=>simp only [go_sem,Nat.reduceAdd,Nat.reduceSub,Nat.reduceMul,Nat.reduceEqDiff,Nat.reduceLeDiff,Nat.reduceBEq,reduceCtorEq,A.spec_l06Read_round,finish,s,e1,h',List.length_map,a1,g1,k4,hT,wt,tk,Bool.not_false,Bool.true_and]
    |true=>
     rw [k4,Bool.true_and]at hm
     simp only [go_sem,Nat.reduceAdd,Nat.reduceSub,Nat.reduceMul,Nat.reduceEqDiff,Nat.reduceLeDiff,Nat.reduceBEq,reduceCtorEq,A.spec_l06Read_round,finish,s,e1,h',List.length_map,a1,g1,k4,hm,hT,wt,tk,Bool.not_false,Bool.true_and]
   ·have h': ¬ ((i+1:Nat):Int) < (l.length:Int):=by omega
    simp only [go_sem,Nat.reduceAdd,Nat.reduceSub,Nat.reduceMul,Nat.reduceEqDiff,Nat.reduceLeDiff,Nat.reduceBEq,reduceCtorEq,A.spec_l06Read_round,finish,s,e1,h',List.length_map,hT,wt,tk,Bool.not_false,Bool.true_and]
  ·rw [decide_eq_false hk]at s
   simp only [go_sem,Nat.reduceAdd,Nat.reduceSub,Nat.reduceMul,Nat.reduceEqDiff,Nat.reduceLeDiff,Nat.reduceBEq,reduceCtorEq,A.spec_l06Read_round,finish,s,hT,wt,tk,Bool.not_false,Bool.true_and]
 refine ⟨?_, ?_⟩
 ·intro hb hm
  subst hb
  exact go _ _ (spec_wants_yes l τ hlen a (by omega) nm1 d1 [41] (by decide) hm)
 ·intro hm
  exact go _ _ (spec_wants_no l τ hlen a (by omega) nm1 d1 b1 [41] (by decide) hm)
end Go.Vm
set_option autoImplicit false
set_option maxHeartbeats 16000000
set_option maxRecDepth 100000
set_option linter.unusedSimpArgs false
set_option linter.unusedVariables false
namespace Go.Vm
theorem listTerm_nil(l:List Sg) (τ:Bool) (hg:GoodL l) (i:Nat) (hi:i≤l.length) (nm:List Str) (d:Int) (h1:isM l i [91]=true) (h2:isM l (i+1) [93]=true):
 cw progA F.impl_parser_listTerm [.b (.a [.i τ (l.map Sg.v),I i,.o 1 (List.map S nm),I (d),B false])]=some (oT nilTm,[.b (.a [.i τ (l.map Sg.v),I ((i+2:Nat):Int),.o 1 (List.map S nm),I (d),B false])]):=by
 have hlen:=hg.len
 have m1:=impl_mark_ok l τ hlen i (by omega) nm d false [91]
 rw [h1]at m1
 have im:=impl_isMark_ok l τ hlen (i+1) 0 (by omega) (by decide) (.i true (nm.map S)) d false [93]
 simp only [Nat.add_zero,Int.natCast_zero,h2]at im
 have at1:=impl_atom_ok [91,93]
 rw [oT_leaf]at at1
 have e1:w64 (((i+1:Nat):Int)+1)=((i+2:Nat):Int):=by rw [w64_id]<;>omega
 rw [cw_fn pA_impl_parser_listTerm rfl]
 unfold nilTm
 rw [oT_leaf]
 simp only [go_sem,Nat.reduceAdd,Nat.reduceSub,Nat.reduceMul,Nat.reduceEqDiff,Nat.reduceLeDiff,Nat.reduceBEq,reduceCtorEq,A.impl_parser_listTerm,finish,m1,im,at1,e1,Bool.false_or,Bool.not_true]
theorem listTerm_key(l:List Sg) (τ:Bool) (hg:GoodL l) (i:Nat) (hi:i≤l.length) (nm:List Str) (d:Int) (h1:isM l i [91]=true) (h2:isM l (i+1) [93]=false)
 (ks:List Tm) (hk:ks.length≤2^30) (a1:Nat) (ha1:a1≤2^30) (nm1:List Str) (d1:Int) (b1:Bool)
 (hA:cw progA F.impl_parser_terms [.b (.a [.i τ (l.map Sg.v),I ((i+1:Nat):Int),.o 1 (List.map S nm),I (d),B false])]=some (.o 4 (ks.map oT),[.b (.a [.i τ (l.map Sg.v),I a1,.o 1 (List.map S nm1),I (d1),B b1])])):
 (isM l a1 [124]=false→cw progA F.impl_parser_listTerm [.b (.a [.i τ (l.map Sg.v),I i,.o 1 (List.map S nm),I (d),B false])]=some (oT (mkList ks nilTm),[.b (.a [.i τ (l.map Sg.v),I ((a1+1:Nat):Int),.o 1 (List.map S nm1),I (d1),B (b1|| !isM l a1 [93])])]))∧
 (isM l a1 [124]=true→ ∀ (r:Tm) (a2:Nat) (nm2:List Str) (d2:Int) (b2:Bool),a2≤2^30→
  cw progA F.impl_parser_term [.b (.a [.i τ (l.map Sg.v),I ((a1+1:Nat):Int),.o 1 (List.map S nm1),I (d1),B b1]),I 999]=some (oT r,[.b (.a [.i τ (l.map Sg.v),I a2,.o 1 (List.map S nm2),I (d2),B b2]),I 999])→
  cw progA F.impl_parser_listTerm [.b (.a [.i τ (l.map Sg.v),I i,.o 1 (List.map S nm),I (d),B false])]=some (oT (mkList ks r),[.b (.a [.i τ (l.map Sg.v),I ((a2+1:Nat):Int),.o 1 (List.map S nm2),I (d2),B (b2|| !isM l a2 [93])])])):=by
 have hlen:=hg.len
 have m1:=impl_mark_ok l τ hlen i (by omega) nm d false [91]
 rw [h1]at m1
 have im:=impl_isMark_ok l τ hlen (i+1) 0 (by omega) (by decide) (.i true (nm.map S)) d false [93]
 simp only [Nat.add_zero,Int.natCast_zero,h2]at im
 have ib:=impl_isMark_ok l τ hlen a1 0 (by omega) (by decide) (.i true (nm1.map S)) d1 b1 [124]
 simp only [Nat.add_zero,Int.natCast_zero]at ib
 have at1:=impl_atom_ok [91,93]
 rw [oT_leaf]at at1
 have e1:w64 ((a1:Int)+1)=((a1+1:Nat):Int):=by rw [w64_id]<;>omega
 have e2:w64 ((ks.length:Int) - 1)=(ks.length:Int) - 1:=by rw [w64_id]<;>omega
 have tk: ∀ x:Tm,(x.kids.map oT).take x.kids.length=x.kids.map oT:=fun x=>List.take_of_length_le (by simp)
 have tk2:(ks.map oT).take ks.length=ks.map oT:=List.take_of_length_le (by simp)
 refine ⟨?_, ?_⟩
 ·intro hbar
  rw [hbar]at ib
  have m2:=impl_mark_ok l τ hlen a1 (by omega) nm1 d1 b1 [93]
  have lp:=fold_loop l τ ((a1+1:Nat):Int) nm1 d1 (b1|| !isM l a1 [93]) ks hk ks.length (Nat.le_refl _) (.mk 2 [91,93] 0 [])
  rw [List.take_of_length_le (Nat.le_refl _),List.drop_of_length_le (Nat.le_refl _),List.map_nil,List.append_nil]at lp
  simp only [Tm.kind_mk,Tm.name_mk,Tm.num_mk,Tm.kids_mk,List.map_nil,List.length_nil]at lp
  rw [cw_fn pA_impl_parser_listTerm rfl,oT_mk (mkList ks nilTm)]
  unfold nilTm
  simp only [go_sem,Nat.reduceAdd,Nat.reduceSub,Nat.reduceMul,Nat.reduceEqDiff,Nat.reduceLeDiff,Nat.reduceBEq,reduceCtorEq,A.impl_parser_listTerm,finish,m1,im,at1,e1,e2,ib,hA,m2,lp,tk,tk2,Bool.false_or,Bool.not_true]
 ·intro hbar r a2 nm2 d2 b2 ha2 hT
  rw [hbar]at ib
  have m2:=impl_mark_ok l τ hlen a2 (by omega) nm2 d2 b2 [93]
  have lp:=fold_loop l τ ((a2+1:Nat):Int) nm2 d2 (b2|| !isM l a2 [93]) ks hk ks.length (Nat.le_refl _) r
  rw [List.take_of_length_le (Nat.le_refl _),List.drop_of_length_le (Nat.le_refl _),List.map_nil,List.append_nil]at lp
  rw [oT_mk r]at hT
  rw [cw_fn pA_impl_parser_listTerm rfl,oT_mk (mkList ks r)]
  simp only [go_sem,Nat.reduceAdd,Nat.reduceSub,Nat.reduceMul,Nat.reduceEqDiff,Nat.reduceLeDiff,Nat.reduceBEq,reduceCtorEq,A.impl_parser_listTerm,finish,m1,im,at1,e1,e2,ib,hA,hT,m2,lp,tk,tk2,Bool.false_or,Bool.not_true]
end Go.Vm
set_option autoImplicit false
set_option maxHeartbeats 16000000
set_option maxRecDepth 100000
set_option linter.unusedSimpArgs false
set_option linter.unusedVariables false
namespace Go.Vm
theorem sfold_loop(l:List Sg) (τ:Bool) (a:Int) (nm:List Str) (d:Int) (b:Bool) (gs:List Tm) (hgs:gs.length≤2^30): ∀ (m:Nat),m≤gs.length→ ∀ (out:Tm),
 lw progA L.spec_l06Read_row_0 ⟨[(0,.p (0,0) 0 0),(2,.p (100000,0) 0 0),(3,.s (100000,1) 0 gs.length),(4,.p (100000,2) 0 0),(5,I (((m:Nat):Int) - 1))],[((0,0),5,[.a [.i τ (l.map Sg.v),I a,B b,I (d),.o 1 (List.map S nm)]]),((100000,0),4,[.a [I 0,S [],I 0,.s (100000,3) 0 0]]),((100000,1),4,(((gs.take m).map oT++(gs.drop m).map dT))),((100000,2),4,[.a [I (Tm.kind out),S (Tm.name out),I (Tm.num out),.s (100000,4) 0 (Tm.kids out).length]]),((100000,3),4,[]),((100000,4),4,(Tm.kids out).map oT)]⟩=
  some (.exit 2,⟨[(0,.p (0,0) 0 0),(2,.p (100000,0) 0 0),(4,.p (100000,2) 0 0)],[((0,0),5,[.a [.i τ (l.map Sg.v),I a,B b,I (d),.o 1 (List.map S nm)]]),((100000,0),4,[.a [I 0,S [],I 0,.s (100000,3) 0 0]]),((100000,1),4,gs.map dT),((100000,2),4,[.a [I (mkList (gs.take m) out).kind,S (mkList (gs.take m) out).name,I (mkList (gs.take m) out).num,.s (100000,4) 0 (mkList (gs.take m) out).kids.length]]),((100000,3),4,[]),((100000,4),4,(mkList (gs.take m) out).kids.map oT)]⟩)
 |0,hm,out=>by
  have h1:((0:Nat):Int) - 1= -1:=rfl
  have h2: ¬ (0:Int)≤ -1:=by decide
  rw [lw_eq,h1]
  simp only [List.take_zero,List.drop_zero,List.map_nil,List.nil_append,mkList]
  simp only [go_sem,Nat.reduceAdd,Nat.reduceSub,Nat.reduceMul,Nat.reduceEqDiff,Nat.reduceLeDiff,Nat.reduceBEq,reduceCtorEq,LB.spec_l06Read_row_0,h2]
 |k+1,hm,out=>by
  have hk:k < gs.length:=hm
  obtain ⟨g,hgk⟩:=get_some' (l:=gs) (i:=k) hk
  have h1:((k+1:Nat):Int) - 1=(k:Int):=by omega
  have hge:(0:Int)≤k:=by omega
  have hlen:((gs.take k).map oT).length=k:=by rw [List.length_map,List.length_take];omega
  have ix:=fun y=>ixO_some (k:=(100000,1)) (e:=4) (xs:=(gs.take k).map oT++y::(gs.drop (k+1)).map dT) (i:=k) (len:=gs.length) (by omega) (by simp only [List.length_append,List.length_map,List.length_take,List.length_cons,List.length_drop];omega)
  have cg:=fun y zs=>cell_get ((gs.take k).map oT) y zs k hlen
  have cs:=fun y y' zs=>cell_set ((gs.take k).map oT) y y' zs k hlen
  have st:=l03Two_io [46] g out
  rw [oT_struct]at st
  simp only [List.map_cons,List.map_nil,oT_mk g,oT_mk out]at st
  have tk: ∀ x:Tm,(x.kids.map oT).take x.kids.length=x.kids.map oT:=fun x=>List.take_of_length_le (by simp)
  have rp:=fun k' ob (y:V) (ys:List V)=>repEs_app k' ob ((gs.take k).map oT) (y::ys) (clEs_mT _)
  have hrow:(gs.take (k+1)).map oT++(gs.drop (k+1)).map dT=(gs.take k).map oT++oT g::(gs.drop (k+1)).map dT:=(row_next (f:=oT) hgk _).symm
  have hdrop:gs.drop k=g::gs.drop (k+1):=by
   obtain ⟨h3,h4⟩:=List.getElem?_eq_some_iff.1 hgk
   rw [← h4];exact List.drop_eq_getElem_cons h3
  have hml:mkList (gs.take (k+1)) out=mkList (gs.take k) (.mk 4 [46] 0 [g,out]):=by
   obtain ⟨h3,h4⟩:=List.getElem?_eq_some_iff.1 hgk
   rw [List.take_succ_eq_append_getElem h3,h4,mkList_snoc]
  have ih:=sfold_loop l τ a nm d b gs hgs k (by omega) (.mk 4 [46] 0 [g,out])
  have e1:w64 ((k:Int) - 1)=(k:Int) - 1:=by rw [w64_id]<;>omega
  have nl:=nilL_cat 0 ((g::gs.drop (k+1)).map dT) (fun i=>nilL_dT 0 _ i) (gs.take k) 0
  have rl:=fun tb=>renL_cat tb ((g::gs.drop (k+1)).map dT) (renL_dT tb _) (gs.take k)
  rw [hml,h1,hrow, ← ih,hdrop,oT_mk g]
  simp only [List.map_cons,List.map_nil,Tm.kind_mk,Tm.name_mk,Tm.num_mk,Tm.kids_mk,List.length_cons,List.length_nil,oT_mk g,oT_mk out]
  simp only [List.map_cons,dT]at nl rl
  rw [lw_eq]
  simp only [go_sem,Nat.reduceAdd,Nat.reduceSub,Nat.reduceMul,Nat.reduceEqDiff,Nat.reduceLeDiff,Nat.reduceBEq,reduceCtorEq,LB.spec_l06Read_row_0,hge,ix,cg,cs,dT,Int.toNat_natCast,st,tk,killL_dT,repEs_dT,rp,mapE_dT,mapE_cat,e1,nl,rl,pickB_same]
theorem row_bad(l:List Sg) (τ:Bool) (a:Nat) (nm:List Str) (d:Int) (acc:List Tm):
 lw progA L.spec_l06Read_row_1 ⟨[(0,.p (0,0) 0 0),(2,.p (100000,0) 0 0),(3,.s (100000,1) 0 (acc).length),(4,.p (100000,2) 0 0)],[((0,0),5,[.a [.i τ (l.map Sg.v),I a,B true,I (d),.o 1 (List.map S nm)]]),((100000,0),4,[.a [I 0,S [],I 0,.s (100000,3) 0 0]]),((100000,1),4,(acc).map oT),((100000,2),4,[.a [I 2,S [91,93],I 0,.s (100000,4) 0 0]]),((100000,3),4,[]),((100000,4),4,[])]⟩=some (.exit 0,⟨[(0,.p (0,0) 0 0),(2,.p (100000,0) 0 0),(3,.s (100000,1) 0 (acc).length),(4,.p (100000,2) 0 0)],[((0,0),5,[.a [.i τ (l.map Sg.v),I a,B true,I (d),.o 1 (List.map S nm)]]),((100000,0),4,[.a [I 0,S [],I 0,.s (100000,3) 0 0]]),((100000,1),4,(acc).map oT),((100000,2),4,[.a [I 2,S [91,93],I 0,.s (100000,4) 0 0]]),((100000,3),4,[]),((100000,4),4,[])]⟩):=by
 rw [lw_eq]
 simp only [go_sem,Nat.reduceAdd,Nat.reduceSub,Nat.reduceMul,Nat.reduceEqDiff,Nat.reduceLeDiff,Nat.reduceBEq,reduceCtorEq,LB.spec_l06Read_row_1]
theorem row_end(l:List Sg) (τ:Bool) (hg:GoodL l) (i:Nat) (nm:List Str) (d:Int) (acc:List Tm) (hac:acc.length≤2^30) (y:Tm) (a:Nat) (ha:a≤2^40) (nm1:List Str) (d1:Int)
 (hc:cw progA F.spec_l06Read_term [.b (.a [.i τ (l.map Sg.v),I i,B false,I (d),.o 1 (List.map S nm)]),I 999]=some (oT y,[.b (.a [.i τ (l.map Sg.v),I a,B false,I (d1),.o 1 (List.map S nm1)]),I 999])) (hm:isM l a [93]=true):
 lw progA L.spec_l06Read_row_1 ⟨[(0,.p (0,0) 0 0),(2,.p (100000,0) 0 0),(3,.s (100000,1) 0 (acc).length),(4,.p (100000,2) 0 0)],[((0,0),5,[.a [.i τ (l.map Sg.v),I i,B false,I (d),.o 1 (List.map S nm)]]),((100000,0),4,[.a [I 0,S [],I 0,.s (100000,3) 0 0]]),((100000,1),4,(acc).map oT),((100000,2),4,[.a [I 2,S [91,93],I 0,.s (100000,4) 0 0]]),((100000,3),4,[]),((100000,4),4,[])]⟩=some (.exit 0,⟨[(0,.p (0,0) 0 0),(2,.p (100000,0) 0 0),(3,.s (20,0) 0 ((acc).length+1)),(4,.p (100000,2) 0 0)],[((0,0),5,[.a [.i τ (l.map Sg.v),I ((a+1:Nat):Int),B false,I (d1),.o 1 (List.map S nm1)]]),((20,0),4,(acc).map oT++[.a [I (Tm.kind y),S (Tm.name y),I (Tm.num y),.s (18,0) 0 (Tm.kids y).length]]),((19,0),4,[.a [I (Tm.kind y),S (Tm.name y),I (Tm.num y),.s (18,0) 0 (Tm.kids y).length]]),((18,0),4,(Tm.kids y).map oT),((100000,0),4,[.a [I 0,S [],I 0,.s (100000,3) 0 0]]),((100000,2),4,[.a [I 2,S [91,93],I 0,.s (100000,4) 0 0]]),((100000,3),4,[]),((100000,4),4,[])]⟩):=by
 have hlen:=hg.len
 have l1:decide ((acc.length+1)*56≤lim)=true:=decide_eq_true (by rw [lim_val];omega)
 have l2:decide (acc.length+1≤lim)=true:=decide_eq_true (by rw [lim_val];omega)
 have tk2:(acc.map oT).take acc.length=acc.map oT:=List.take_of_length_le (by simp)
 have tk: ∀ x:Tm,(x.kids.map oT).take x.kids.length=x.kids.map oT:=fun x=>List.take_of_length_le (by simp)
 have mk:=spec_mark_yes l τ hlen a ha nm1 d1 [93] (by decide) hm
 rw [oT_mk y]at hc
 rw [lw_eq]
 simp only [go_sem,Nat.reduceAdd,Nat.reduceSub,Nat.reduceMul,Nat.reduceEqDiff,Nat.reduceLeDiff,Nat.reduceBEq,reduceCtorEq,LB.spec_l06Read_row_1,hc,tk2,mk,l1,l2]
theorem row_bar(l:List Sg) (τ:Bool) (hg:GoodL l) (i:Nat) (nm:List Str) (d:Int) (acc:List Tm) (hac:acc.length≤2^30) (y:Tm) (a:Nat) (ha:a≤2^40) (nm1:List Str) (d1:Int)
 (hc:cw progA F.spec_l06Read_term [.b (.a [.i τ (l.map Sg.v),I i,B false,I (d),.o 1 (List.map S nm)]),I 999]=some (oT y,[.b (.a [.i τ (l.map Sg.v),I a,B false,I (d1),.o 1 (List.map S nm1)]),I 999])) (hm:isM l a [93]=false) (hb:isM l a [124]=true)
 (r:Tm) (a2:Nat) (nm2:List Str) (d2:Int) (b2:Bool)
 (hr:cw progA F.spec_l06Read_term [.b (.a [.i τ (l.map Sg.v),I ((a+1:Nat):Int),B false,I (d1),.o 1 (List.map S nm1)]),I 999]=some (oT r,[.b (.a [.i τ (l.map Sg.v),I a2,B b2,I (d2),.o 1 (List.map S nm2)]),I 999]))
 (x:Nat) (z:Bool) (hw:cw progA F.spec_l06Read_wants [.b (.a [.i τ (l.map Sg.v),I a2,B b2,I (d2),.o 1 (List.map S nm2)]),S [93]]=some (.t [],[.b (.a [.i τ (l.map Sg.v),I x,B z,I (d2),.o 1 (List.map S nm2)]),S [93]])):
 lw progA L.spec_l06Read_row_1 ⟨[(0,.p (0,0) 0 0),(2,.p (100000,0) 0 0),(3,.s (100000,1) 0 (acc).length),(4,.p (100000,2) 0 0)],[((0,0),5,[.a [.i τ (l.map Sg.v),I i,B false,I (d),.o 1 (List.map S nm)]]),((100000,0),4,[.a [I 0,S [],I 0,.s (100000,3) 0 0]]),((100000,1),4,(acc).map oT),((100000,2),4,[.a [I 2,S [91,93],I 0,.s (100000,4) 0 0]]),((100000,3),4,[]),((100000,4),4,[])]⟩=some (.exit 0,⟨[(0,.p (0,0) 0 0),(2,.p (100000,0) 0 0),(3,.s (20,0) 0 ((acc).length+1)),(4,.p (100000,2) 0 0)],[((0,0),5,[.a [.i τ (l.map Sg.v),I x,B z,I (d2),.o 1 (List.map S nm2)]]),((100000,2),4,[.a [I (Tm.kind r),S (Tm.name r),I (Tm.num r),.s (26,0) 0 (Tm.kids r).length]]),((26,0),4,(Tm.kids r).map oT),((20,0),4,(acc).map oT++[.a [I (Tm.kind y),S (Tm.name y),I (Tm.num y),.s (18,0) 0 (Tm.kids y).length]]),((19,0),4,[.a [I (Tm.kind y),S (Tm.name y),I (Tm.num y),.s (18,0) 0 (Tm.kids y).length]]),((18,0),4,(Tm.kids y).map oT),((100000,0),4,[.a [I 0,S [],I 0,.s (100000,3) 0 0]]),((100000,3),4,[]),((100000,4),4,[])]⟩):=by
 have hlen:=hg.len
 have l1:decide ((acc.length+1)*56≤lim)=true:=decide_eq_true (by rw [lim_val];omega)
 have l2:decide (acc.length+1≤lim)=true:=decide_eq_true (by rw [lim_val];omega)
 have tk2:(acc.map oT).take acc.length=acc.map oT:=List.take_of_length_le (by simp)
 have tk: ∀ x:Tm,(x.kids.map oT).take x.kids.length=x.kids.map oT:=fun x=>List.take_of_length_le (by simp)
 have mk:=spec_mark_no l τ hlen a ha nm1 d1 false [93] (by decide) (by rw [hm];rfl)
 have mk2:=spec_mark_yes l τ hlen a ha nm1 d1 [124] (by decide) hb
 rw [oT_mk y]at hc
 rw [oT_mk r]at hr
 rw [lw_eq]
 simp only [go_sem,Nat.reduceAdd,Nat.reduceSub,Nat.reduceMul,Nat.reduceEqDiff,Nat.reduceLeDiff,Nat.reduceBEq,reduceCtorEq,LB.spec_l06Read_row_1,hc,hr,tk2,tk,mk,mk2,hw,l1,l2]
theorem srow_next(l:List Sg) (τ:Bool) (hg:GoodL l) (i:Nat) (nm:List Str) (d:Int) (acc:List Tm) (hac:acc.length≤2^30) (y:Tm) (a:Nat) (ha:a≤2^40) (nm1:List Str) (d1:Int) (b1:Bool)
 (hc:cw progA F.spec_l06Read_term [.b (.a [.i τ (l.map Sg.v),I i,B false,I (d),.o 1 (List.map S nm)]),I 999]=some (oT y,[.b (.a [.i τ (l.map Sg.v),I a,B b1,I (d1),.o 1 (List.map S nm1)]),I 999])) (hm:(!b1&&isM l a [93])=false) (hb:(!b1&&isM l a [124])=false)
 (x:Nat) (z:Bool) (hw:cw progA F.spec_l06Read_wants [.b (.a [.i τ (l.map Sg.v),I a,B b1,I (d1),.o 1 (List.map S nm1)]),S [44]]=some (.t [],[.b (.a [.i τ (l.map Sg.v),I x,B z,I (d1),.o 1 (List.map S nm1)]),S [44]])):
 lw progA L.spec_l06Read_row_1 ⟨[(0,.p (0,0) 0 0),(2,.p (100000,0) 0 0),(3,.s (100000,1) 0 (acc).length),(4,.p (100000,2) 0 0)],[((0,0),5,[.a [.i τ (l.map Sg.v),I i,B false,I (d),.o 1 (List.map S nm)]]),((100000,0),4,[.a [I 0,S [],I 0,.s (100000,3) 0 0]]),((100000,1),4,(acc).map oT),((100000,2),4,[.a [I 2,S [91,93],I 0,.s (100000,4) 0 0]]),((100000,3),4,[]),((100000,4),4,[])]⟩=lw progA L.spec_l06Read_row_1 ⟨[(0,.p (0,0) 0 0),(2,.p (100000,0) 0 0),(3,.s (100000,1) 0 ((acc++[y])).length),(4,.p (100000,2) 0 0)],[((0,0),5,[.a [.i τ (l.map Sg.v),I x,B z,I (d1),.o 1 (List.map S nm1)]]),((100000,0),4,[.a [I 0,S [],I 0,.s (100000,3) 0 0]]),((100000,1),4,((acc++[y])).map oT),((100000,2),4,[.a [I 2,S [91,93],I 0,.s (100000,4) 0 0]]),((100000,3),4,[]),((100000,4),4,[])]⟩:=by
 have hlen:=hg.len
 have l1:decide ((acc.length+1)*56≤lim)=true:=decide_eq_true (by rw [lim_val];omega)
 have l2:decide (acc.length+1≤lim)=true:=decide_eq_true (by rw [lim_val];omega)
 have tk2:(acc.map oT).take acc.length=acc.map oT:=List.take_of_length_le (by simp)
 have tk: ∀ x:Tm,(x.kids.map oT).take x.kids.length=x.kids.map oT:=fun x=>List.take_of_length_le (by simp)
 have mk:=spec_mark_no l τ hlen a ha nm1 d1 b1 [93] (by decide) hm
 have mk2:=spec_mark_no l τ hlen a ha nm1 d1 b1 [124] (by decide) hb
 rw [oT_mk y]at hc
 have rp:=fun k' ob (y:V) (ys:List V)=>repEs_app k' ob (acc.map oT) (y::ys) (clEs_mT _)
 simp only [List.map_append,List.map_cons,List.map_nil,List.length_append,List.length_cons,List.length_nil,oT_mk y]
 rw [lw_eq]
 simp only [go_sem,Nat.reduceAdd,Nat.reduceSub,Nat.reduceMul,Nat.reduceEqDiff,Nat.reduceLeDiff,Nat.reduceBEq,reduceCtorEq,LB.spec_l06Read_row_1,hc,tk2,tk,mk,mk2,hw,l1,l2,rp,Option.map_some,mapE_cat]
def EXr(l:List Sg) (τ:Bool) (a:Nat) (nm:List Str) (d:Int) (b:Bool) (ks:List Tm) (out:Tm) (st:St):Prop:=
 (b=true∧out=nilTm∧st=⟨[(0,.p (0,0) 0 0),(2,.p (100000,0) 0 0),(3,.s (100000,1) 0 (ks).length),(4,.p (100000,2) 0 0)],[((0,0),5,[.a [.i τ (l.map Sg.v),I a,B true,I (d),.o 1 (List.map S nm)]]),((100000,0),4,[.a [I 0,S [],I 0,.s (100000,3) 0 0]]),((100000,1),4,(ks).map oT),((100000,2),4,[.a [I 2,S [91,93],I 0,.s (100000,4) 0 0]]),((100000,3),4,[]),((100000,4),4,[])]⟩)∨(b=false∧out=nilTm∧ ∃ (acc:List Tm) (y:Tm),ks=acc++[y]∧st=⟨[(0,.p (0,0) 0 0),(2,.p (100000,0) 0 0),(3,.s (20,0) 0 ((acc).length+1)),(4,.p (100000,2) 0 0)],[((0,0),5,[.a [.i τ (l.map Sg.v),I a,B false,I (d),.o 1 (List.map S nm)]]),((20,0),4,(acc).map oT++[.a [I (Tm.kind y),S (Tm.name y),I (Tm.num y),.s (18,0) 0 (Tm.kids y).length]]),((19,0),4,[.a [I (Tm.kind y),S (Tm.name y),I (Tm.num y),.s (18,0) 0 (Tm.kids y).length]]),((18,0),4,(Tm.kids y).map oT),((100000,0),4,[.a [I 0,S [],I 0,.s (100000,3) 0 0]]),((100000,2),4,[.a [I 2,S [91,93],I 0,.s (100000,4) 0 0]]),((100000,3),4,[]),((100000,4),4,[])]⟩)∨(∃ (acc:List Tm) (y:Tm),ks=acc++[y]∧st=⟨[(0,.p (0,0) 0 0),(2,.p (100000,0) 0 0),(3,.s (20,0) 0 ((acc).length+1)),(4,.p (100000,2) 0 0)],[((0,0),5,[.a [.i τ (l.map Sg.v),I a,B b,I (d),.o 1 (List.map S nm)]]),((100000,2),4,[.a [I (Tm.kind out),S (Tm.name out),I (Tm.num out),.s (26,0) 0 (Tm.kids out).length]]),((26,0),4,(Tm.kids out).map oT),((20,0),4,(acc).map oT++[.a [I (Tm.kind y),S (Tm.name y),I (Tm.num y),.s (18,0) 0 (Tm.kids y).length]]),((19,0),4,[.a [I (Tm.kind y),S (Tm.name y),I (Tm.num y),.s (18,0) 0 (Tm.kids y).length]]),((18,0),4,(Tm.kids y).map oT),((100000,0),4,[.a [I 0,S [],I 0,.s (100000,3) 0 0]]),((100000,3),4,[]),((100000,4),4,[])]⟩)
theorem row_fin(l:List Sg) (τ:Bool) (hg:GoodL l) (i:Nat) (hi:i≤l.length) (nm:List Str) (d:Int) (hn:isM l i [93]=false) (a:Nat) (nm1:List Str) (d1:Int) (b1:Bool) (ks:List Tm) (hk:ks.length≤2^30) (out:Tm) (st:St) (he:EXr l τ a nm1 d1 b1 ks out st)
 (hl:lw progA L.spec_l06Read_row_1 ⟨[(0,.p (0,0) 0 0),(2,.p (100000,0) 0 0),(3,.s (100000,1) 0 (([]:List Tm)).length),(4,.p (100000,2) 0 0)],[((0,0),5,[.a [.i τ (l.map Sg.v),I i,B false,I (d),.o 1 (List.map S nm)]]),((100000,0),4,[.a [I 0,S [],I 0,.s (100000,3) 0 0]]),((100000,1),4,(([]:List Tm)).map oT),((100000,2),4,[.a [I 2,S [91,93],I 0,.s (100000,4) 0 0]]),((100000,3),4,[]),((100000,4),4,[])]⟩=some (.exit 0,st)):
 cw progA F.spec_l06Read_row [.b (.a [.i τ (l.map Sg.v),I i,B false,I (d),.o 1 (List.map S nm)])]=some (oT (mkList ks out),[.b (.a [.i τ (l.map Sg.v),I a,B b1,I (d1),.o 1 (List.map S nm1)])]):=by
 have hlen:=hg.len
 have mk:=spec_mark_no l τ hlen i (by omega) nm d false [93] (by decide) (by rw [hn];rfl)
 have at1:=spec_l03Atom_ok [91,93]
 rw [oT_leaf]at at1
 have e2:w64 ((ks.length:Int) - 1)=(ks.length:Int) - 1:=by rw [w64_id]<;>omega
 have tk: ∀ x:Tm,(x.kids.map oT).take x.kids.length=x.kids.map oT:=fun x=>List.take_of_length_le (by simp)
 have lp:=sfold_loop l τ a nm1 d1 b1 ks hk ks.length (Nat.le_refl _) out
 rw [List.take_of_length_le (Nat.le_refl _),List.drop_of_length_le (Nat.le_refl _),List.map_nil,List.append_nil]at lp
 simp only [List.map_nil,List.length_nil]at hl
 rw [cw_fn pA_spec_l06Read_row rfl,oT_mk (mkList ks out)]
 rcases he with ⟨rfl,rfl,rfl⟩|⟨rfl,rfl,acc,y,rfl,rfl⟩|⟨acc,y,rfl,rfl⟩
 ·have tk2:(ks.map oT).take ks.length=ks.map oT:=List.take_of_length_le (by simp)
  have lp':=lp
  unfold nilTm at lp'
  simp only [Tm.kind_mk,Tm.name_mk,Tm.num_mk,Tm.kids_mk,List.map_nil,List.length_nil]at lp'
  unfold nilTm
  simp only [go_sem,Nat.reduceAdd,Nat.reduceSub,Nat.reduceMul,Nat.reduceEqDiff,Nat.reduceLeDiff,Nat.reduceBEq,reduceCtorEq,A.spec_l06Read_row,finish,mk,at1,hl,e2,tk,tk2,lp']
 ·have rp:=fun k' ob (y:V) (ys:List V)=>repEs_app k' ob (acc.map oT) (y::ys) (clEs_mT _)
  have lp':=lp
  unfold nilTm at lp'
  simp only [Tm.kind_mk,Tm.name_mk,Tm.num_mk,Tm.kids_mk,List.map_nil,List.length_nil,List.length_append,List.length_cons]at lp' e2
  unfold nilTm
  simp only [go_sem,Nat.reduceAdd,Nat.reduceSub,Nat.reduceMul,Nat.reduceEqDiff,Nat.reduceLeDiff,Nat.reduceBEq,reduceCtorEq,A.spec_l06Read_row,finish,mk,at1,hl,e2,tk,lp',rp,Option.map_some,mapE_cat,List.length_append,List.length_map,List.length_cons,List.length_nil]
 ·have rp:=fun k' ob (y:V) (ys:List V)=>repEs_app k' ob (acc.map oT) (y::ys) (clEs_mT _)
  have lp':=lp
  simp only [List.map_nil,List.length_nil,List.length_append,List.length_cons]at lp' e2
  simp only [go_sem,Nat.reduceAdd,Nat.reduceSub,Nat.reduceMul,Nat.reduceEqDiff,Nat.reduceLeDiff,Nat.reduceBEq,reduceCtorEq,A.spec_l06Read_row,finish,mk,at1,hl,e2,tk,lp',rp,Option.map_some,mapE_cat,List.length_append,List.length_map,List.length_cons,List.length_nil]
theorem row_nil(l:List Sg) (τ:Bool) (hg:GoodL l) (i:Nat) (hi:i≤l.length) (nm:List Str) (d:Int) (hn:isM l i [93]=true):
 cw progA F.spec_l06Read_row [.b (.a [.i τ (l.map Sg.v),I i,B false,I (d),.o 1 (List.map S nm)])]=some (oT nilTm,[.b (.a [.i τ (l.map Sg.v),I ((i+1:Nat):Int),B false,I (d),.o 1 (List.map S nm)])]):=by
 have hlen:=hg.len
 have mk:=spec_mark_yes l τ hlen i (by omega) nm d [93] (by decide) hn
 have at1:=spec_l03Atom_ok [91,93]
 rw [oT_leaf]at at1
 rw [cw_fn pA_spec_l06Read_row rfl]
 unfold nilTm
 rw [oT_leaf]
 simp only [go_sem,Nat.reduceAdd,Nat.reduceSub,Nat.reduceMul,Nat.reduceEqDiff,Nat.reduceLeDiff,Nat.reduceBEq,reduceCtorEq,A.spec_l06Read_row,finish,mk,at1]
end Go.Vm
set_option autoImplicit false
set_option maxHeartbeats 16000000
set_option maxRecDepth 100000
set_option linter.unusedSimpArgs false
set_option linter.unusedVariables false
namespace Go.Vm
def SR(l:List Sg) (τ:Bool) (n:Nat):Prop:= ∀ (i:Nat) (nm:List Str) (d:Nat) (acc:List Tm),4*(l.length - i)+4≤n→i≤l.length→nm.length≤i→acc.length≤i→d≤130→
 (pC l n i nm d acc=none→ ∃ (ks:List Tm) (a:Nat) (nm':List Str) (d':Int) (st:St),a≤l.length+8*n∧ks.length≤l.length+1∧EXr l τ a nm' d' true ks nilTm st∧lw progA L.spec_l06Read_row_1 ⟨[(0,.p (0,0) 0 0),(2,.p (100000,0) 0 0),(3,.s (100000,1) 0 (acc).length),(4,.p (100000,2) 0 0)],[((0,0),5,[.a [.i τ (l.map Sg.v),I i,B false,I (d),.o 1 (List.map S nm)]]),((100000,0),4,[.a [I 0,S [],I 0,.s (100000,3) 0 0]]),((100000,1),4,(acc).map oT),((100000,2),4,[.a [I 2,S [91,93],I 0,.s (100000,4) 0 0]]),((100000,3),4,[]),((100000,4),4,[])]⟩=some (.exit 0,st))∧
 (∀ ks i' nm',pC l n i nm d acc=some (ks,i',nm')→ks.length≤i'∧
  (isM l i' [93]=true→ ∃ st,EXr l τ (i'+1) nm' d false ks nilTm st∧lw progA L.spec_l06Read_row_1 ⟨[(0,.p (0,0) 0 0),(2,.p (100000,0) 0 0),(3,.s (100000,1) 0 (acc).length),(4,.p (100000,2) 0 0)],[((0,0),5,[.a [.i τ (l.map Sg.v),I i,B false,I (d),.o 1 (List.map S nm)]]),((100000,0),4,[.a [I 0,S [],I 0,.s (100000,3) 0 0]]),((100000,1),4,(acc).map oT),((100000,2),4,[.a [I 2,S [91,93],I 0,.s (100000,4) 0 0]]),((100000,3),4,[]),((100000,4),4,[])]⟩=some (.exit 0,st))∧
  (isM l i' [124]=true→ ∀ (r:Tm) (a2:Nat) (nm2:List Str) (d2:Int) (b2:Bool) (x:Nat) (z:Bool),
   cw progA F.spec_l06Read_term [.b (.a [.i τ (l.map Sg.v),I ((i'+1:Nat):Int),B false,I (d),.o 1 (List.map S nm')]),I 999]=some (oT r,[.b (.a [.i τ (l.map Sg.v),I a2,B b2,I (d2),.o 1 (List.map S nm2)]),I 999])→
   cw progA F.spec_l06Read_wants [.b (.a [.i τ (l.map Sg.v),I a2,B b2,I (d2),.o 1 (List.map S nm2)]),S [93]]=some (.t [],[.b (.a [.i τ (l.map Sg.v),I x,B z,I (d2),.o 1 (List.map S nm2)]),S [93]])→
   ∃ st,EXr l τ x nm2 d2 z ks r st∧lw progA L.spec_l06Read_row_1 ⟨[(0,.p (0,0) 0 0),(2,.p (100000,0) 0 0),(3,.s (100000,1) 0 (acc).length),(4,.p (100000,2) 0 0)],[((0,0),5,[.a [.i τ (l.map Sg.v),I i,B false,I (d),.o 1 (List.map S nm)]]),((100000,0),4,[.a [I 0,S [],I 0,.s (100000,3) 0 0]]),((100000,1),4,(acc).map oT),((100000,2),4,[.a [I 2,S [91,93],I 0,.s (100000,4) 0 0]]),((100000,3),4,[]),((100000,4),4,[])]⟩=some (.exit 0,st))∧
  (isM l i' [93]=false→isM l i' [124]=false→ ∃ st,EXr l τ i' nm' d true ks nilTm st∧lw progA L.spec_l06Read_row_1 ⟨[(0,.p (0,0) 0 0),(2,.p (100000,0) 0 0),(3,.s (100000,1) 0 (acc).length),(4,.p (100000,2) 0 0)],[((0,0),5,[.a [.i τ (l.map Sg.v),I i,B false,I (d),.o 1 (List.map S nm)]]),((100000,0),4,[.a [I 0,S [],I 0,.s (100000,3) 0 0]]),((100000,1),4,(acc).map oT),((100000,2),4,[.a [I 2,S [91,93],I 0,.s (100000,4) 0 0]]),((100000,3),4,[]),((100000,4),4,[])]⟩=some (.exit 0,st)))
theorem SR_step(l:List Sg) (τ:Bool) (hg:GoodL l) (n:Nat) (hn20:n≤2^20) (hT:ST l τ n) (hq: ∀ m,m+1=n→SR l τ m):SR l τ n:=by
 intro i nm d acc hn hi hnm hacc hd
 have hlen:=hg.len
 obtain ⟨ht1,ht2⟩:=hT i nm d 999 (by omega) hi hnm hd
 obtain ⟨m,rfl⟩: ∃ m,n=m+1:=⟨n - 1,by omega⟩
 cases hp:pT l (m+1) i nm d 999 with
 |none=>
  obtain ⟨g,cs,⟨a,nm1,d1,ha,rfl⟩,hc⟩:=ht2 hp
  have pc:pC l (m+1) i nm d acc=none:=by unfold pC;rw [hp]
  rw [pc]
  refine ⟨fun _=> ?_,fun ks i' nm' h=>by cases h⟩
  have h:=srow_next l τ hg i nm d acc (by omega) g a (by omega) nm1 d1 true hc rfl rfl a true (spec_wants_no l τ hlen a (by omega) nm1 d1 true [44] (by decide) rfl)
  exact ⟨acc++[g],a,nm1,d1,_,by omega,by simp only [List.length_append,List.length_cons,List.length_nil];omega,.inl ⟨rfl,rfl,rfl⟩,h.trans (row_bad l τ a nm1 d1 _)⟩
 |some r=>
  obtain ⟨t,i1,nm1⟩:=r
  have adv:=(p_adv l (m+1)).1 _ _ _ _ _ _ _ hp
  have nl:=(p_nlen l (m+1)).1 _ _ _ _ _ _ _ hp
  have hc:=ht1 _ _ _ hp
  have pc:pC l (m+1) i nm d acc=pB l (m+1) i1 nm1 d (acc++[t]):=by unfold pC;rw [hp]
  have hal:(acc++[t]).length≤i1:=by simp only [List.length_append,List.length_cons,List.length_nil];omega
  rw [pc]
  cases h44:isM l i1 [44]with
  |true=>
   have h:=srow_next l τ hg i nm d acc (by omega) t i1 (by omega) nm1 d false hc (by rw [isM_ne l i1 [44] [93] h44 (by decide)];rfl) (by rw [isM_ne l i1 [44] [124] h44 (by decide)];rfl) (i1+1) false (spec_wants_yes l τ hlen i1 (by omega) nm1 d [44] (by decide) h44)
   have pb:pB l (m+1) i1 nm1 d (acc++[t])=pC l m (i1+1) nm1 d (acc++[t]):=by
    simp only [pB,h44,if_true,pC]
    cases pT l m (i1+1) nm1 d 999<;>rfl
   have hlt:=(isM_lt h44).1
   obtain ⟨k1,k2⟩:=hq m rfl (i1+1) nm1 d (acc++[t]) (by omega) (by omega) (by omega) (by omega) hd
   rw [pb]
   refine ⟨fun h1=> ?_,fun ks i' nm' h1=> ?_⟩
   ·obtain ⟨ks,a,nm',d',st,ha,hkl,he,hl⟩:=k1 h1
    exact ⟨ks,a,nm',d',st,by omega,hkl,he,h.trans hl⟩
   ·obtain ⟨j1,j2,j3,j4⟩:=k2 ks i' nm' h1
    refine ⟨j1,fun h2=> ?_,fun h2 r a2 nm2 d2 b2 x z hr hw=> ?_,fun h2 h3=> ?_⟩
    ·obtain ⟨st,he,hl⟩:=j2 h2
     exact ⟨st,he,h.trans hl⟩
    ·obtain ⟨st,he,hl⟩:=j3 h2 r a2 nm2 d2 b2 x z hr hw
     exact ⟨st,he,h.trans hl⟩
    ·obtain ⟨st,he,hl⟩:=j4 h2 h3
     exact ⟨st,he,h.trans hl⟩
  |false=>
   have pb:pB l (m+1) i1 nm1 d (acc++[t])=some (acc++[t],i1,nm1):=by
    simp only [pB,h44,Bool.false_eq_true,if_false]
   rw [pb]
   refine ⟨fun h=>(by cases h),fun ks i' nm' h1=> ?_⟩
   simp only [Option.some.injEq,Prod.mk.injEq]at h1
   obtain ⟨rfl,rfl,rfl⟩:=h1
   refine ⟨hal,fun h2=> ?_,fun h2 r a2 nm2 d2 b2 x z hr hw=> ?_,fun h2 h3=> ?_⟩
   ·exact ⟨_,.inr (.inl ⟨rfl,rfl,acc,t,rfl,rfl⟩),row_end l τ hg i nm d acc (by omega) t i1 (by omega) nm1 d hc h2⟩
   ·exact ⟨_,.inr (.inr ⟨acc,t,rfl,rfl⟩),row_bar l τ hg i nm d acc (by omega) t i1 (by omega) nm1 d hc (isM_ne l i1 [124] [93] h2 (by decide)) h2 r a2 nm2 d2 b2 hr x z hw⟩
   ·have h:=srow_next l τ hg i nm d acc (by omega) t i1 (by omega) nm1 d false hc (by rw [h2];rfl) (by rw [h3];rfl) i1 true (spec_wants_no l τ hlen i1 (by omega) nm1 d false [44] (by decide) (by rw [h44];rfl))
    exact ⟨_,.inl ⟨rfl,rfl,rfl⟩,h.trans (row_bad l τ i1 nm1 d _)⟩
theorem satom_call(l:List Sg) (τ:Bool) (hg:GoodL l) (i:Nat) (hi:i≤l.length) (nm:List Str) (d:Nat) (most:Int) (hk:(sgD l i).kind=1) (hnr:(sgD l i).near=true) (t:Tm) (a1:Nat) (nm1:List Str) (d1:Int) (b1:Bool)
 (hS:cw progA F.spec_l06Read_some [.b (.a [.i τ (l.map Sg.v),I ((i+2:Nat):Int),B false,I (d),.o 1 (List.map S nm)]),S (sgD l i).text]=some (oT t,[.b (.a [.i τ (l.map Sg.v),I a1,B b1,I (d1),.o 1 (List.map S nm1)]),S (sgD l i).text])):
 cw progA F.spec_l06Read_atom [.b (.a [.i τ (l.map Sg.v),I i,B false,I (d),.o 1 (List.map S nm)]),I most]=some (.t [oT t,I 0],[.b (.a [.i τ (l.map Sg.v),I a1,B b1,I (d1),.o 1 (List.map S nm1)]),I most]):=by
 have hlen:=hg.len
 have hlt:i < l.length:=sgD_lt (by rw [hk];decide)
 have g0:=getmap (f:=Sg.v) (sgD_get hlt)
 have a0:=fun T=>addr_i (τ:=τ) (T:=T) (e:=5) g0 rfl
 rw [Sg.v]at g0
 have e1:w64 ((i:Int)+1)=((i+1:Nat):Int):=by rw [w64_id]<;>omega
 have e2:w64 ((i:Int)+2)=((i+2:Nat):Int):=by rw [w64_id]<;>omega
 have e3:w64 (((i+2:Nat):Int) - 1)=((i+1:Nat):Int):=by rw [w64_id]<;>omega
 have inf:=spec_InfixOf_ok (sgD l i).text
 have pre:=spec_PrefixOf_ok (sgD l i).text
 unfold opV at inf
 unfold preV at pre
 have nr:=spec_near_ok l τ hg i hlt (.i true (nm.map S)) d false
 have tk: ∀ x:Tm,(x.kids.map oT).take x.kids.length=x.kids.map oT:=fun x=>List.take_of_length_le (by simp)
 rw [hnr]at g0
 rw [oT_mk t]at hS
 rw [cw_fn pA_spec_l06Read_atom rfl,oT_mk t]
 simp only [go_sem,Nat.reduceAdd,Nat.reduceSub,Nat.reduceMul,Nat.reduceEqDiff,Nat.reduceLeDiff,Nat.reduceBEq,reduceCtorEq,A.spec_l06Read_atom,finish,List.length_map,a0,g0,e1,e2,e3,inf,pre,nr,tk,hS]
theorem satom_neg(l:List Sg) (τ:Bool) (hg:GoodL l) (i:Nat) (hi:i≤l.length) (nm:List Str) (d:Nat) (most:Int) (hk:(sgD l i).kind=1) (hnr:(sgD l i).near=false) (ht:(sgD l i).text=[45]) (hng:isNeg l i=true):
 cw progA F.spec_l06Read_atom [.b (.a [.i τ (l.map Sg.v),I i,B false,I (d),.o 1 (List.map S nm)]),I most]=some (.t [oT (.mk 3 [] (0 - (sgD l (i+1)).num) []),I 0],[.b (.a [.i τ (l.map Sg.v),I ((i+2:Nat):Int),B false,I (d),.o 1 (List.map S nm)]),I most]):=by
 have hlen:=hg.len
 have hlt:i < l.length:=sgD_lt (by rw [hk];decide)
 have g0:=getmap (f:=Sg.v) (sgD_get hlt)
 have a0:=fun T=>addr_i (τ:=τ) (T:=T) (e:=5) g0 rfl
 rw [Sg.v]at g0
 have e1:w64 ((i:Int)+1)=((i+1:Nat):Int):=by rw [w64_id]<;>omega
 have e2:w64 ((i:Int)+2)=((i+2:Nat):Int):=by rw [w64_id]<;>omega
 have e3:w64 (((i+2:Nat):Int) - 1)=((i+1:Nat):Int):=by rw [w64_id]<;>omega
 have inf:=spec_InfixOf_ok (sgD l i).text
 have pre:=spec_PrefixOf_ok (sgD l i).text
 unfold opV at inf
 unfold preV at pre
 have nr:=spec_near_ok l τ hg i hlt (.i true (nm.map S)) d false
 have tk: ∀ x:Tm,(x.kids.map oT).take x.kids.length=x.kids.map oT:=fun x=>List.take_of_length_le (by simp)
 rw [hnr]at g0
 rw [hng]at nr
 have hk3:(sgD l (i+1)).kind=3:=by unfold isNeg at hng;simp only [Bool.and_eq_true,decide_eq_true_eq]at hng;exact hng.1
 have g1:=getmap (f:=Sg.v) (sgD_get (l:=l) (i:=i+1) (sgD_lt (by rw [hk3];decide)))
 have a1:=fun T=>addr_i (τ:=τ) (T:=T) (e:=5) g1 rfl
 rw [Sg.v]at g1
 have en:w64 (0 - (sgD l (i+1)).num)=0 - (sgD l (i+1)).num:=by
  have:=hg.num (i+1)
  rw [w64_id]<;>omega
 have nk:=spec_l03Num_ok (0 - (sgD l (i+1)).num)
 rw [oT_leaf]at nk
 rw [ht]at g0
 rw [cw_fn pA_spec_l06Read_atom rfl,oT_leaf]
 simp only [go_sem,Nat.reduceAdd,Nat.reduceSub,Nat.reduceMul,Nat.reduceEqDiff,Nat.reduceLeDiff,Nat.reduceBEq,reduceCtorEq,A.spec_l06Read_atom,finish,List.length_map,a0,g0,e1,e2,e3,inf,pre,nr,tk,en,nk,a1,g1]
theorem satom_pre(l:List Sg) (τ:Bool) (hg:GoodL l) (i:Nat) (hi:i≤l.length) (nm:List Str) (d:Nat) (most:Int) (hk:(sgD l i).kind=1) (hnr:(sgD l i).near=false) (hneg:(decide ((sgD l i).text=[45])&&isNeg l i)=false) (hp:(prefixOf (sgD l i).text).prio ≠ 0) (hm:(prefixOf (sgD l i).text).prio≤most) (x:Tm) (a1:Nat) (nm1:List Str) (d1:Int) (b1:Bool)
 (hT:cw progA F.spec_l06Read_term [.b (.a [.i τ (l.map Sg.v),I ((i+1:Nat):Int),B false,I (d),.o 1 (List.map S nm)]),I (prefixOf (sgD l i).text).right]=some (oT x,[.b (.a [.i τ (l.map Sg.v),I a1,B b1,I (d1),.o 1 (List.map S nm1)]),I (prefixOf (sgD l i).text).right])):
 cw progA F.spec_l06Read_atom [.b (.a [.i τ (l.map Sg.v),I i,B false,I (d),.o 1 (List.map S nm)]),I most]=some (.t [oT (.mk 4 (sgD l i).text 0 [x]),I (prefixOf (sgD l i).text).prio],[.b (.a [.i τ (l.map Sg.v),I a1,B b1,I (d1),.o 1 (List.map S nm1)]),I most]):=by
 have hlen:=hg.len
 have hlt:i < l.length:=sgD_lt (by rw [hk];decide)
 have g0:=getmap (f:=Sg.v) (sgD_get hlt)
 have a0:=fun T=>addr_i (τ:=τ) (T:=T) (e:=5) g0 rfl
 rw [Sg.v]at g0
 have e1:w64 ((i:Int)+1)=((i+1:Nat):Int):=by rw [w64_id]<;>omega
 have e2:w64 ((i:Int)+2)=((i+2:Nat):Int):=by rw [w64_id]<;>omega
 have e3:w64 (((i+2:Nat):Int) - 1)=((i+1:Nat):Int):=by rw [w64_id]<;>omega
 have inf:=spec_InfixOf_ok (sgD l i).text
 have pre:=spec_PrefixOf_ok (sgD l i).text
 unfold opV at inf
 unfold preV at pre
 have nr:=spec_near_ok l τ hg i hlt (.i true (nm.map S)) d false
 have tk: ∀ x:Tm,(x.kids.map oT).take x.kids.length=x.kids.map oT:=fun x=>List.take_of_length_le (by simp)
 rw [hnr]at g0
 have hp':decide ((prefixOf (sgD l i).text).prio ≠ 0)=true:=decide_eq_true hp
 rw [hp']at pre
 rw [oT_mk x]at hT
 rw [cw_fn pA_spec_l06Read_atom rfl,oT_struct,List.map_cons,List.map_nil,oT_mk x]
 cases ht:decide ((sgD l i).text=[45])with
 |true=>
  rw [ht,Bool.true_and]at hneg
  rw [hneg]at nr
  simp only [go_sem,Nat.reduceAdd,Nat.reduceSub,Nat.reduceMul,Nat.reduceEqDiff,Nat.reduceLeDiff,Nat.reduceBEq,reduceCtorEq,A.spec_l06Read_atom,finish,List.length_map,a0,g0,e1,e2,e3,inf,pre,nr,tk,hT,hm,ht]
 |false=>
  simp only [go_sem,Nat.reduceAdd,Nat.reduceSub,Nat.reduceMul,Nat.reduceEqDiff,Nat.reduceLeDiff,Nat.reduceBEq,reduceCtorEq,A.spec_l06Read_atom,finish,List.length_map,a0,g0,e1,e2,e3,inf,pre,nr,tk,hT,hm,ht]
theorem satom_atom(l:List Sg) (τ:Bool) (hg:GoodL l) (i:Nat) (hi:i≤l.length) (nm:List Str) (d:Nat) (most:Int) (hk:(sgD l i).kind=1) (hnr:(sgD l i).near=false) (hneg:(decide ((sgD l i).text=[45])&&isNeg l i)=false) (hp:(prefixOf (sgD l i).text).prio=0) (hq:(infixOf (sgD l i).text).prio=0):
 cw progA F.spec_l06Read_atom [.b (.a [.i τ (l.map Sg.v),I i,B false,I (d),.o 1 (List.map S nm)]),I most]=some (.t [oT (.mk 2 (sgD l i).text 0 []),I 0],[.b (.a [.i τ (l.map Sg.v),I ((i+1:Nat):Int),B false,I (d),.o 1 (List.map S nm)]),I most]):=by
 have hlen:=hg.len
 have hlt:i < l.length:=sgD_lt (by rw [hk];decide)
 have g0:=getmap (f:=Sg.v) (sgD_get hlt)
 have a0:=fun T=>addr_i (τ:=τ) (T:=T) (e:=5) g0 rfl
 rw [Sg.v]at g0
 have e1:w64 ((i:Int)+1)=((i+1:Nat):Int):=by rw [w64_id]<;>omega
 have e2:w64 ((i:Int)+2)=((i+2:Nat):Int):=by rw [w64_id]<;>omega
 have e3:w64 (((i+2:Nat):Int) - 1)=((i+1:Nat):Int):=by rw [w64_id]<;>omega
 have inf:=spec_InfixOf_ok (sgD l i).text
 have pre:=spec_PrefixOf_ok (sgD l i).text
 unfold opV at inf
 unfold preV at pre
 have nr:=spec_near_ok l τ hg i hlt (.i true (nm.map S)) d false
 have tk: ∀ x:Tm,(x.kids.map oT).take x.kids.length=x.kids.map oT:=fun x=>List.take_of_length_le (by simp)
 rw [hnr]at g0
 have hp':decide ((prefixOf (sgD l i).text).prio ≠ 0)=false:=decide_eq_false fun h=>h hp
 have hq':decide ((infixOf (sgD l i).text).prio ≠ 0)=false:=decide_eq_false fun h=>h hq
 rw [hp']at pre
 rw [hq']at inf
 have nk:=spec_l03Atom_ok (sgD l i).text
 rw [oT_leaf]at nk
 rw [cw_fn pA_spec_l06Read_atom rfl,oT_leaf]
 cases ht:decide ((sgD l i).text=[45])with
 |true=>
  rw [ht,Bool.true_and]at hneg
  rw [hneg]at nr
  simp only [go_sem,Nat.reduceAdd,Nat.reduceSub,Nat.reduceMul,Nat.reduceEqDiff,Nat.reduceLeDiff,Nat.reduceBEq,reduceCtorEq,A.spec_l06Read_atom,finish,List.length_map,a0,g0,e1,e2,e3,inf,pre,nr,tk,nk,ht]
 |false=>
  simp only [go_sem,Nat.reduceAdd,Nat.reduceSub,Nat.reduceMul,Nat.reduceEqDiff,Nat.reduceLeDiff,Nat.reduceBEq,reduceCtorEq,A.spec_l06Read_atom,finish,List.length_map,a0,g0,e1,e2,e3,inf,pre,nr,tk,nk,ht]
theorem satom_bad1(l:List Sg) (τ:Bool) (hg:GoodL l) (i:Nat) (hi:i≤l.length) (nm:List Str) (d:Nat) (most:Int) (hk:(sgD l i).kind=1) (hnr:(sgD l i).near=false) (hneg:(decide ((sgD l i).text=[45])&&isNeg l i)=false) (hp:(prefixOf (sgD l i).text).prio ≠ 0) (hm: ¬ (prefixOf (sgD l i).text).prio≤most):
 cw progA F.spec_l06Read_atom [.b (.a [.i τ (l.map Sg.v),I i,B false,I (d),.o 1 (List.map S nm)]),I most]=some (.t [oT (.mk 0 [] 0 []),I 0],[.b (.a [.i τ (l.map Sg.v),I i,B true,I (d),.o 1 (List.map S nm)]),I most]):=by
 have hlen:=hg.len
 have hlt:i < l.length:=sgD_lt (by rw [hk];decide)
 have g0:=getmap (f:=Sg.v) (sgD_get hlt)
 have a0:=fun T=>addr_i (τ:=τ) (T:=T) (e:=5) g0 rfl
 rw [Sg.v]at g0
 have e1:w64 ((i:Int)+1)=((i+1:Nat):Int):=by rw [w64_id]<;>omega
 have e2:w64 ((i:Int)+2)=((i+2:Nat):Int):=by rw [w64_id]<;>omega
 have e3:w64 (((i+2:Nat):Int) - 1)=((i+1:Nat):Int):=by rw [w64_id]<;>omega
 have inf:=spec_InfixOf_ok (sgD l i).text
 have pre:=spec_PrefixOf_ok (sgD l i).text
 unfold opV at inf
 unfold preV at pre
 have nr:=spec_near_ok l τ hg i hlt (.i true (nm.map S)) d false
 have tk: ∀ x:Tm,(x.kids.map oT).take x.kids.length=x.kids.map oT:=fun x=>List.take_of_length_le (by simp)
 rw [hnr]at g0
 have hp':decide ((prefixOf (sgD l i).text).prio ≠ 0)=true:=decide_eq_true hp
 rw [hp']at pre
 rw [cw_fn pA_spec_l06Read_atom rfl,oT_leaf]
 cases ht:decide ((sgD l i).text=[45])with
 |true=>
  rw [ht,Bool.true_and]at hneg
  rw [hneg]at nr
  simp only [go_sem,Nat.reduceAdd,Nat.reduceSub,Nat.reduceMul,Nat.reduceEqDiff,Nat.reduceLeDiff,Nat.reduceBEq,reduceCtorEq,A.spec_l06Read_atom,finish,List.length_map,a0,g0,e1,e2,e3,inf,pre,nr,tk,hm,ht]
 |false=>
  simp only [go_sem,Nat.reduceAdd,Nat.reduceSub,Nat.reduceMul,Nat.reduceEqDiff,Nat.reduceLeDiff,Nat.reduceBEq,reduceCtorEq,A.spec_l06Read_atom,finish,List.length_map,a0,g0,e1,e2,e3,inf,pre,nr,tk,hm,ht]
theorem satom_bad2(l:List Sg) (τ:Bool) (hg:GoodL l) (i:Nat) (hi:i≤l.length) (nm:List Str) (d:Nat) (most:Int) (hk:(sgD l i).kind=1) (hnr:(sgD l i).near=false) (hneg:(decide ((sgD l i).text=[45])&&isNeg l i)=false) (hp:(prefixOf (sgD l i).text).prio=0) (hq:(infixOf (sgD l i).text).prio ≠ 0):
 cw progA F.spec_l06Read_atom [.b (.a [.i τ (l.map Sg.v),I i,B false,I (d),.o 1 (List.map S nm)]),I most]=some (.t [oT (.mk 0 [] 0 []),I 0],[.b (.a [.i τ (l.map Sg.v),I i,B true,I (d),.o 1 (List.map S nm)]),I most]):=by
 have hlen:=hg.len
 have hlt:i < l.length:=sgD_lt (by rw [hk];decide)
 have g0:=getmap (f:=Sg.v) (sgD_get hlt)
 have a0:=fun T=>addr_i (τ:=τ) (T:=T) (e:=5) g0 rfl
 rw [Sg.v]at g0
 have e1:w64 ((i:Int)+1)=((i+1:Nat):Int):=by rw [w64_id]<;>omega
 have e2:w64 ((i:Int)+2)=((i+2:Nat):Int):=by rw [w64_id]<;>omega
 have e3:w64 (((i+2:Nat):Int) - 1)=((i+1:Nat):Int):=by rw [w64_id]<;>omega
 have inf:=spec_InfixOf_ok (sgD l i).text
 have pre:=spec_PrefixOf_ok (sgD l i).text
 unfold opV at inf
 unfold preV at pre
 have nr:=spec_near_ok l τ hg i hlt (.i true (nm.map S)) d false
 have tk: ∀ x:Tm,(x.kids.map oT).take x.kids.length=x.kids.map oT:=fun x=>List.take_of_length_le (by simp)
 rw [hnr]at g0
 have hp':decide ((prefixOf (sgD l i).text).prio ≠ 0)=false:=decide_eq_false fun h=>h hp
 have hq':decide ((infixOf (sgD l i).text).prio ≠ 0)=true:=decide_eq_true hq
 rw [hp']at pre
 rw [hq']at inf
 rw [cw_fn pA_spec_l06Read_atom rfl,oT_leaf]
 cases ht:decide ((sgD l i).text=[45])with
 |true=>
  rw [ht,Bool.true_and]at hneg
  rw [hneg]at nr
  simp only [go_sem,Nat.reduceAdd,Nat.reduceSub,Nat.reduceMul,Nat.reduceEqDiff,Nat.reduceLeDiff,Nat.reduceBEq,reduceCtorEq,A.spec_l06Read_atom,finish,List.length_map,a0,g0,e1,e2,e3,inf,pre,nr,tk,ht]
 |false=>
  simp only [go_sem,Nat.reduceAdd,Nat.reduceSub,Nat.reduceMul,Nat.reduceEqDiff,Nat.reduceLeDiff,Nat.reduceBEq,reduceCtorEq,A.spec_l06Read_atom,finish,List.length_map,a0,g0,e1,e2,e3,inf,pre,nr,tk,ht]
end Go.Vm
set_option autoImplicit false
set_option maxHeartbeats 16000000
set_option maxRecDepth 100000
set_option linter.unusedSimpArgs false
set_option linter.unusedVariables false
namespace Go.Vm
theorem sprim_atom(l:List Sg) (τ:Bool) (hg:GoodL l) (i:Nat) (hi:i≤l.length) (nm:List Str) (d:Nat) (most:Int) (hk:(sgD l i).kind=1) (t:Tm) (q:Int) (a1:Nat) (nm1:List Str) (d1:Int) (b1:Bool)
 (hA:cw progA F.spec_l06Read_atom [.b (.a [.i τ (l.map Sg.v),I i,B false,I (d),.o 1 (List.map S nm)]),I most]=some (.t [oT t,I q],[.b (.a [.i τ (l.map Sg.v),I a1,B b1,I (d1),.o 1 (List.map S nm1)]),I most])):
 cw progA F.spec_l06Read_primary [.b (.a [.i τ (l.map Sg.v),I i,B false,I (d),.o 1 (List.map S nm)]),I most]=some (.t [oT t,I q],[.b (.a [.i τ (l.map Sg.v),I a1,B b1,I (d1),.o 1 (List.map S nm1)]),I most]):=by
 have hlen:=hg.len
 have i1:=spec_is_ok l τ hlen i (by omega) (.i true (nm.map S)) d false 1 []
 rw [isK_kind l i 1 (by decide)]at i1
 have i2:=spec_is_ok l τ hlen i (by omega) (.i true (nm.map S)) d false 2 []
 rw [isK_kind l i 2 (by decide)]at i2
 have i3:=spec_is_ok l τ hlen i (by omega) (.i true (nm.map S)) d false 3 []
 rw [isK_kind l i 3 (by decide)]at i3
 have e1:w64 ((i:Int)+1)=((i+1:Nat):Int):=by rw [w64_id]<;>omega
 have e3:w64 (((i+1:Nat):Int) - 1)=(i:Int):=by rw [w64_id]<;>omega
 have tk: ∀ x:Tm,(x.kids.map oT).take x.kids.length=x.kids.map oT:=fun x=>List.take_of_length_le (by simp)
 have m40:=spec_mark_no l τ hlen i (by omega) nm d false [40] (by decide)
 have m91:=spec_mark_no l τ hlen i (by omega) nm d false [91] (by decide)
 have y40:=spec_mark_yes l τ hlen i (by omega) nm d [40] (by decide)
 have y91:=spec_mark_yes l τ hlen i (by omega) nm d [91] (by decide)
 rw [decide_eq_true hk]at i1
 rw [oT_mk t]at hA
 rw [cw_fn pA_spec_l06Read_primary rfl,oT_mk t]
 simp only [go_sem,Nat.reduceAdd,Nat.reduceSub,Nat.reduceMul,Nat.reduceEqDiff,Nat.reduceLeDiff,Nat.reduceBEq,reduceCtorEq,A.spec_l06Read_primary,finish,List.length_map,e1,e3,i1,i2,i3,tk,Bool.not_false,Bool.true_and,hA]
theorem sprim_round(l:List Sg) (τ:Bool) (hg:GoodL l) (i:Nat) (hi:i≤l.length) (nm:List Str) (d:Nat) (most:Int) (hm:isM l i [40]=true) (t:Tm) (a1:Nat) (nm1:List Str) (d1:Int) (b1:Bool)
 (hA:cw progA F.spec_l06Read_round [.b (.a [.i τ (l.map Sg.v),I ((i+1:Nat):Int),B false,I (d),.o 1 (List.map S nm)])]=some (oT t,[.b (.a [.i τ (l.map Sg.v),I a1,B b1,I (d1),.o 1 (List.map S nm1)])])):
 cw progA F.spec_l06Read_primary [.b (.a [.i τ (l.map Sg.v),I i,B false,I (d),.o 1 (List.map S nm)]),I most]=some (.t [oT t,I 0],[.b (.a [.i τ (l.map Sg.v),I a1,B b1,I (d1),.o 1 (List.map S nm1)]),I most]):=by
 have hlen:=hg.len
 have i1:=spec_is_ok l τ hlen i (by omega) (.i true (nm.map S)) d false 1 []
 rw [isK_kind l i 1 (by decide)]at i1
 have i2:=spec_is_ok l τ hlen i (by omega) (.i true (nm.map S)) d false 2 []
 rw [isK_kind l i 2 (by decide)]at i2
 have i3:=spec_is_ok l τ hlen i (by omega) (.i true (nm.map S)) d false 3 []
 rw [isK_kind l i 3 (by decide)]at i3
 have e1:w64 ((i:Int)+1)=((i+1:Nat):Int):=by rw [w64_id]<;>omega
 have e3:w64 (((i+1:Nat):Int) - 1)=(i:Int):=by rw [w64_id]<;>omega
 have tk: ∀ x:Tm,(x.kids.map oT).take x.kids.length=x.kids.map oT:=fun x=>List.take_of_length_le (by simp)
 have m40:=spec_mark_no l τ hlen i (by omega) nm d false [40] (by decide)
 have m91:=spec_mark_no l τ hlen i (by omega) nm d false [91] (by decide)
 have y40:=spec_mark_yes l τ hlen i (by omega) nm d [40] (by decide)
 have y91:=spec_mark_yes l τ hlen i (by omega) nm d [91] (by decide)
 have hk:decide ((sgD l i).kind=1)=false:=by rw [(isM_lt hm).2.1];rfl
 rw [hk]at i1
 have mk:=y40 hm
 rw [oT_mk t]at hA
 rw [cw_fn pA_spec_l06Read_primary rfl,oT_mk t]
 simp only [go_sem,Nat.reduceAdd,Nat.reduceSub,Nat.reduceMul,Nat.reduceEqDiff,Nat.reduceLeDiff,Nat.reduceBEq,reduceCtorEq,A.spec_l06Read_primary,finish,List.length_map,e1,e3,i1,i2,i3,tk,Bool.not_false,Bool.true_and,hA,mk]
theorem sprim_row(l:List Sg) (τ:Bool) (hg:GoodL l) (i:Nat) (hi:i≤l.length) (nm:List Str) (d:Nat) (most:Int) (hm:isM l i [91]=true) (t:Tm) (a1:Nat) (nm1:List Str) (d1:Int) (b1:Bool)
 (hA:cw progA F.spec_l06Read_row [.b (.a [.i τ (l.map Sg.v),I ((i+1:Nat):Int),B false,I (d),.o 1 (List.map S nm)])]=some (oT t,[.b (.a [.i τ (l.map Sg.v),I a1,B b1,I (d1),.o 1 (List.map S nm1)])])):
 cw progA F.spec_l06Read_primary [.b (.a [.i τ (l.map Sg.v),I i,B false,I (d),.o 1 (List.map S nm)]),I most]=some (.t [oT t,I 0],[.b (.a [.i τ (l.map Sg.v),I a1,B b1,I (d1),.o 1 (List.map S nm1)]),I most]):=by
 have hlen:=hg.len
 have i1:=spec_is_ok l τ hlen i (by omega) (.i true (nm.map S)) d false 1 []
 rw [isK_kind l i 1 (by decide)]at i1
 have i2:=spec_is_ok l τ hlen i (by omega) (.i true (nm.map S)) d false 2 []
 rw [isK_kind l i 2 (by decide)]at i2
 have i3:=spec_is_ok l τ hlen i (by omega) (.i true (nm.map S)) d false 3 []
 rw [isK_kind l i 3 (by decide)]at i3
 have e1:w64 ((i:Int)+1)=((i+1:Nat):Int):=by rw [w64_id]<;>omega
 have e3:w64 (((i+1:Nat):Int) - 1)=(i:Int):=by rw [w64_id]<;>omega
 have tk: ∀ x:Tm,(x.kids.map oT).take x.kids.length=x.kids.map oT:=fun x=>List.take_of_length_le (by simp)
 have m40:=spec_mark_no l τ hlen i (by omega) nm d false [40] (by decide)
 have m91:=spec_mark_no l τ hlen i (by omega) nm d false [91] (by decide)
 have y40:=spec_mark_yes l τ hlen i (by omega) nm d [40] (by decide)
 have y91:=spec_mark_yes l τ hlen i (by omega) nm d [91] (by decide)
 have hk:decide ((sgD l i).kind=1)=false:=by rw [(isM_lt hm).2.1];rfl
 rw [hk]at i1
 have mk0:=m40 (by rw [isM_ne l i [91] [40] hm (by decide)];rfl)
 have mk:=y91 hm
 rw [oT_mk t]at hA
 rw [cw_fn pA_spec_l06Read_primary rfl,oT_mk t]
 simp only [go_sem,Nat.reduceAdd,Nat.reduceSub,Nat.reduceMul,Nat.reduceEqDiff,Nat.reduceLeDiff,Nat.reduceBEq,reduceCtorEq,A.spec_l06Read_primary,finish,List.length_map,e1,e3,i1,i2,i3,tk,Bool.not_false,Bool.true_and,hA,mk0,mk]
theorem sprim_num(l:List Sg) (τ:Bool) (hg:GoodL l) (i:Nat) (hi:i≤l.length) (nm:List Str) (d:Nat) (most:Int) (hk:(sgD l i).kind=3):
 cw progA F.spec_l06Read_primary [.b (.a [.i τ (l.map Sg.v),I i,B false,I (d),.o 1 (List.map S nm)]),I most]=some (.t [oT (.mk 3 [] (sgD l i).num []),I 0],[.b (.a [.i τ (l.map Sg.v),I ((i+1:Nat):Int),B false,I (d),.o 1 (List.map S nm)]),I most]):=by
 have hlen:=hg.len
 have i1:=spec_is_ok l τ hlen i (by omega) (.i true (nm.map S)) d false 1 []
 rw [isK_kind l i 1 (by decide)]at i1
 have i2:=spec_is_ok l τ hlen i (by omega) (.i true (nm.map S)) d false 2 []
 rw [isK_kind l i 2 (by decide)]at i2
 have i3:=spec_is_ok l τ hlen i (by omega) (.i true (nm.map S)) d false 3 []
 rw [isK_kind l i 3 (by decide)]at i3
 have e1:w64 ((i:Int)+1)=((i+1:Nat):Int):=by rw [w64_id]<;>omega
 have e3:w64 (((i+1:Nat):Int) - 1)=(i:Int):=by rw [w64_id]<;>omega
 have tk: ∀ x:Tm,(x.kids.map oT).take x.kids.length=x.kids.map oT:=fun x=>List.take_of_length_le (by simp)
 have m40:=spec_mark_no l τ hlen i (by omega) nm d false [40] (by decide)
 have m91:=spec_mark_no l τ hlen i (by omega) nm d false [91] (by decide)
 have y40:=spec_mark_yes l τ hlen i (by omega) nm d [40] (by decide)
 have y91:=spec_mark_yes l τ hlen i (by omega) nm d [91] (by decide)
 have k1:decide ((sgD l i).kind=1)=false:=by rw [hk];rfl
 rw [k1]at i1
 rw [decide_eq_true hk]at i3
 have mk0:=m40 (by unfold isM;rw [hk];rfl)
 have mk:=m91 (by unfold isM;rw [hk];rfl)
 have g0:=getmap (f:=Sg.v) (sgD_get (l:=l) (i:=i) (sgD_lt (by rw [hk];decide)))
 have a0:=fun T=>addr_i (τ:=τ) (T:=T) (e:=5) g0 rfl
 rw [Sg.v]at g0
 have nk:=spec_l03Num_ok (sgD l i).num
 rw [oT_leaf]at nk
 rw [cw_fn pA_spec_l06Read_primary rfl,oT_leaf]
 simp only [go_sem,Nat.reduceAdd,Nat.reduceSub,Nat.reduceMul,Nat.reduceEqDiff,Nat.reduceLeDiff,Nat.reduceBEq,reduceCtorEq,A.spec_l06Read_primary,finish,List.length_map,e1,e3,i1,i2,i3,tk,Bool.not_false,Bool.true_and,nk,mk0,mk,g0,a0]
theorem sprim_var(l:List Sg) (τ:Bool) (hg:GoodL l) (i:Nat) (hi:i≤l.length) (nm:List Str) (d:Nat) (most:Int) (hk:(sgD l i).kind=2) (hn:nm.length≤2^30):
 cw progA F.spec_l06Read_primary [.b (.a [.i τ (l.map Sg.v),I i,B false,I (d),.o 1 (List.map S nm)]),I most]=some (.t [oT (varAt nm (sgD l i).text).1,I 0],[.b (.a [.i τ (l.map Sg.v),I ((i+1:Nat):Int),B false,I (d),.o 1 (List.map S ((varAt nm (sgD l i).text).2))]),I most]):=by
 have hlen:=hg.len
 have i1:=spec_is_ok l τ hlen i (by omega) (.i true (nm.map S)) d false 1 []
 rw [isK_kind l i 1 (by decide)]at i1
 have i2:=spec_is_ok l τ hlen i (by omega) (.i true (nm.map S)) d false 2 []
 rw [isK_kind l i 2 (by decide)]at i2
 have i3:=spec_is_ok l τ hlen i (by omega) (.i true (nm.map S)) d false 3 []
 rw [isK_kind l i 3 (by decide)]at i3
 have e1:w64 ((i:Int)+1)=((i+1:Nat):Int):=by rw [w64_id]<;>omega
 have e3:w64 (((i+1:Nat):Int) - 1)=(i:Int):=by rw [w64_id]<;>omega
 have tk: ∀ x:Tm,(x.kids.map oT).take x.kids.length=x.kids.map oT:=fun x=>List.take_of_length_le (by simp)
 have m40:=spec_mark_no l τ hlen i (by omega) nm d false [40] (by decide)
 have m91:=spec_mark_no l τ hlen i (by omega) nm d false [91] (by decide)
 have y40:=spec_mark_yes l τ hlen i (by omega) nm d [40] (by decide)
 have y91:=spec_mark_yes l τ hlen i (by omega) nm d [91] (by decide)
 have k1:decide ((sgD l i).kind=1)=false:=by rw [hk];rfl
 have k3:decide ((sgD l i).kind=3)=false:=by rw [hk];rfl
 rw [k1]at i1
 rw [k3]at i3
 rw [decide_eq_true hk]at i2
 have mk0:=m40 (by unfold isM;rw [hk];rfl)
 have mk:=m91 (by unfold isM;rw [hk];rfl)
 have g0:=getmap (f:=Sg.v) (sgD_get (l:=l) (i:=i) (sgD_lt (by rw [hk];decide)))
 have a0:=fun T=>addr_i (τ:=τ) (T:=T) (e:=5) g0 rfl
 rw [Sg.v]at g0
 have nk:=spec_variable_ok l τ ((i+1:Nat):Int) nm hn d false (sgD l i).text
 rw [oT_mk]at nk
 rw [cw_fn pA_spec_l06Read_primary rfl,oT_mk]
 simp only [go_sem,Nat.reduceAdd,Nat.reduceSub,Nat.reduceMul,Nat.reduceEqDiff,Nat.reduceLeDiff,Nat.reduceBEq,reduceCtorEq,A.spec_l06Read_primary,finish,List.length_map,e1,e3,i1,i2,i3,tk,Bool.not_false,Bool.true_and,nk,mk0,mk,g0,a0]
theorem sprim_bad(l:List Sg) (τ:Bool) (hg:GoodL l) (i:Nat) (hi:i≤l.length) (nm:List Str) (d:Nat) (most:Int) (k1:(sgD l i).kind ≠ 1) (k2:(sgD l i).kind ≠ 2) (k3:(sgD l i).kind ≠ 3) (n40:isM l i [40]=false) (n91:isM l i [91]=false):
 cw progA F.spec_l06Read_primary [.b (.a [.i τ (l.map Sg.v),I i,B false,I (d),.o 1 (List.map S nm)]),I most]=some (.t [oT (.mk 0 [] 0 []),I 0],[.b (.a [.i τ (l.map Sg.v),I i,B true,I (d),.o 1 (List.map S nm)]),I most]):=by
 have hlen:=hg.len
 have i1:=spec_is_ok l τ hlen i (by omega) (.i true (nm.map S)) d false 1 []
 rw [isK_kind l i 1 (by decide)]at i1
 have i2:=spec_is_ok l τ hlen i (by omega) (.i true (nm.map S)) d false 2 []
 rw [isK_kind l i 2 (by decide)]at i2
 have i3:=spec_is_ok l τ hlen i (by omega) (.i true (nm.map S)) d false 3 []
 rw [isK_kind l i 3 (by decide)]at i3
 have e1:w64 ((i:Int)+1)=((i+1:Nat):Int):=by rw [w64_id]<;>omega
 have e3:w64 (((i+1:Nat):Int) - 1)=(i:Int):=by rw [w64_id]<;>omega
 have tk: ∀ x:Tm,(x.kids.map oT).take x.kids.length=x.kids.map oT:=fun x=>List.take_of_length_le (by simp)
 have m40:=spec_mark_no l τ hlen i (by omega) nm d false [40] (by decide)
 have m91:=spec_mark_no l τ hlen i (by omega) nm d false [91] (by decide)
 have y40:=spec_mark_yes l τ hlen i (by omega) nm d [40] (by decide)
 have y91:=spec_mark_yes l τ hlen i (by omega) nm d [91] (by decide)
 rw [decide_eq_false k1]at i1
 rw [decide_eq_false k2]at i2
 rw [decide_eq_false k3]at i3
 have mk0:=m40 (by rw [n40];rfl)
 have mk:=m91 (by rw [n91];rfl)
 rw [cw_fn pA_spec_l06Read_primary rfl,oT_leaf]
 simp only [go_sem,Nat.reduceAdd,Nat.reduceSub,Nat.reduceMul,Nat.reduceEqDiff,Nat.reduceLeDiff,Nat.reduceBEq,reduceCtorEq,A.spec_l06Read_primary,finish,List.length_map,e1,e3,i1,i2,i3,tk,Bool.not_false,Bool.true_and,mk0,mk]
theorem SP_step(l:List Sg) (τ:Bool) (hg:GoodL l) (n:Nat) (hn20:n≤2^20) (hT:ST l τ n) (hS: ∀ m,m+1=n→SS l τ m) (hR: ∀ m,m+1=n→SR l τ m):SP l τ (n+1):=by
 intro i nm d most hn hi hnm hd
 have hlen:=hg.len
 have pa: ∀ i nm d,∀ m,n=m+1→pA l n i nm d=pC l m i nm d []:=fun i nm d m h=>by
  subst h
  simp only [pA,pC]
  cases pT l m i nm d 999<;>rfl
 simp only [pP]
 by_cases c1:(sgD l i).kind=1∧(sgD l i).near=true
 ·have h40:=hg.near i c1.2
  have hlt:=(isM_lt h40).1
  obtain ⟨m,rfl⟩: ∃ m,n=m+1:=⟨n - 1,by omega⟩
  obtain ⟨a1,a2⟩:=hS m rfl (i+2) nm d (sgD l i).text [] (by omega) (by omega) (by omega) (by simp) hd
  rw [if_pos c1,pa (i+2) nm d m rfl]
  have done: ∀ (ks:List Tm) (a:Nat) (nm':List Str) (d':Int) (b:Bool) (st:St),EXs l τ (sgD l i).text a nm' d' b ks st→lw progA L.spec_l06Read_some_0 ⟨[(0,.p (0,0) 0 0),(4,.p (100000,0) 0 0),(5,.p (100000,1) 0 0)],[((0,0),5,[.a [.i τ (l.map Sg.v),I ((i+2:Nat):Int),B false,I (d),.o 1 (List.map S nm)]]),((100000,0),4,[.a [I 0,S [],I 0,.s (100000,2) 0 0]]),((100000,1),4,[.a [I (Tm.kind (Tm.mk 4 (sgD l i).text 0 [])),S (Tm.name (Tm.mk 4 (sgD l i).text 0 [])),I (Tm.num (Tm.mk 4 (sgD l i).text 0 [])),.s (100000,3) 0 (Tm.kids (Tm.mk 4 (sgD l i).text 0 [])).length]]),((100000,2),4,[]),((100000,3),4,(Tm.kids (Tm.mk 4 (sgD l i).text 0 [])).map oT)]⟩=some (.exit 0,st)→
   cw progA F.spec_l06Read_primary [.b (.a [.i τ (l.map Sg.v),I i,B false,I (d),.o 1 (List.map S nm)]),I most]=some (.t [oT (.mk 4 (sgD l i).text 0 ks),I 0],[.b (.a [.i τ (l.map Sg.v),I a,B b,I (d'),.o 1 (List.map S nm')]),I most]):=fun ks a nm' d' b st he hl=>
   sprim_atom l τ hg i hi nm d most c1.1 _ _ _ _ _ _ (satom_call l τ hg i hi nm d most c1.1 c1.2 _ a nm' d' b (some_fin l τ (i+2) nm d (sgD l i).text a nm' d' b ks st he hl))
  cases hp:pC l m (i+2) nm d []with
  |none=>
   refine ⟨fun t q i' nm' h=>by simp at h,fun _=> ?_⟩
   obtain ⟨ks,a,nm',d',st,ha,he,hl⟩:=a2 (fun ks i' nm' h=>by rw [hp]at h;cases h)
   exact ⟨_,_,_,⟨a,nm',d',by omega,rfl⟩,done ks a nm' d' true st he hl⟩
  |some r=>
   obtain ⟨ks,i1,nm1⟩:=r
   simp only
   by_cases hm:isM l i1 [41]=true∧ks.length≤5
   ·rw [if_pos hm]
    refine ⟨fun t q i' nm' h=> ?_,fun h=>by simp at h⟩
    simp only [Option.some.injEq,Prod.mk.injEq]at h
    obtain ⟨rfl,rfl,rfl,rfl⟩:=h
    obtain ⟨st,he,hl⟩:=a1 ks i1 nm1 hp hm.1 hm.2
    exact done ks (i1+1) nm1 d false st he hl
   ·rw [if_neg hm]
    refine ⟨fun t q i' nm' h=>by simp at h,fun _=> ?_⟩
    obtain ⟨ks',a,nm',d',st,ha,he,hl⟩:=a2 (fun ks' i' nm' h=>by
     rw [hp]at h
     simp only [Option.some.injEq,Prod.mk.injEq]at h
     obtain ⟨rfl,rfl,rfl⟩:=h
     exact hm)
    exact ⟨_,_,_,⟨a,nm',d',by omega,rfl⟩,done ks' a nm' d' true st he hl⟩
 rw [if_neg c1]
 by_cases c2:isM l i [40]=true
 ·have hlt:=(isM_lt c2).1
  rw [if_pos c2]
  by_cases c3:(sgD l (i+1)).kind=1∧isM l (i+2) [41]=true
  ·rw [if_pos c3]
   refine ⟨fun t q i' nm' h=> ?_,fun h=>by simp at h⟩
   simp only [Option.some.injEq,Prod.mk.injEq]at h
   obtain ⟨rfl,rfl,rfl,rfl⟩:=h
   exact sprim_round l τ hg i hi nm d most c2 _ _ _ _ _ (round_atom l τ hg (i+1) nm d c3.1 c3.2)
  ·rw [if_neg c3]
   obtain ⟨t1,t2⟩:=hT (i+1) nm d 1200 (by omega) (by omega) (by omega) hd
   cases hp:pT l n (i+1) nm d 1200 with
   |none=>
    refine ⟨fun t q i' nm' h=>by simp at h,fun _=> ?_⟩
    obtain ⟨g,cs,⟨a,nm1,d1,ha,rfl⟩,hc⟩:=t2 hp
    have:=(round_term l τ hg (i+1) (by omega) nm d c3 g a (by omega) nm1 d1 true hc).2 rfl
    exact ⟨_,_,_,⟨a,nm1,d1,by omega,rfl⟩,sprim_round l τ hg i hi nm d most c2 _ _ _ _ _ this⟩
   |some r=>
    obtain ⟨g,i1,nm1⟩:=r
    have adv:=(p_adv l n).1 _ _ _ _ _ _ _ hp
    obtain ⟨r1,r2⟩:=round_term l τ hg (i+1) (by omega) nm d c3 g i1 (by omega) nm1 d false (t1 _ _ _ hp)
    simp only
    by_cases hm:isM l i1 [41]=true
    ·rw [if_pos hm]
     refine ⟨fun t q i' nm' h=> ?_,fun h=>by simp at h⟩
     simp only [Option.some.injEq,Prod.mk.injEq]at h
     obtain ⟨rfl,rfl,rfl,rfl⟩:=h
     exact sprim_round l τ hg i hi nm d most c2 _ _ _ _ _ (r1 rfl hm)
    ·rw [if_neg hm]
     have hb:isM l i1 [41]=false:=by cases h:isM l i1 [41];rfl;exact absurd h hm
     exact ⟨fun t q i' nm' h=>by simp at h,fun _=>⟨_,_,_,⟨i1,nm1,d,by omega,rfl⟩,sprim_round l τ hg i hi nm d most c2 _ _ _ _ _ (r2 (by rw [hb];rfl))⟩⟩
 rw [if_neg c2]
 have n40:isM l i [40]=false:=by cases h:isM l i [40];rfl;exact absurd h c2
 by_cases c4:isM l i [91]=true
 ·have hlt:=(isM_lt c4).1
  rw [if_pos c4]
  by_cases c5:isM l (i+1) [93]=true
  ·rw [if_pos c5]
   refine ⟨fun t q i' nm' h=> ?_,fun h=>by simp at h⟩
   simp only [Option.some.injEq,Prod.mk.injEq]at h
   obtain ⟨rfl,rfl,rfl,rfl⟩:=h
   exact sprim_row l τ hg i hi nm d most c4 nilTm (i+2) nm d false (row_nil l τ hg (i+1) (by omega) nm d c5)
  rw [if_neg c5]
  have n93:isM l (i+1) [93]=false:=by cases h:isM l (i+1) [93];rfl;exact absurd h c5
  obtain ⟨m,hm1⟩: ∃ m,n=m+1:=⟨n - 1,by omega⟩
  obtain ⟨a1,a2⟩:=hR m hm1.symm (i+1) nm d [] (by omega) (by omega) (by omega) (by simp) hd
  rw [pa (i+1) nm d m hm1]
  have done:=fun (ks:List Tm) (hk:ks.length≤2^30) (out:Tm) (a:Nat) (nm':List Str) (d':Int) (b:Bool) (st:St) (he:EXr l τ a nm' d' b ks out st) hl=>
   sprim_row l τ hg i hi nm d most c4 (mkList ks out) a nm' d' b (row_fin l τ hg (i+1) (by omega) nm d n93 a nm' d' b ks hk out st he hl)
  cases hp:pC l m (i+1) nm d []with
  |none=>
   refine ⟨fun t q i' nm' h=>by simp at h,fun _=> ?_⟩
   obtain ⟨ks,a,nm',d',st,ha,hkl,he,hl⟩:=a1 hp
   exact ⟨_,_,_,⟨a,nm',d',by omega,rfl⟩,done ks (by omega) nilTm a nm' d' true st he hl⟩
  |some r=>
   obtain ⟨ks,i1,nm1⟩:=r
   obtain ⟨j1,j2,j3,j4⟩:=a2 ks i1 nm1 hp
   have hpa:pA l n (i+1) nm d=some (ks,i1,nm1):=by rw [pa (i+1) nm d m hm1,hp]
   have adv:=(p_adv l n).2.2.2.1 _ _ _ _ _ _ hpa
   have nl:=(p_nlen l n).2.2.2.1 _ _ _ _ _ _ hpa
   simp only
   cases hb:isM l i1 [124]with
   |true=>
    have hlt1:=(isM_lt hb).1
    rw [if_pos rfl]
    obtain ⟨t1,t2⟩:=hT (i1+1) nm1 d 999 (by omega) (by omega) (by omega) hd
    cases hp2:pT l n (i1+1) nm1 d 999 with
    |none=>
     refine ⟨fun t q i' nm' h=>by simp at h,fun _=> ?_⟩
     obtain ⟨g,cs,⟨a,nm2,d1,ha,rfl⟩,hc2⟩:=t2 hp2
     obtain ⟨st,he,hl⟩:=j3 hb g a nm2 d1 true a true hc2 (spec_wants_no l τ hlen a (by omega) nm2 d1 true [93] (by decide) rfl)
     exact ⟨_,_,_,⟨a,nm2,d1,by omega,rfl⟩,done ks (by omega) g a nm2 d1 true st he hl⟩
    |some r2=>
     obtain ⟨r,i2,nm2⟩:=r2
     have adv2:=(p_adv l n).1 _ _ _ _ _ _ _ hp2
     simp only
     by_cases hm:isM l i2 [93]=true
     ·rw [if_pos hm]
      refine ⟨fun t q i' nm' h=> ?_,fun h=>by simp at h⟩
      simp only [Option.some.injEq,Prod.mk.injEq]at h
      obtain ⟨rfl,rfl,rfl,rfl⟩:=h
      obtain ⟨st,he,hl⟩:=j3 hb r i2 nm2 d false (i2+1) false (t1 _ _ _ hp2) (spec_wants_yes l τ hlen i2 (by omega) nm2 d [93] (by decide) hm)
      exact done ks (by omega) r (i2+1) nm2 d false st he hl
     ·rw [if_neg hm]
      have hf:isM l i2 [93]=false:=by cases h:isM l i2 [93];rfl;exact absurd h hm
      obtain ⟨st,he,hl⟩:=j3 hb r i2 nm2 d false i2 true (t1 _ _ _ hp2) (spec_wants_no l τ hlen i2 (by omega) nm2 d false [93] (by decide) (by rw [hf];rfl))
      exact ⟨fun t q i' nm' h=>by simp at h,fun _=>⟨_,_,_,⟨i2,nm2,d,by omega,rfl⟩,done ks (by omega) r i2 nm2 d true st he hl⟩⟩
   |false=>
    rw [if_neg (by decide)]
    by_cases hm:isM l i1 [93]=true
    ·rw [if_pos hm]
     refine ⟨fun t q i' nm' h=> ?_,fun h=>by simp at h⟩
     simp only [Option.some.injEq,Prod.mk.injEq]at h
     obtain ⟨rfl,rfl,rfl,rfl⟩:=h
     obtain ⟨st,he,hl⟩:=j2 hm
     exact done ks (by omega) nilTm (i1+1) nm1 d false st he hl
    ·rw [if_neg hm]
     have hf:isM l i1 [93]=false:=by cases h:isM l i1 [93];rfl;exact absurd h hm
     obtain ⟨st,he,hl⟩:=j4 hf hb
     exact ⟨fun t q i' nm' h=>by simp at h,fun _=>⟨_,_,_,⟨i1,nm1,d,by omega,rfl⟩,done ks (by omega) nilTm i1 nm1 d true st he hl⟩⟩
 rw [if_neg c4]
 have n91:isM l i [91]=false:=by cases h:isM l i [91];rfl;exact absurd h c4
 by_cases c6:(sgD l i).kind=3
 ·rw [if_pos c6]
  refine ⟨fun t q i' nm' h=> ?_,fun h=>by simp at h⟩
  simp only [Option.some.injEq,Prod.mk.injEq]at h
  obtain ⟨rfl,rfl,rfl,rfl⟩:=h
  exact sprim_num l τ hg i hi nm d most c6
 rw [if_neg c6]
 by_cases c7:(sgD l i).kind=2
 ·rw [if_pos c7]
  refine ⟨fun t q i' nm' h=> ?_,fun h=>by simp at h⟩
  simp only [Option.some.injEq,Prod.mk.injEq]at h
  obtain ⟨rfl,rfl,rfl,rfl⟩:=h
  exact sprim_var l τ hg i hi nm d most c7 (by omega)
 rw [if_neg c7]
 by_cases k1:(sgD l i).kind=1
 ·have hnr:(sgD l i).near=false:=by
   cases h:(sgD l i).near with
   |true=>exact absurd ⟨k1,h⟩ c1
   |false=>rfl
  have wrap:=fun (t:Tm) (q:Int) (a:Nat) (nm':List Str) (d':Int) (b:Bool) h=>sprim_atom l τ hg i hi nm d most k1 t q a nm' d' b h
  by_cases c8:(sgD l i).kind=1∧(sgD l i).text=[45]∧(sgD l (i+1)).kind=3∧(sgD l (i+1)).at_=(sgD l i).at_+1
  ·rw [if_pos c8]
   refine ⟨fun t q i' nm' h=> ?_,fun h=>by simp at h⟩
   simp only [Option.some.injEq,Prod.mk.injEq]at h
   obtain ⟨rfl,rfl,rfl,rfl⟩:=h
   exact wrap _ _ _ _ _ _ (satom_neg l τ hg i hi nm d most k1 hnr c8.2.1 (by unfold isNeg;rw [decide_eq_true c8.2.2.1,decide_eq_true c8.2.2.2];rfl))
  rw [if_neg c8]
  have hneg:(decide ((sgD l i).text=[45])&&isNeg l i)=false:=by
   cases h:(decide ((sgD l i).text=[45])&&isNeg l i)with
   |false=>rfl
   |true=>
    unfold isNeg at h
    simp only [Bool.and_eq_true,decide_eq_true_eq]at h
    exact absurd ⟨k1,h.1,h.2.1,h.2.2⟩ c8
  have hlt:i < l.length:=sgD_lt (by rw [k1];decide)
  by_cases hp0:(prefixOf (sgD l i).text).prio=0
  ·rw [if_neg fun h=>h.2.1 hp0]
   by_cases hq0:(infixOf (sgD l i).text).prio=0
   ·rw [if_pos ⟨k1,hp0,hq0⟩]
    refine ⟨fun t q i' nm' h=> ?_,fun h=>by simp at h⟩
    simp only [Option.some.injEq,Prod.mk.injEq]at h
    obtain ⟨rfl,rfl,rfl,rfl⟩:=h
    exact wrap _ _ _ _ _ _ (satom_atom l τ hg i hi nm d most k1 hnr hneg hp0 hq0)
   ·rw [if_neg fun h=>hq0 h.2.2]
    exact ⟨fun t q i' nm' h=>by simp at h,fun _=>⟨_,_,_,⟨i,nm,d,by omega,rfl⟩,wrap _ _ _ _ _ _ (satom_bad2 l τ hg i hi nm d most k1 hnr hneg hp0 hq0)⟩⟩
  ·by_cases hm:(prefixOf (sgD l i).text).prio≤most
   ·rw [if_pos ⟨k1,hp0,hm⟩]
    obtain ⟨t1,t2⟩:=hT (i+1) nm d (prefixOf (sgD l i).text).right (by omega) (by omega) (by omega) hd
    cases hp:pT l n (i+1) nm d (prefixOf (sgD l i).text).right with
    |none=>
     refine ⟨fun t q i' nm' h=>by simp at h,fun _=> ?_⟩
     obtain ⟨g,cs,⟨a,nm1,d1,ha,rfl⟩,hc⟩:=t2 hp
     exact ⟨_,_,_,⟨a,nm1,d1,by omega,rfl⟩,wrap _ _ _ _ _ _ (satom_pre l τ hg i hi nm d most k1 hnr hneg hp0 hm g a nm1 d1 true hc)⟩
    |some r=>
     obtain ⟨x,i1,nm1⟩:=r
     refine ⟨fun t q i' nm' h=> ?_,fun h=>by simp at h⟩
     simp only [Option.some.injEq,Prod.mk.injEq]at h
     obtain ⟨rfl,rfl,rfl,rfl⟩:=h
     exact wrap _ _ _ _ _ _ (satom_pre l τ hg i hi nm d most k1 hnr hneg hp0 hm x i1 nm1 d false (t1 _ _ _ hp))
   ·rw [if_neg fun h=>hm h.2.2,if_neg fun h=>hp0 h.2.1]
    exact ⟨fun t q i' nm' h=>by simp at h,fun _=>⟨_,_,_,⟨i,nm,d,by omega,rfl⟩,wrap _ _ _ _ _ _ (satom_bad1 l τ hg i hi nm d most k1 hnr hneg hp0 hm)⟩⟩
 ·rw [if_neg fun h=>k1 h.1,if_neg fun h=>k1 h.1,if_neg fun h=>k1 h.1]
  exact ⟨fun t q i' nm' h=>by simp at h,fun _=>⟨_,_,_,⟨i,nm,d,by omega,rfl⟩,sprim_bad l τ hg i hi nm d most k1 c7 c6 n40 n91⟩⟩
theorem S_all(l:List Sg) (τ:Bool) (hg:GoodL l): ∀ n:Nat,n≤2^20→ST l τ n∧SL l τ n∧SP l τ n∧(∀ m,m+1=n→SS l τ m)∧(∀ m,m+1=n→SR l τ m)
 |0,_=>⟨fun i nm d most h=>by omega,fun i nm d most t q h=>by omega,fun i nm d most h=>by omega,fun m h=>by omega,fun m h=>by omega⟩
 |n+1,hn=>by
  obtain ⟨hT,hL,hP,hS,hR⟩:=S_all l τ hg n (by omega)
  refine ⟨ST_step l τ n hP hL,SL_step l τ hg n hT hL,SP_step l τ hg n (by omega) hT hS hR,fun m h=> ?_,fun m h=> ?_⟩
  ·obtain rfl:m=n:=by omega
   exact SS_step l τ hg m (by omega) hT hS
  ·obtain rfl:m=n:=by omega
   exact SR_step l τ hg m (by omega) hT hR
theorem spec_term_ok(l:List Sg) (τ:Bool) (hg:GoodL l) (i:Nat) (hi:i≤l.length):
 (∀ t i' nm',pT l 20000 i [] 0 1200=some (t,i',nm')→cw progA F.spec_l06Read_term [.b (.a [.i τ (l.map Sg.v),I i,B false,I ((0:Nat)),.o 1 (List.map S [])]),I 1200]=some (oT t,[.b (.a [.i τ (l.map Sg.v),I i',B false,I ((0:Nat)),.o 1 (List.map S nm')]),I 1200]))∧
 (pT l 20000 i [] 0 1200=none→ ∃ g cs,BadS l τ (2^20) cs∧cw progA F.spec_l06Read_term [.b (.a [.i τ (l.map Sg.v),I i,B false,I ((0:Nat)),.o 1 (List.map S [])]),I 1200]=some (oT g,[.b (.a cs),I 1200])):=by
 have hlen:=hg.len
 obtain ⟨h1,h2⟩:=(S_all l τ hg 20000 (by omega)).1 i [] 0 1200 (by omega) hi (by simp) (by omega)
 refine ⟨h1,fun h=> ?_⟩
 obtain ⟨g,cs,⟨a,nm,d,ha,rfl⟩,hc⟩:=h2 h
 exact ⟨g,_,⟨a,nm,d,by omega,rfl⟩,hc⟩
end Go.Vm
