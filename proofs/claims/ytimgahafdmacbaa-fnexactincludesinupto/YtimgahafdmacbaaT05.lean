import Derived.Test.YtimgahafdmacbaaT03
import Derived.Test.YtimgahafdmacbaaT04
import Derived.Lib.ItoaNum
set_option autoImplicit false
set_option maxRecDepth 100000
set_option linter.unusedSimpArgs false
set_option linter.unusedVariables false
namespace Go.Vm
theorem BT_flat(t:Tm) (v:V) (h:BT t v):FlatA 4 v:=by
 obtain ⟨τ,vs,rfl,-⟩:=BT_shape h;exact ⟨_,rfl,rfl,rfl⟩
end Go.Vm
set_option autoImplicit false
set_option maxRecDepth 100000
set_option linter.unusedSimpArgs false
set_option linter.unusedVariables false
namespace Go.Vm
end Go.Vm
set_option autoImplicit false
set_option maxRecDepth 100000
set_option linter.unusedSimpArgs false
set_option linter.unusedVariables false
namespace Go.Vm
theorem getmap {α:Type} {f:α→V} {l:List α} {i:Nat} {x:α} (h:l[i]? =some x):(l.map f)[i]? =some (f x):=by simp [h]
theorem eqStringS_loop(τ τ':Bool) (ts ts':List Str) (hl:ts'.length=ts.length) (hlim:ts.length≤Lm):
 lw progA L.laws_eqStringS_0 ⟨[(0,.i τ (ts.map S)),(1,.i τ' (ts'.map S)),(5,I 0)],[]⟩=if ts=ts' then some (.exit 0,⟨[],[]⟩)else some (.ret,⟨[(4,B false)],[]⟩):=by
 refine for_ind ts (fun i r=>lw progA L.laws_eqStringS_0 ⟨[(0,.i τ (ts.map S)),(1,.i τ' (ts'.map S)),(5,I i)],[]⟩=if r=ts'.drop i then some (.exit 0,⟨[],[]⟩)else some (.ret,⟨[(4,B false)],[]⟩)) (by unfold Lm at hlim;omega) ?_ ?_
 ·rw [List.drop_eq_nil_of_le (by omega),if_pos rfl,lw_eq]
  simp only [go_sem,Nat.reduceAdd,Nat.reduceSub,Nat.reduceMul,Nat.reduceEqDiff,Nat.reduceLeDiff,Nat.reduceBEq,reduceCtorEq,LB.laws_eqStringS_0]
 ·intro i t r ht hi hlt e1 hir hm hr ih
  obtain ⟨t',ht'⟩:=get_some' (l:=ts') (i:=i) (by omega)
  have g:=getmap (f:=S) ht
  have g':=getmap (f:=S) ht'
  have a1:=addr_i (τ:=τ) (T:=[]) (e:=1) g rfl
  have a2:=addr_i (τ:=τ') (T:=[]) (e:=1) g' rfl
  rw [drop_cons' ht',lw_eq]
  by_cases he:t=t'
  ·subst he
   have:(t::r=t::ts'.drop (i+1))=(r=ts'.drop (i+1)):=by simp
   simp only [this]
   rw [← ih]
   simp only [go_sem,Nat.reduceAdd,Nat.reduceSub,Nat.reduceMul,Nat.reduceEqDiff,Nat.reduceLeDiff,Nat.reduceBEq,reduceCtorEq,LB.laws_eqStringS_0,hlt,a1,a2,g,g',e1]
  ·rw [if_neg (fun h=>he (by cases h;rfl))]
   simp only [go_sem,Nat.reduceAdd,Nat.reduceSub,Nat.reduceMul,Nat.reduceEqDiff,Nat.reduceLeDiff,Nat.reduceBEq,reduceCtorEq,LB.laws_eqStringS_0,hlt,a1,a2,g,g',e1,he]
theorem eqStringS_ok(τ τ':Bool) (ts ts':List Str) (hw:ts.length≤Lm):
 cr progA F.laws_eqStringS [.i τ (ts.map S),.i τ' (ts'.map S)]=some (B (decide (ts=ts'))):=by
 rw [cr_fn pA_laws_eqStringS rfl]
 by_cases hl:ts'.length=ts.length
 ·have h:=eqStringS_loop τ τ' ts ts' hl hw
  by_cases he:ts=ts'
  ·rw [if_pos he]at h
   subst he
   simp only [go_sem,Nat.reduceAdd,Nat.reduceSub,Nat.reduceMul,Nat.reduceEqDiff,Nat.reduceLeDiff,Nat.reduceBEq,reduceCtorEq,A.laws_eqStringS,h]
  ·rw [if_neg he]at h
   simp only [go_sem,Nat.reduceAdd,Nat.reduceSub,Nat.reduceMul,Nat.reduceEqDiff,Nat.reduceLeDiff,Nat.reduceBEq,reduceCtorEq,A.laws_eqStringS,hl,h,he]
 ·have he: ¬ ts=ts':=fun h=>hl (by rw [h])
  have hne: ¬ (ts.length:Int)=ts'.length:=by omega
  simp only [go_sem,Nat.reduceAdd,Nat.reduceSub,Nat.reduceMul,Nat.reduceEqDiff,Nat.reduceLeDiff,Nat.reduceBEq,reduceCtorEq,A.laws_eqStringS,hne,he]
theorem termS_dummy:True:=trivial
end Go.Vm
set_option autoImplicit false
set_option maxRecDepth 100000
set_option linter.unusedSimpArgs false
set_option linter.unusedVariables false
namespace Go.Vm
theorem szFile_ok(x:Fl) (hw:wFl x) (v:V) (left:Int) (h:bFl x v): ∃ m,cr progA F.laws_szFile [v,I left]=some (I m):=by
 obtain rfl:=h
 rw [cr_fn pA_laws_szFile rfl]
 by_cases n1:w64 (left - x.name.length) < 0
 ·simp only [go_sem,Nat.reduceAdd,Nat.reduceSub,Nat.reduceMul,Nat.reduceEqDiff,Nat.reduceLeDiff,Nat.reduceBEq,reduceCtorEq,A.laws_szFile,n1];exact ⟨_,rfl⟩
 by_cases n2:w64 ((w64 (left - x.name.length)) - x.text.length) < 0
 ·simp only [go_sem,Nat.reduceAdd,Nat.reduceSub,Nat.reduceMul,Nat.reduceEqDiff,Nat.reduceLeDiff,Nat.reduceBEq,reduceCtorEq,A.laws_szFile,n1,n2];exact ⟨_,rfl⟩
 simp only [go_sem,Nat.reduceAdd,Nat.reduceSub,Nat.reduceMul,Nat.reduceEqDiff,Nat.reduceLeDiff,Nat.reduceBEq,reduceCtorEq,A.laws_szFile,n1,n2];exact ⟨_,rfl⟩
theorem toFile_ok(x:Fl) (hw:wFl x) (v:V) (h:bFl x v):cr progA F.laws_toFile [v]=some (oFl x):=by
 obtain rfl:=h
 rw [cr_fn pA_laws_toFile rfl,oFl]
 simp only [go_sem,Nat.reduceAdd,Nat.reduceSub,Nat.reduceMul,Nat.reduceEqDiff,Nat.reduceLeDiff,Nat.reduceBEq,reduceCtorEq,A.laws_toFile]
theorem eqFile_ok(x:Fl) (hw:wFl x) (y:Fl) (v v':V) (h:bFl x v) (h':bFl y v'):cr progA F.laws_eqFile [v,v']=some (B (decide (x=y))):=by
 obtain rfl:=h
 obtain rfl:=h'
 rw [cr_fn pA_laws_eqFile rfl]
 by_cases c0:x.name=y.name
 case neg=>
  have d0:decide (x.name=y.name)=false:=decide_eq_false c0
  have hf:decide (x=y)=false:=decide_eq_false fun h=>c0 (by rw [h])
  simp only [go_sem,Nat.reduceAdd,Nat.reduceSub,Nat.reduceMul,Nat.reduceEqDiff,Nat.reduceLeDiff,Nat.reduceBEq,reduceCtorEq,A.laws_eqFile,d0,hf]
 have d0:decide (x.name=y.name)=true:=decide_eq_true c0
 by_cases c1:x.text=y.text
 case neg=>
  have d1:decide (x.text=y.text)=false:=decide_eq_false c1
  have hf:decide (x=y)=false:=decide_eq_false fun h=>c1 (by rw [h])
  simp only [go_sem,Nat.reduceAdd,Nat.reduceSub,Nat.reduceMul,Nat.reduceEqDiff,Nat.reduceLeDiff,Nat.reduceBEq,reduceCtorEq,A.laws_eqFile,d0,d1,hf]
 have d1:decide (x.text=y.text)=true:=decide_eq_true c1
 have hf:decide (x=y)=true:=decide_eq_true (by cases x;cases y;simp only at c0 c1;simp only [Fl.mk.injEq];exact ⟨c0,c1⟩)
 simp only [go_sem,Nat.reduceAdd,Nat.reduceSub,Nat.reduceMul,Nat.reduceEqDiff,Nat.reduceLeDiff,Nat.reduceBEq,reduceCtorEq,A.laws_eqFile,d0,d1,hf]
theorem szFileS_ok(τ:Bool) (vs:List V) (ts:List Fl) (hv:RL bFl ts vs) (hw:ts.length≤Lm) (hw': ∀ t ∈ ts,wFl t) (left:Int): ∃ m,cr progA F.laws_szFileS [.i τ vs,I left]=some (I m):=
 szS_ok (prog:=progA) F.laws_szFileS F.laws_szFile 2 rfl Fl_flat τ vs ts hv hw (fun t ht v left h=>szFile_ok t (hw' t ht) v left h) left
theorem eqFileS_ok(τ τ':Bool) (vs vs':List V) (ts ts':List Fl) (hv:RL bFl ts vs) (hv':RL bFl ts' vs') (hw:ts.length≤Lm) (hw': ∀ t ∈ ts,wFl t):
 cr progA F.laws_eqFileS [.i τ vs,.i τ' vs']=some (B (decide (ts=ts'))):=by
 have:=eqS_ok (prog:=progA) F.laws_eqFileS F.laws_eqFile 2 rfl Fl_flat τ τ' vs vs' ts ts' hv hv' hw (fun t ht t' v v' h h'=>by rw [eqFile_ok t (hw' t ht) t' v v' h h'])
 rw [this]
theorem toFileS_loop(τ:Bool) (vs:List V) (ts:List Fl) (n:Nat) (hl:ts.length=n) (hv:RL bFl ts vs) (hlim:n≤Lm)
 (hc: ∀ t ∈ ts,∀ v,bFl t v→cr progA F.laws_toFile [v]=some (oFl t)) (m:Nat): ∀ i,i+m=n→
 lw progA L.laws_toFileS_0 ⟨[(0,.i τ vs),(3,.s (100000,0) 0 n),(4,I i)],[((100000,0),2,(ts.take i).map oFl++List.replicate m (V.a [S [],S []]))]⟩=
  some (.exit 0,⟨[(3,.s (100000,0) 0 n)],[((100000,0),2,ts.map oFl)]⟩):=by
 unfold Lm at hlim
 have hn:=RL_length hv
 rw [hl]at hn
 induction m with
 |zero=>
  intro i hi
  obtain rfl:i=n:=by omega
  rw [lw_eq]
  have h1: ¬ (i:Int) < (i:Int):=by omega
  have h2:(ts.take i).map oFl++List.replicate 0 (V.a [S [],S []])=ts.map oFl:=by simp [List.take_of_length_le (Nat.le_of_eq hl)]
  rw [h2]
  simp only [go_sem,Nat.reduceAdd,Nat.reduceSub,Nat.reduceMul,Nat.reduceEqDiff,Nat.reduceLeDiff,Nat.reduceBEq,reduceCtorEq,LB.laws_toFileS_0,hn,h1]
 |succ m ih=>
  intro i hi
  rw [lw_eq]
  have hlt:(i:Int) < (n:Int):=by omega
  obtain ⟨t,ht⟩:=get_some' (l:=ts) (i:=i) (by omega)
  obtain ⟨v,g,hb⟩:=RL_get hv ht
  have hcc:=hc t (List.mem_of_getElem? ht) v hb
  have a1:=addr_i (τ:=τ) (T:=[((100000,0),2,(ts.take i).map oFl++List.replicate (m+1) (V.a [S [],S []]))]) g (Fl_flat _ _ hb).cells
  have e1:w64 ((i:Int)+1)=((i+1:Nat):Int):=by rw [w64_id]<;>omega
  have r1:=row_len (f:=oFl) (z:=V.a [S [],S []]) ts i (m+1) n hi hl
  have r2:=row_get (f:=oFl) (z:=V.a [S [],S []]) ts i m (by omega)
  have r3:=fun x=>row_set (f:=oFl) (z:=V.a [S [],S []]) (x:=x) ts i m (by omega)
  have r4:=row_next (f:=oFl) ht (List.replicate m (V.a [S [],S []]))
  have i1:=ih (i+1) (by omega)
  obtain rfl:=hb
  rw [oFl]at hcc r4
  have kl: ∀ d,killL d ((ts.take i).map oFl++List.replicate (m+1) (V.a [S [],S []]))=(ts.take i).map oFl++List.replicate (m+1) (V.a [S [],S []]):=fun d=>by
   rw [killL_app,killL_mFl,killL_rep];rfl
  have ix:=ixO_some (k:=(100000,0)) (e:=2) (xs:=(ts.take i).map oFl++List.replicate (m+1) (V.a [S [],S []])) (i:=i) (len:=n) (by omega) (by omega)
  have rp:=fun k ob (y:V) (ys:List V)=>repEs_app k ob ((ts.take i).map oFl) (y::ys) (clEs_mFl _)
  simp only [go_sem,Nat.reduceAdd,Nat.reduceSub,Nat.reduceMul,Nat.reduceEqDiff,Nat.reduceLeDiff,Nat.reduceBEq,reduceCtorEq,LB.laws_toFileS_0,hn,hlt,a1,g,hcc,e1,kl,ix,r1,r2,r3,rp,Option.map_some,r4]
  exact i1
theorem toFileS_ok(τ:Bool) (vs:List V) (ts:List Fl) (hv:RL bFl ts vs) (hlim:ts.length≤Lm) (hw': ∀ t ∈ ts,wFl t):cr progA F.laws_toFileS [.i τ vs]=some (.o 2 (ts.map oFl)):=by
 rw [cr_fn pA_laws_toFileS rfl]
 have h:=toFileS_loop τ vs ts ts.length rfl hv hlim (fun t ht v h=>toFile_ok t (hw' t ht) v h) ts.length 0 (by omega)
 simp only [Int.natCast_zero,List.take_zero,List.map_nil,List.nil_append]at h
 unfold Lm at hlim
 have mk:=fun σ T=>mkK_nat (σ:=σ) (T:=T) (e:=2) (bytes:=32) (z:=V.a [S [],S []]) (n:=ts.length) (d:=7) (by rw [lim_val];omega) (by rw [lim_val];omega) rfl rfl rfl
 simp only [go_sem,Nat.reduceAdd,Nat.reduceSub,Nat.reduceMul,Nat.reduceEqDiff,Nat.reduceLeDiff,Nat.reduceBEq,reduceCtorEq,A.laws_toFileS,RL_length hv,mk,h]
end Go.Vm
set_option autoImplicit false
set_option maxRecDepth 100000
set_option linter.unusedSimpArgs false
set_option linter.unusedVariables false
namespace Go.Vm
def idxFrom(n:Int):Nat→List Int→Int
 |_,[]=> -1
 |i,x::xs=>if n=x then (i:Int)else idxFrom n (i+1) xs
theorem idxFrom_ge(n:Int): ∀ (l:List Int) (i:Nat),(n ∈ l→(i:Int)≤idxFrom n i l∧idxFrom n i l < i+l.length)∧(n ∉ l→idxFrom n i l= -1)
 |[],i=>⟨fun h=>(by cases h),fun _=>rfl⟩
 |x::xs,i=>by
  obtain ⟨h1,h2⟩:=idxFrom_ge n xs (i+1)
  by_cases h:n=x
  ·subst h;simp [idxFrom];omega
  ·simp only [idxFrom,if_neg h,List.mem_cons,h,false_or,List.length_cons]
   exact ⟨fun hm=>by have:=h1 hm;omega,h2⟩
theorem idxFrom_mem(n:Int) (l:List Int):0≤idxFrom n 0 l↔n ∈ l:=by
 obtain ⟨h1,h2⟩:=idxFrom_ge n l 0
 by_cases h:n ∈ l
 ·simp only [h,iff_true];have:=h1 h;omega
 ·simp only [h,iff_false,h2 h];omega
end Go.Vm
set_option autoImplicit false
set_option maxRecDepth 100000
set_option linter.unusedSimpArgs false
set_option linter.unusedVariables false
namespace Go.Vm
mutual
def addVars(l:List Int):Tm→List Int
 | .mk k _ n ks=>addVarsL (if k=1∧n ∉ l then l++[n]else l) ks
def addVarsL(l:List Int):List Tm→List Int
 |[]=>l
 |t::ts=>addVarsL (addVars l t) ts
end
def varsOf(t:Tm):List Int:=addVars [] t
mutual
theorem addVars_len: ∀ (t:Tm) (l:List Int),(addVars l t).length≤l.length+nT t
 | .mk k s n ks,l=>by
   simp only [addVars,nT]
   have:=addVarsL_len ks (if k=1∧n ∉ l then l++[n]else l)
   have h2:(if k=1∧n ∉ l then l++[n]else l).length≤l.length+1:=by split<;>simp
   omega
theorem addVarsL_len: ∀ (ts:List Tm) (l:List Int),(addVarsL l ts).length≤l.length+nTs ts
 |[],l=>by simp [addVarsL,nTs]
 |t::ts,l=>by
  simp only [addVarsL,nTs]
  have:=addVars_len t l
  have:=addVarsL_len ts (addVars l t)
  omega
end
theorem addVars_mk(t:Tm) (l:List Int):addVars l t=addVarsL (if t.kind=1∧t.num ∉ l then l++[t.num]else l) t.kids:=by cases t;rfl
end Go.Vm
set_option autoImplicit false
set_option maxRecDepth 100000
set_option linter.unusedSimpArgs false
set_option linter.unusedVariables false
namespace Go.Vm
def Snap(caps:List V):Prop:= ∀ c ∈ caps,∃ xs i o,c= .q true xs i o
theorem snap_close {caps:List V} (h:Snap caps) (m:Nat) (T:Mem):mapT (closeV (m+1)) T caps=(caps,T):=by
 induction caps with
 |nil=>rfl
 |cons c cs ih=>
  obtain ⟨xs,i,o,rfl⟩:=h c (by simp)
  simp only [mapT,closeV_q,ih fun u hu=>h u (by simp [hu])]
theorem snap_conv {caps:List V} (h:Snap caps) (τ:Bool):convL τ caps=caps:=by
 induction caps with
 |nil=>rfl
 |cons c cs ih=>
  obtain ⟨xs,i,o,rfl⟩:=h c (by simp)
  simp only [convL,conv,ih fun u hu=>h u (by simp [hu])]
theorem snap_zero {caps:List V} (h:Snap caps):zeroBL caps=true:=by
 induction caps with
 |nil=>rfl
 |cons c cs ih=>
  obtain ⟨xs,i,o,rfl⟩:=h c (by simp)
  simp only [zeroBL,zeroB,ih fun u hu=>h u (by simp [hu]),Bool.and_self]
theorem snap_kill {caps:List V} (h:Snap caps) (d:Nat):killL d caps=caps:=by
 induction caps with
 |nil=>rfl
 |cons c cs ih=>
  obtain ⟨xs,i,o,rfl⟩:=h c (by simp)
  simp only [killL,killV,ih fun u hu=>h u (by simp [hu])]
theorem snap_dir {caps:List V} (h:Snap caps):dirL caps=[]:=by
 induction caps with
 |nil=>rfl
 |cons c cs ih=>
  obtain ⟨xs,i,o,rfl⟩:=h c (by simp)
  simp only [dirL,dirV,ih fun u hu=>h u (by simp [hu]),List.append_nil]
theorem snap_nil {caps:List V} (h:Snap caps) (d i:Nat) (nm:Bool):nilL d i nm caps=caps:=by
 induction caps generalizing i with
 |nil=>rfl
 |cons c cs ih=>
  obtain ⟨xs,a,o,rfl⟩:=h c (by simp)
  simp only [nilL,nilV_q,ih (fun u hu=>h u (by simp [hu]))]
theorem snap_ren {caps:List V} (h:Snap caps) (tb:List Key):renL tb caps=caps:=by
 induction caps with
 |nil=>rfl
 |cons c cs ih=>
  obtain ⟨xs,i,o,rfl⟩:=h c (by simp)
  simp only [renL,renV_q,ih fun u hu=>h u (by simp [hu])]
theorem snap_open {caps:List V} (h:Snap caps) (d j:Nat):openL d j caps=(caps,j,[]):=by
 induction caps generalizing j with
 |nil=>rfl
 |cons c cs ih=>
  obtain ⟨xs,i,o,rfl⟩:=h c (by simp)
  simp only [openL,openX_q,ih (fun u hu=>h u (by simp [hu])),List.append_nil]
theorem snap_args {caps:List V} (h:Snap caps) (T:Mem):snapArgs T caps=caps:=by
 induction caps with
 |nil=>rfl
 |cons c cs ih=>
  obtain ⟨xs,i,o,rfl⟩:=h c (by simp)
  simp only [snapArgs,closeV_q,conv,ih fun u hu=>h u (by simp [hu])]
@[go_sem] theorem take_map2 {α β:Type} {f:α→β} {g:β→V} {l:List α}:((l.map f).map g).take l.length=(l.map f).map g:=by
 apply List.take_of_length_le;simp
mutual
def rnm(φ:Int→Int):Tm→Tm
 | .mk k s n ks=> .mk k s (if k=1 then φ n else n) (rnms φ ks)
def rnms(φ:Int→Int):List Tm→List Tm
 |[]=>[]
 |t::ts=>rnm φ t::rnms φ ts
end
theorem rnms_eq(φ:Int→Int): ∀ (ts:List Tm),rnms φ ts=ts.map (rnm φ)
 |[]=>rfl
 |t::ts=>by simp only [rnms,List.map_cons,rnms_eq φ ts]
theorem rnm_mk(φ:Int→Int) (t:Tm):rnm φ t= .mk t.kind t.name (if t.kind=1 then φ t.num else t.num) (t.kids.map (rnm φ)):=by
 cases t;simp only [rnm,rnms_eq];rfl
theorem mapSnoc {α β:Type} (f:α→β) {ts:List α} {i:Nat} {t:α} (h:ts[i]? =some t):(ts.take i).map f++[f t]=(ts.take (i+1)).map f:=by
 rw [List.take_succ_eq_append_getElem (List.getElem?_eq_some_iff.1 h).1]
 simp [(List.getElem?_eq_some_iff.1 h).2]
theorem _root_.List.map_map' {α β γ:Type} {f:α→β} {g:β→γ} {l:List α}:(l.map f).map g=l.map fun x=>g (f x):=by simp
end Go.Vm
set_option autoImplicit false
set_option maxRecDepth 100000
set_option linter.unusedSimpArgs false
set_option linter.unusedVariables false
namespace Go.Vm
theorem map_id' {α:Type} {f:α→α}: ∀ {l:List α},(∀ x ∈ l,f x=x)→l.map f=l
 |[],_=>rfl
 |x::l,h=>by rw [List.map_cons,h x (by simp),map_id' fun u hu=>h u (by simp [hu])]
theorem rnm_id: ∀ (t:Tm),rnm (fun n=>n) t=t:=by
 refine Tm.ind ?_
 intro k s n ks ih
 simp only [rnm,rnms_eq,map_id' ih,ite_self]
def freshBy(fr:Int) (l:List Int):Int→Int:=fun n=>w64 (fr+idxFrom n 0 l)
def clauseTerm(c:Cl):Tm:= .mk 4 [58,45] 0 [c.head,c.body]
theorem structure_ok(s:Str) (xs:List V) (hc:clEs xs=true):cw progA F.impl_structure [S s,.o 4 xs]=some (.a [I 4,S s,I 0,.o 4 xs],[S s,.d]):=by
 rw [cw_fn pA_impl_structure rfl]
 have hk: ∀ d,killL d xs=xs:=fun d=>killLc d xs hc
 simp only [go_sem,Nat.reduceAdd,Nat.reduceSub,Nat.reduceMul,Nat.reduceEqDiff,Nat.reduceLeDiff,Nat.reduceBEq,reduceCtorEq,A.impl_structure,finish,hc,hk]
def neatBy(φ:Int→Int) (c:Cl):Cl:=⟨rnm φ c.head,rnm φ c.body,c.file⟩
def neat(c:Cl):Cl:=neatBy (freshBy 0 (varsOf (clauseTerm c))) c
theorem clauseTerm_ok(c:Cl) (hw:wCl c):WT (clauseTerm c)∧nT (clauseTerm c)≤2^32:=by
 refine ⟨WT_mk ⟨by decide,by decide⟩ (by decide) ⟨by decide,by decide⟩ (by show 2≤Lm;decide) ?_, ?_⟩
 ·intro u hu
  simp only [List.mem_cons,List.not_mem_nil,or_false]at hu
  rcases hu with rfl|rfl
  ·exact hw.1.1
  ·exact hw.2.1.1
 ·have h1:=hw.1.2
  have h2:=hw.2.1.2
  unfold Lm at h1 h2
  simp only [clauseTerm,nT,nTs]
  omega
end Go.Vm
set_option autoImplicit false
set_option maxRecDepth 100000
set_option linter.unusedSimpArgs false
set_option linter.unusedVariables false
namespace Go.Vm
theorem l03Two_ok(s:Str) (a b:Tm) (va vb:List V) (ha:RL BT a.kids va) (hb:RL BT b.kids vb) (na:noTagL va=true) (nb:noTagL vb=true):
 cr progA F.spec_l03Two [S s,.a [I a.kind,S a.name,I a.num,.i false va],.a [I b.kind,S b.name,I b.num,.i false vb]]=
  some (.a [I 4,S s,I 0,.o 4 [.a [I a.kind,S a.name,I a.num,.i false va],.a [I b.kind,S b.name,I b.num,.i false vb]]]):=by
 rw [cr_fn pA_spec_l03Two rfl]
 simp only [go_sem,Nat.reduceAdd,Nat.reduceSub,Nat.reduceMul,Nat.reduceEqDiff,Nat.reduceLeDiff,Nat.reduceBEq,reduceCtorEq,A.spec_l03Two,na,nb]
end Go.Vm
set_option autoImplicit false
set_option maxRecDepth 100000
set_option linter.unusedSimpArgs false
set_option linter.unusedVariables false
namespace Go.Vm
end Go.Vm
set_option autoImplicit false
set_option maxRecDepth 100000
set_option linter.unusedSimpArgs false
set_option linter.unusedVariables false
namespace Go.Vm
theorem l01In_ok(x lo hi:Int):cr progA F.spec_l01In [I x,I lo,I hi]=some (B (decide (lo≤x∧x≤hi))):=by
 rw [cr_fn pA_spec_l01In rfl]
 by_cases h1:lo≤x<;>by_cases h2:x≤hi<;>simp only [go_sem,Nat.reduceAdd,Nat.reduceSub,Nat.reduceMul,Nat.reduceEqDiff,Nat.reduceLeDiff,Nat.reduceBEq,reduceCtorEq,A.spec_l01In,h1,h2]
theorem within_ok(x lo hi:Int):cr progA F.impl_within [I x,I lo,I hi]=some (B (decide (lo≤x∧x≤hi))):=by
 rw [cr_fn pA_impl_within rfl]
 by_cases h1:lo≤x<;>by_cases h2:x≤hi<;>simp only [go_sem,Nat.reduceAdd,Nat.reduceSub,Nat.reduceMul,Nat.reduceEqDiff,Nat.reduceLeDiff,Nat.reduceBEq,reduceCtorEq,A.impl_within,h1,h2]
def okByte(c:UInt8):Bool:=decide (33≤c.toNat∧c.toNat≤126∧c.toNat ≠ 39∧c.toNat ≠ 34)
def okBytes(s:Str):Bool:=s.all okByte
def nameOk(s:Str):Bool:=okBytes s&&decide (1≤s.length∧s.length≤20)
theorem okByte_cases(c:UInt8):(okByte c=true∧ ¬ (c.toNat:Int) < 33∧ ¬ (126:Int) < c.toNat∧decide ((c.toNat:Int)=39)=false∧decide ((c.toNat:Int)=34)=false)∨(okByte c=false∧((c.toNat:Int) < 33∨ ¬ (c.toNat:Int) < 33∧((126:Int) < c.toNat∨ ¬ (126:Int) < c.toNat∧(decide ((c.toNat:Int)=39)=true∨decide ((c.toNat:Int)=39)=false∧decide ((c.toNat:Int)=34)=true)))):=by
 unfold okByte
 by_cases h:33≤c.toNat∧c.toNat≤126∧c.toNat ≠ 39∧c.toNat ≠ 34
 ·left;exact ⟨decide_eq_true h,by omega,by omega,decide_eq_false (by omega),decide_eq_false (by omega)⟩
 ·right;refine ⟨decide_eq_false h, ?_⟩
  simp only [decide_eq_true_eq,decide_eq_false_iff_not]
  omega
theorem ok39 {c:UInt8} (h:decide ((c.toNat:Int)=39)=true):(c.toNat:Int)=39:=of_decide_eq_true h
theorem l03Name_loop(s:Str) (hl:s.length≤2^61):
 lw progA L.spec_l03Name_0 ⟨[(0,S s),(3,I 0)],[]⟩=if okBytes s=true then some (.exit 0,⟨[(0,S s)],[]⟩)else some (.ret,⟨[(2,B false)],[]⟩):=by
 refine for_ind s (fun i r=>lw progA L.spec_l03Name_0 ⟨[(0,S s),(3,I i)],[]⟩=if okBytes r=true then some (.exit 0,⟨[(0,S s)],[]⟩)else some (.ret,⟨[(2,B false)],[]⟩)) (by omega) ?_ ?_
 ·rw [lw_eq]
  simp only [go_sem,Nat.reduceAdd,Nat.reduceSub,Nat.reduceMul,Nat.reduceEqDiff,Nat.reduceLeDiff,Nat.reduceBEq,reduceCtorEq,LB.spec_l03Name_0,okBytes,List.all_nil]
 ·intro i c r ht hi hlt e1 hir hm hr ih
  have ix:=ix_S (l:=s) (i:=(i:Int)) (c:=c) (by omega) (by simpa using ht)
  rw [lw_eq]
  unfold okBytes at ih ⊢
  rcases okByte_cases c with ⟨h0,h1,h2,h3,h4⟩|⟨h0,h1|⟨h1,h2|⟨h2,h3|⟨h3,h4⟩⟩⟩⟩
  ·rw [List.all_cons,h0,Bool.true_and, ← ih]
   simp only [go_sem,Nat.reduceAdd,Nat.reduceSub,Nat.reduceMul,Nat.reduceEqDiff,Nat.reduceLeDiff,Nat.reduceBEq,reduceCtorEq,LB.spec_l03Name_0,hlt,ix,e1,h1,h2,h3,h4]
  ·simp only [go_sem,Nat.reduceAdd,Nat.reduceSub,Nat.reduceMul,Nat.reduceEqDiff,Nat.reduceLeDiff,Nat.reduceBEq,reduceCtorEq,LB.spec_l03Name_0,hlt,ix,e1,h1,List.all_cons,h0]
  ·simp only [go_sem,Nat.reduceAdd,Nat.reduceSub,Nat.reduceMul,Nat.reduceEqDiff,Nat.reduceLeDiff,Nat.reduceBEq,reduceCtorEq,LB.spec_l03Name_0,hlt,ix,e1,h1,h2,List.all_cons,h0]
  ·simp only [go_sem,Nat.reduceAdd,Nat.reduceSub,Nat.reduceMul,Nat.reduceEqDiff,Nat.reduceLeDiff,Nat.reduceBEq,reduceCtorEq,LB.spec_l03Name_0,hlt,ix,e1,h1,h2,h3,List.all_cons,h0]
  ·simp only [go_sem,Nat.reduceAdd,Nat.reduceSub,Nat.reduceMul,Nat.reduceEqDiff,Nat.reduceLeDiff,Nat.reduceBEq,reduceCtorEq,LB.spec_l03Name_0,hlt,ix,e1,h1,h2,h3,h4,List.all_cons,h0]
theorem l03Name_ok(s:Str) (hl:s.length≤2^61):cr progA F.spec_l03Name [S s]=some (B (nameOk s)):=by
 rw [cr_fn pA_spec_l03Name rfl]
 have h:=l03Name_loop s hl
 have h2:=l01In_ok s.length 1 20
 have h3:decide ((1:Int)≤s.length∧(s.length:Int)≤20)=decide (1≤s.length∧s.length≤20):=decide_eq_decide.2 (by omega)
 rw [h3]at h2
 unfold nameOk
 cases hb:okBytes s with
 |true=>rw [hb,if_pos rfl]at h;simp only [go_sem,Nat.reduceAdd,Nat.reduceSub,Nat.reduceMul,Nat.reduceEqDiff,Nat.reduceLeDiff,Nat.reduceBEq,reduceCtorEq,A.spec_l03Name,h,h2]
 |false=>rw [hb]at h;simp only [go_sem,Nat.reduceAdd,Nat.reduceSub,Nat.reduceMul,Nat.reduceEqDiff,Nat.reduceLeDiff,Nat.reduceBEq,reduceCtorEq,A.spec_l03Name,h]
theorem impl_nameOk_loop(s:Str) (hl:s.length≤2^61):
 lw progA L.impl_nameOk_0 ⟨[(0,S s),(3,I 0)],[]⟩=if okBytes s=true then some (.exit 0,⟨[(0,S s)],[]⟩)else some (.ret,⟨[(2,B false)],[]⟩):=by
 refine for_ind s (fun i r=>lw progA L.impl_nameOk_0 ⟨[(0,S s),(3,I i)],[]⟩=if okBytes r=true then some (.exit 0,⟨[(0,S s)],[]⟩)else some (.ret,⟨[(2,B false)],[]⟩)) (by omega) ?_ ?_
 ·rw [lw_eq]
  simp only [go_sem,Nat.reduceAdd,Nat.reduceSub,Nat.reduceMul,Nat.reduceEqDiff,Nat.reduceLeDiff,Nat.reduceBEq,reduceCtorEq,LB.impl_nameOk_0,okBytes,List.all_nil]
 ·intro i c r ht hi hlt e1 hir hm hr ih
  have ix:=ix_S (l:=s) (i:=(i:Int)) (c:=c) (by omega) (by simpa using ht)
  have hc:=UInt8.toNat_lt c
  have hw:w64 (c.toNat:Int)=c.toNat:=by rw [w64_id]<;>omega
  have hin:=within_ok c.toNat 33 126
  rw [lw_eq]
  unfold okBytes at ih ⊢
  rcases okByte_cases c with ⟨h0,h1,h2,h3,h4⟩|⟨h0,h1|⟨h1,h2|⟨h2,h3|⟨h3,h4⟩⟩⟩⟩
  ·rw [decide_eq_true (show (33:Int)≤c.toNat∧(c.toNat:Int)≤126 by first|omega|(simp only [decide_eq_true_eq,decide_eq_false_iff_not]at*;omega))]at hin
   rw [List.all_cons,h0,Bool.true_and, ← ih]
   simp only [go_sem,Nat.reduceAdd,Nat.reduceSub,Nat.reduceMul,Nat.reduceEqDiff,Nat.reduceLeDiff,Nat.reduceBEq,reduceCtorEq,LB.impl_nameOk_0,hlt,ix,e1,hw,hin,h1,h2,h3,h4]
  ·rw [decide_eq_false (show ¬ ((33:Int)≤c.toNat∧(c.toNat:Int)≤126)by omega)]at hin
   simp only [go_sem,Nat.reduceAdd,Nat.reduceSub,Nat.reduceMul,Nat.reduceEqDiff,Nat.reduceLeDiff,Nat.reduceBEq,reduceCtorEq,LB.impl_nameOk_0,hlt,ix,e1,hw,hin,List.all_cons,h0]
  ·rw [decide_eq_false (show ¬ ((33:Int)≤c.toNat∧(c.toNat:Int)≤126)by omega)]at hin
   simp only [go_sem,Nat.reduceAdd,Nat.reduceSub,Nat.reduceMul,Nat.reduceEqDiff,Nat.reduceLeDiff,Nat.reduceBEq,reduceCtorEq,LB.impl_nameOk_0,hlt,ix,e1,hw,hin,List.all_cons,h0]
  ·rw [decide_eq_true (show (33:Int)≤c.toNat∧(c.toNat:Int)≤126 by first|omega|(simp only [decide_eq_true_eq,decide_eq_false_iff_not]at*;omega))]at hin
   simp only [go_sem,Nat.reduceAdd,Nat.reduceSub,Nat.reduceMul,Nat.reduceEqDiff,Nat.reduceLeDiff,Nat.reduceBEq,reduceCtorEq,LB.impl_nameOk_0,hlt,ix,e1,hw,hin,h3,List.all_cons,h0]
  ·rw [decide_eq_true (show (33:Int)≤c.toNat∧(c.toNat:Int)≤126 by first|omega|(simp only [decide_eq_true_eq,decide_eq_false_iff_not]at*;omega))]at hin
   simp only [go_sem,Nat.reduceAdd,Nat.reduceSub,Nat.reduceMul,Nat.reduceEqDiff,Nat.reduceLeDiff,Nat.reduceBEq,reduceCtorEq,LB.impl_nameOk_0,hlt,ix,e1,hw,hin,h3,h4,List.all_cons,h0]
theorem impl_nameOk_ok(s:Str) (hl:s.length≤2^61):cr progA F.impl_nameOk [S s]=some (B (nameOk s)):=by
 rw [cr_fn pA_impl_nameOk rfl]
 have h:=impl_nameOk_loop s hl
 have h2:=within_ok s.length 1 20
 have h3:decide ((1:Int)≤s.length∧(s.length:Int)≤20)=decide (1≤s.length∧s.length≤20):=decide_eq_decide.2 (by omega)
 rw [h3]at h2
 unfold nameOk
 cases hb:okBytes s with
 |true=>rw [hb,if_pos rfl]at h;simp only [go_sem,Nat.reduceAdd,Nat.reduceSub,Nat.reduceMul,Nat.reduceEqDiff,Nat.reduceLeDiff,Nat.reduceBEq,reduceCtorEq,A.impl_nameOk,h,h2]
 |false=>rw [hb]at h;simp only [go_sem,Nat.reduceAdd,Nat.reduceSub,Nat.reduceMul,Nat.reduceEqDiff,Nat.reduceLeDiff,Nat.reduceBEq,reduceCtorEq,A.impl_nameOk,h]
end Go.Vm
set_option autoImplicit false
set_option maxRecDepth 100000
set_option linter.unusedSimpArgs false
set_option linter.unusedVariables false
namespace Go.Vm
def okOne(t:Tm):Bool:=
 if t.kind=1 then decide (0≤t.num∧t.num≤99999)&&(decide (t.name=[])&&decide ((t.kids.length:Int)=0))
 else if t.kind=2 then nameOk t.name&&(decide (t.num=0)&&decide ((t.kids.length:Int)=0))
 else if t.kind=3 then decide (-999999999≤t.num∧t.num≤999999999)&&(decide (t.name=[])&&decide ((t.kids.length:Int)=0))
 else if t.kind=4 then nameOk t.name&&(decide (t.num=0)&&decide (1≤(t.kids.length:Int)∧(t.kids.length:Int)≤5))
 else false
mutual
def rightT:Int→Tm→Bool
 |d,.mk k s n ks=>decide (d≤40)&&(okOne (.mk k s n ks)&&rightTs (d+1) ks)
def rightTs:Int→List Tm→Bool
 |_,[]=>true
 |d,t::ts=>rightT d t&&rightTs d ts
end
def termOk(t:Tm):Bool:=decide (nT t≤400)&&rightT 1 t
theorem l03One_ok(t:Tm) (hn:t.name.length≤2^61) (v:V) (hb:BT t v):cr progA F.spec_l03One [v]=some (B (okOne t)):=by
 obtain ⟨τ,vs,rfl,hv⟩:=BT_shape hb
 have hl:=RL_length hv
 rw [cr_fn pA_spec_l03One rfl]
 have i1:=l01In_ok t.num 0 99999
 have i2:=l01In_ok t.num (-999999999) 999999999
 have i3:=l01In_ok t.kids.length 1 5
 have nm:=l03Name_ok t.name hn
 unfold okOne
 by_cases k1:t.kind=1
 ·have d1:decide (t.kind=1)=true:=decide_eq_true k1
  rw [if_pos k1]
  cases c1:decide (0≤t.num∧t.num≤99999)with
  |false=>rw [c1]at i1;simp only [go_sem,Nat.reduceAdd,Nat.reduceSub,Nat.reduceMul,Nat.reduceEqDiff,Nat.reduceLeDiff,Nat.reduceBEq,reduceCtorEq,A.spec_l03One,d1,i1]
  |true=>
   rw [c1]at i1
   cases c2:decide (t.name=[])with
   |false=>simp only [go_sem,Nat.reduceAdd,Nat.reduceSub,Nat.reduceMul,Nat.reduceEqDiff,Nat.reduceLeDiff,Nat.reduceBEq,reduceCtorEq,A.spec_l03One,d1,i1,c2]
   |true=>simp only [go_sem,Nat.reduceAdd,Nat.reduceSub,Nat.reduceMul,Nat.reduceEqDiff,Nat.reduceLeDiff,Nat.reduceBEq,reduceCtorEq,A.spec_l03One,d1,i1,c2,hl]
 rw [if_neg k1]
 have d1:decide (t.kind=1)=false:=decide_eq_false k1
 by_cases k2:t.kind=2
 ·have d2:decide (t.kind=2)=true:=decide_eq_true k2
  rw [if_pos k2]
  cases c1:nameOk t.name with
  |false=>rw [c1]at nm;simp only [go_sem,Nat.reduceAdd,Nat.reduceSub,Nat.reduceMul,Nat.reduceEqDiff,Nat.reduceLeDiff,Nat.reduceBEq,reduceCtorEq,A.spec_l03One,d1,d2,nm]
  |true=>
   rw [c1]at nm
   cases c2:decide (t.num=0)with
   |false=>simp only [go_sem,Nat.reduceAdd,Nat.reduceSub,Nat.reduceMul,Nat.reduceEqDiff,Nat.reduceLeDiff,Nat.reduceBEq,reduceCtorEq,A.spec_l03One,d1,d2,nm,c2]
   |true=>simp only [go_sem,Nat.reduceAdd,Nat.reduceSub,Nat.reduceMul,Nat.reduceEqDiff,Nat.reduceLeDiff,Nat.reduceBEq,reduceCtorEq,A.spec_l03One,d1,d2,nm,c2,hl]
 rw [if_neg k2]
 have d2:decide (t.kind=2)=false:=decide_eq_false k2
 by_cases k3:t.kind=3
 ·have d3:decide (t.kind=3)=true:=decide_eq_true k3
  rw [if_pos k3]
  cases c1:decide (-999999999≤t.num∧t.num≤999999999)with
  |false=>rw [c1]at i2;simp only [go_sem,Nat.reduceAdd,Nat.reduceSub,Nat.reduceMul,Nat.reduceEqDiff,Nat.reduceLeDiff,Nat.reduceBEq,reduceCtorEq,A.spec_l03One,d1,d2,d3,i2]
  |true=>
   rw [c1]at i2
   cases c2:decide (t.name=[])with
   |false=>simp only [go_sem,Nat.reduceAdd,Nat.reduceSub,Nat.reduceMul,Nat.reduceEqDiff,Nat.reduceLeDiff,Nat.reduceBEq,reduceCtorEq,A.spec_l03One,d1,d2,d3,i2,c2]
   |true=>simp only [go_sem,Nat.reduceAdd,Nat.reduceSub,Nat.reduceMul,Nat.reduceEqDiff,Nat.reduceLeDiff,Nat.reduceBEq,reduceCtorEq,A.spec_l03One,d1,d2,d3,i2,c2,hl]
 rw [if_neg k3]
 have d3:decide (t.kind=3)=false:=decide_eq_false k3
 by_cases k4:t.kind=4
 ·have d4:decide (t.kind=4)=true:=decide_eq_true k4
  rw [if_pos k4]
  cases c1:nameOk t.name with
  |false=>rw [c1]at nm;simp only [go_sem,Nat.reduceAdd,Nat.reduceSub,Nat.reduceMul,Nat.reduceEqDiff,Nat.reduceLeDiff,Nat.reduceBEq,reduceCtorEq,A.spec_l03One,d1,d2,d3,d4,nm]
  |true=>
   rw [c1]at nm
   cases c2:decide (t.num=0)with
   |false=>simp only [go_sem,Nat.reduceAdd,Nat.reduceSub,Nat.reduceMul,Nat.reduceEqDiff,Nat.reduceLeDiff,Nat.reduceBEq,reduceCtorEq,A.spec_l03One,d1,d2,d3,d4,nm,c2]
   |true=>simp only [go_sem,Nat.reduceAdd,Nat.reduceSub,Nat.reduceMul,Nat.reduceEqDiff,Nat.reduceLeDiff,Nat.reduceBEq,reduceCtorEq,A.spec_l03One,d1,d2,d3,d4,nm,c2,hl,i3]
 rw [if_neg k4]
 have d4:decide (t.kind=4)=false:=decide_eq_false k4
 simp only [go_sem,Nat.reduceAdd,Nat.reduceSub,Nat.reduceMul,Nat.reduceEqDiff,Nat.reduceLeDiff,Nat.reduceBEq,reduceCtorEq,A.spec_l03One,d1,d2,d3,d4]
mutual
def cntT:Tm→Int→Int
 | .mk _ _ _ ks,r=>cntTs ks (r - 1)
def cntTs:List Tm→Int→Int
 |[],r=>r
 |t::ts,r=>if 0≤r then cntTs ts (cntT t r)else r
end
mutual
theorem cntT_eq: ∀ (t:Tm) (r:Int),0≤r→(nT t≤r→cntT t r=r - nT t)∧(¬ (nT t:Int)≤r→cntT t r < 0∧ -1≤cntT t r)
 | .mk k s n ks,r,h=>by
   have:=cntTs_eq ks (r - 1) (by omega)
   simp only [cntT,nT]
   refine ⟨fun h1=> ?_,fun h1=> ?_⟩
   ·rw [this.1 (by omega)];omega
   ·exact this.2 (by omega)
theorem cntTs_eq: ∀ (ts:List Tm) (r:Int),-1≤r→(nTs ts≤r→cntTs ts r=r - nTs ts)∧(¬ (nTs ts:Int)≤r→cntTs ts r < 0∧ -1≤cntTs ts r)
 |[],r,h=>by simp only [cntTs,nTs];omega
 |t::ts,r,h=>by
  simp only [cntTs,nTs]
  by_cases h0:0≤r
  ·rw [if_pos h0]
   have h1:=cntT_eq t r h0
   have hp:=nT_pos t
   by_cases h2:(nT t:Int)≤r
   ·rw [h1.1 h2]
    have h3:=cntTs_eq ts (r - nT t) (by omega)
    refine ⟨fun h4=> ?_,fun h4=> ?_⟩
    ·rw [h3.1 (by omega)];omega
    ·exact h3.2 (by omega)
   ·have h3:=h1.2 h2
    have h4:=cntTs_eq ts (cntT t r) h3.2
    refine ⟨fun h5=>by omega,fun h5=> ?_⟩
    exact h4.2 (by omega)
  ·rw [if_neg h0]
   have:=nT_pos t
   omega
end
theorem cntT_bd(t:Tm) (r:Int) (h:0≤r): -1≤cntT t r∧cntT t r≤r:=by
 have h1:=cntT_eq t r h
 have:=nT_pos t
 by_cases h2:(nT t:Int)≤r
 ·rw [h1.1 h2];omega
 ·have:=h1.2 h2;omega
theorem l03Count_loop(t:Tm) (τ:Bool) (vs:List V) (hv:RL BT t.kids vs) (hlim:t.kids.length≤Lm)
 (hc: ∀ u ∈ t.kids,∀ v r,BT u v→0≤r→r≤2^40→cr progA F.spec_l03Count [v,I r]=some (I (cntT u r))): ∀ r:Int,-1≤r→r≤2^40→
 lw progA L.spec_l03Count_0 ⟨[(1,I r),(2,.p (100000,0) 0 0),(5,I 0)],[((100000,0),4,[.a [I t.kind,S t.name,I t.num,.i τ vs]])]⟩=some (.exit 0,⟨[(1,I (cntTs t.kids r))],[((100000,0),4,[.a [I t.kind,S t.name,I t.num,.i τ vs]])]⟩):=by
 unfold Lm at hlim
 have hn:=RL_length hv
 refine for_ind t.kids (fun i ks=> ∀ r:Int,-1≤r→r≤2^40→lw progA L.spec_l03Count_0 ⟨[(1,I r),(2,.p (100000,0) 0 0),(5,I i)],[((100000,0),4,[.a [I t.kind,S t.name,I t.num,.i τ vs]])]⟩=some (.exit 0,⟨[(1,I (cntTs ks r))],[((100000,0),4,[.a [I t.kind,S t.name,I t.num,.i τ vs]])]⟩)) (by omega) ?_ ?_
 ·intro r h1 h2
  rw [lw_eq]
  simp only [go_sem,Nat.reduceAdd,Nat.reduceSub,Nat.reduceMul,Nat.reduceEqDiff,Nat.reduceLeDiff,Nat.reduceBEq,reduceCtorEq,LB.spec_l03Count_0,hn,cntTs]
 ·intro i u ks ht hi hlt e1 hir hm hr ih r h1 h2
  obtain ⟨v,gv,hbt⟩:=RL_get hv ht
  have a1:=fun T=>addr_i (τ:=τ) (T:=T) gv (BT_cells hbt)
  rw [lw_eq,cntTs]
  by_cases h0:0≤r
  ·have hcc:=hc u hm v r hbt h0 h2
   have hb:=cntT_bd u r h0
   have i1:=ih (cntT u r) hb.1 (by omega)
   obtain ⟨σ1,ws,rfl,-⟩:=BT_shape hbt
   simp only [go_sem,Nat.reduceAdd,Nat.reduceSub,Nat.reduceMul,Nat.reduceEqDiff,Nat.reduceLeDiff,Nat.reduceBEq,reduceCtorEq,LB.spec_l03Count_0,hn,hlt,h0,a1,gv,hcc,e1]
   exact i1
  ·simp only [go_sem,Nat.reduceAdd,Nat.reduceSub,Nat.reduceMul,Nat.reduceEqDiff,Nat.reduceLeDiff,Nat.reduceBEq,reduceCtorEq,LB.spec_l03Count_0,hn,hlt,h0]
theorem l03Count_ok: ∀ (t:Tm),WT t→ ∀ v r,BT t v→0≤r→r≤2^40→cr progA F.spec_l03Count [v,I r]=some (I (cntT t r)):=by
 refine Tm.ind ?_
 intro k s n ks ih hw v r hb h0 h1
 obtain ⟨τ,vs,rfl,hv⟩:=BT_shape hb
 have e1:w64 (r - 1)=r - 1:=by rw [w64_id]<;>omega
 have h:=l03Count_loop (.mk k s n ks) τ vs hv (WT_len hw) (fun u hu=>ih u hu (WT_kids hw u hu)) (r - 1) (by omega) (by omega)
 simp only [Tm.kind_mk,Tm.name_mk,Tm.num_mk,Tm.kids_mk]at h
 rw [cr_fn pA_spec_l03Count rfl,cntT]
 simp only [go_sem,Nat.reduceAdd,Nat.reduceSub,Nat.reduceMul,Nat.reduceEqDiff,Nat.reduceLeDiff,Nat.reduceBEq,reduceCtorEq,A.spec_l03Count,e1,h]
theorem l03Right_loop(t:Tm) (τ:Bool) (vs:List V) (hv:RL BT t.kids vs) (hlim:t.kids.length≤Lm) (d:Int) (hd0:0≤d) (hd:d≤40)
 (hc: ∀ u ∈ t.kids,∀ v,BT u v→cr progA F.spec_l03Right [v,I (d+1)]=some (B (rightT (d+1) u))):
 lw progA L.spec_l03Right_0 ⟨[(1,I d),(2,.p (100000,0) 0 0),(5,I 0)],[((100000,0),4,[.a [I t.kind,S t.name,I t.num,.i τ vs]])]⟩=if rightTs (d+1) t.kids=true then some (.exit 0,⟨[],[((100000,0),4,[.a [I t.kind,S t.name,I t.num,.i τ vs]])]⟩)else some (.ret,⟨[(4,B false)],[((100000,0),4,[.a [I t.kind,S t.name,I t.num,.i τ vs]])]⟩):=by
 unfold Lm at hlim
 have hn:=RL_length hv
 refine for_ind t.kids (fun i ks=>lw progA L.spec_l03Right_0 ⟨[(1,I d),(2,.p (100000,0) 0 0),(5,I i)],[((100000,0),4,[.a [I t.kind,S t.name,I t.num,.i τ vs]])]⟩=if rightTs (d+1) ks=true then some (.exit 0,⟨[],[((100000,0),4,[.a [I t.kind,S t.name,I t.num,.i τ vs]])]⟩)else some (.ret,⟨[(4,B false)],[((100000,0),4,[.a [I t.kind,S t.name,I t.num,.i τ vs]])]⟩)) (by omega) ?_ ?_
 ·rw [lw_eq]
  simp only [go_sem,Nat.reduceAdd,Nat.reduceSub,Nat.reduceMul,Nat.reduceEqDiff,Nat.reduceLeDiff,Nat.reduceBEq,reduceCtorEq,LB.spec_l03Right_0,hn,rightTs]
 ·intro i u ks ht hi hlt e1 hir hm hr ih
  obtain ⟨v,gv,hbt⟩:=RL_get hv ht
  have a1:=fun T=>addr_i (τ:=τ) (T:=T) gv (BT_cells hbt)
  have hcc:=hc u hm v hbt
  have e2:w64 (d+1)=d+1:=by rw [w64_id]<;>omega
  obtain ⟨σ1,ws,rfl,-⟩:=BT_shape hbt
  rw [lw_eq,rightTs]
  cases hr:rightT (d+1) u with
  |true=>
   rw [hr]at hcc
   rw [Bool.true_and, ← ih]
   simp only [go_sem,Nat.reduceAdd,Nat.reduceSub,Nat.reduceMul,Nat.reduceEqDiff,Nat.reduceLeDiff,Nat.reduceBEq,reduceCtorEq,LB.spec_l03Right_0,hn,hlt,a1,gv,hcc,e1,e2]
  |false=>
   rw [hr]at hcc
   simp only [go_sem,Nat.reduceAdd,Nat.reduceSub,Nat.reduceMul,Nat.reduceEqDiff,Nat.reduceLeDiff,Nat.reduceBEq,reduceCtorEq,LB.spec_l03Right_0,hn,hlt,a1,gv,hcc,e1,e2]
theorem l03Right_ok: ∀ (t:Tm),WT t→ ∀ (d:Int) v,0≤d→d≤41→BT t v→cr progA F.spec_l03Right [v,I d]=some (B (rightT d t)):=by
 refine Tm.ind ?_
 intro k s n ks ih hw d v h0 h1 hb
 have ho:=l03One_ok (.mk k s n ks) (by have:=WT_name hw;unfold Lm at this;omega) v hb
 obtain ⟨τ,vs,rfl,hv⟩:=BT_shape hb
 simp only [Tm.kind_mk,Tm.name_mk,Tm.num_mk,Tm.kids_mk]at ho
 rw [cr_fn pA_spec_l03Right rfl,rightT]
 by_cases hd:40 < d
 ·have:decide (d≤40)=false:=decide_eq_false (by omega)
  simp only [go_sem,Nat.reduceAdd,Nat.reduceSub,Nat.reduceMul,Nat.reduceEqDiff,Nat.reduceLeDiff,Nat.reduceBEq,reduceCtorEq,A.spec_l03Right,hd,this]
 ·have hdt:decide (d≤40)=true:=decide_eq_true (by omega)
  cases h2:okOne (.mk k s n ks)with
  |false=>
   rw [h2]at ho
   simp only [go_sem,Nat.reduceAdd,Nat.reduceSub,Nat.reduceMul,Nat.reduceEqDiff,Nat.reduceLeDiff,Nat.reduceBEq,reduceCtorEq,A.spec_l03Right,hd,hdt,ho]
  |true=>
   rw [h2]at ho
   have h:=l03Right_loop (.mk k s n ks) τ vs hv (WT_len hw) d h0 (by omega) (fun u hu v hb=>ih u hu (WT_kids hw u hu) (d+1) v (by omega) (by omega) hb)
   simp only [Tm.kind_mk,Tm.name_mk,Tm.num_mk,Tm.kids_mk]at h
   cases h3:rightTs (d+1) ks with
   |true=>rw [h3,if_pos rfl]at h;simp only [go_sem,Nat.reduceAdd,Nat.reduceSub,Nat.reduceMul,Nat.reduceEqDiff,Nat.reduceLeDiff,Nat.reduceBEq,reduceCtorEq,A.spec_l03Right,hd,hdt,ho,h]
   |false=>rw [h3]at h;simp only [go_sem,Nat.reduceAdd,Nat.reduceSub,Nat.reduceMul,Nat.reduceEqDiff,Nat.reduceLeDiff,Nat.reduceBEq,reduceCtorEq,A.spec_l03Right,hd,hdt,ho,h]
theorem spec_TermOk_ok(t:Tm) (hw:WT t) (v:V) (hb:BT t v):cr progA F.spec_TermOk [v]=some (B (termOk t)):=by
 have h1:=l03Count_ok t hw v 400 hb (by decide) (by decide)
 have h2:=l03Right_ok t hw 1 v (by decide) (by decide) hb
 have hc:=cntT_eq t 400 (by decide)
 obtain ⟨τ,vs,rfl,hv⟩:=BT_shape hb
 rw [cr_fn pA_spec_TermOk rfl]
 unfold termOk
 by_cases h:nT t≤400
 ·have h3:0≤cntT t 400:=by rw [hc.1 (by omega)];omega
  have h4:decide (nT t≤400)=true:=decide_eq_true h
  simp only [go_sem,Nat.reduceAdd,Nat.reduceSub,Nat.reduceMul,Nat.reduceEqDiff,Nat.reduceLeDiff,Nat.reduceBEq,reduceCtorEq,A.spec_TermOk,h1,h2,h3,h4]
 ·have h3: ¬ 0≤cntT t 400:=by have:=(hc.2 (by omega)).1;omega
  have h4:decide (nT t≤400)=false:=decide_eq_false h
  simp only [go_sem,Nat.reduceAdd,Nat.reduceSub,Nat.reduceMul,Nat.reduceEqDiff,Nat.reduceLeDiff,Nat.reduceBEq,reduceCtorEq,A.spec_TermOk,h1,h3,h4]
end Go.Vm
set_option autoImplicit false
set_option maxHeartbeats 4000000
set_option maxRecDepth 100000
set_option linter.unusedSimpArgs false
set_option linter.unusedVariables false
namespace Go.Vm
def szI(d:Int) (t:Tm):Int:=if rightT d t=true∧nT t≤400 then nT t else 401
theorem szI_bd(d:Int) (t:Tm):1≤szI d t∧szI d t≤401:=by
 have:=nT_pos t
 unfold szI
 split<;>omega
theorem sized_loop(t:Tm) (τ:Bool) (vs:List V) (hv:RL BT t.kids vs) (hlim:t.kids.length≤Lm) (d:Int) (hd0:0≤d) (hd:d≤40)
 (hc: ∀ u ∈ t.kids,∀ v,BT u v→cr progA F.impl_sized [v,I (d+1)]=some (I (szI (d+1) u))): ∀ n:Int,0≤n→n≤400→
 (rightTs (d+1) t.kids=true∧n+(nTs t.kids:Int)≤400→lw progA L.impl_sized_0 ⟨[(1,I d),(5,I n),(82,.i τ vs),(83,I t.kids.length),(84,I 0)],[]⟩=some (.exit 1,⟨[(5,I (n+(nTs t.kids:Int)))],[]⟩))∧(¬ (rightTs (d+1) t.kids=true∧n+(nTs t.kids:Int)≤400)→ ∃ T,lw progA L.impl_sized_0 ⟨[(1,I d),(5,I n),(82,.i τ vs),(83,I t.kids.length),(84,I 0)],[]⟩=some (.ret,⟨[(4,I 401)],T⟩)):=by
 unfold Lm at hlim
 have hn:=RL_length hv
 refine for_ind t.kids (fun i ks=> ∀ n:Int,0≤n→n≤400→(rightTs (d+1) ks=true∧n+(nTs ks:Int)≤400→lw progA L.impl_sized_0 ⟨[(1,I d),(5,I n),(82,.i τ vs),(83,I t.kids.length),(84,I i)],[]⟩=some (.exit 1,⟨[(5,I (n+(nTs ks:Int)))],[]⟩))∧(¬ (rightTs (d+1) ks=true∧n+(nTs ks:Int)≤400)→ ∃ T,lw progA L.impl_sized_0 ⟨[(1,I d),(5,I n),(82,.i τ vs),(83,I t.kids.length),(84,I i)],[]⟩=some (.ret,⟨[(4,I 401)],T⟩))) (by omega) ?_ ?_
 ·intro n h0 h1
  have e0:n+((nTs []:Nat):Int)=n:=by simp only [nTs];omega
  refine ⟨fun _=> ?_,fun hx=>absurd ⟨rfl,by rw [e0];exact h1⟩ hx⟩
  rw [lw_eq,e0]
  simp only [go_sem,Nat.reduceAdd,Nat.reduceSub,Nat.reduceMul,Nat.reduceEqDiff,Nat.reduceLeDiff,Nat.reduceBEq,reduceCtorEq,LB.impl_sized_0,hn]
 ·intro i u ks ht hi hlt e1 hir hm hr ih n h0 h1
  obtain ⟨v,gv,hbt⟩:=RL_get hv ht
  have a1:=fun T=>addr_i (τ:=τ) (T:=T) gv (BT_cells hbt)
  have hcc:=hc u hm v hbt
  have hb:=szI_bd (d+1) u
  have e2:w64 (d+1)=d+1:=by rw [w64_id]<;>omega
  have e3:w64 (n+szI (d+1) u)=n+szI (d+1) u:=by rw [w64_id]<;>omega
  obtain ⟨σ1,ws,rfl,-⟩:=BT_shape hbt
  have hp:=nT_pos u
  have e4:((nTs (u::ks):Nat):Int)=(nT u:Int)+nTs ks:=by simp only [nTs];omega
  rw [e4]
  by_cases hbad:400 < n+szI (d+1) u
  ·refine ⟨fun hy=> ?_,fun _=>⟨[((7,0),4,[.a [I u.kind,S u.name,I u.num,.i σ1 ws]])], ?_⟩⟩
   ·simp only [rightTs,Bool.and_eq_true]at hy
    unfold szI at hbad
    rw [if_pos ⟨hy.1.1,by omega⟩]at hbad
    omega
   rw [lw_eq]
   simp only [go_sem,Nat.reduceAdd,Nat.reduceSub,Nat.reduceMul,Nat.reduceEqDiff,Nat.reduceLeDiff,Nat.reduceBEq,reduceCtorEq,LB.impl_sized_0,hn,hlt,a1,gv,hcc,e1,e2,e3,hbad]
  ·have hr:rightT (d+1) u=true∧nT u≤400:=by
    apply Classical.byContradiction
    intro hx
    unfold szI at hbad
    rw [if_neg hx]at hbad
    omega
   have hs:szI (d+1) u=nT u:=by unfold szI;rw [if_pos hr]
   rw [hs]at hcc e3 hbad
   have i1:=ih (n+nT u) (by omega) (by omega)
   have e5:n+((nT u:Int)+nTs ks)=n+nT u+nTs ks:=by omega
   have e6:lw progA L.impl_sized_0 ⟨[(1,I d),(5,I n),(82,.i τ vs),(83,I t.kids.length),(84,I i)],[]⟩=lw progA L.impl_sized_0 ⟨[(1,I d),(5,I (n+nT u)),(82,.i τ vs),(83,I t.kids.length),(84,I (↑(i+1)))],[]⟩:=by
    rw [lw_eq]
    simp only [go_sem,Nat.reduceAdd,Nat.reduceSub,Nat.reduceMul,Nat.reduceEqDiff,Nat.reduceLeDiff,Nat.reduceBEq,reduceCtorEq,LB.impl_sized_0,hn,hlt,a1,gv,hcc,e1,e2,e3,hbad]
   rw [rightTs,hr.1,Bool.true_and,e5,e6]
   exact i1
theorem impl_sized_ok: ∀ (t:Tm),WT t→ ∀ (d:Int) v,0≤d→d≤41→BT t v→cr progA F.impl_sized [v,I d]=some (I (szI d t)):=by
 refine Tm.ind ?_
 intro k s n ks ih hw d v h0 h1 hb
 have hnm:=impl_nameOk_ok s (by have:=WT_name hw;unfold Lm at this;exact Nat.le_trans this (by decide))
 have i1:=within_ok n 0 99999
 have i2:=within_ok n (-999999999) 999999999
 have i3:=within_ok ks.length 1 5
 have hlen:=WT_len hw
 unfold Lm at hlen
 simp only [Tm.kids_mk]at hlen
 obtain ⟨τ,vs,rfl,hv⟩:=BT_shape hb
 have hn:=RL_length hv
 simp only [Tm.kids_mk]at hn hv
 rw [cr_fn pA_impl_sized rfl]
 have hbad:okOne (.mk k s n ks)=false∨ ¬ d≤40→szI d (.mk k s n ks)=401:=by
  intro h
  unfold szI
  rw [if_neg]
  simp only [rightT,Bool.and_eq_true,decide_eq_true_eq]
  rcases h with h|h
  ·rw [h];simp
  ·omega
 by_cases hd:40 < d
 ·rw [hbad (.inr (by omega))]
  simp only [go_sem,Nat.reduceAdd,Nat.reduceSub,Nat.reduceMul,Nat.reduceEqDiff,Nat.reduceLeDiff,Nat.reduceBEq,reduceCtorEq,A.impl_sized,hd]
 have h:=sized_loop (.mk k s n ks) τ vs hv (WT_len hw) d h0 (by omega) (fun u hu v hb=>ih u hu (WT_kids hw u hu) (d+1) v (by omega) (by omega) hb) 1 (by decide) (by decide)
 simp only [Tm.kind_mk,Tm.name_mk,Tm.num_mk,Tm.kids_mk]at h
 have hgood:okOne (.mk k s n ks)=true→szI d (.mk k s n ks)=if rightTs (d+1) ks=true∧(1:Int)+(nTs ks:Int)≤400 then 1+(nTs ks:Int)else 401:=by
  intro ho
  unfold szI
  have hdt:decide (d≤40)=true:=decide_eq_true (by omega)
  rw [rightT,ho,hdt,Bool.true_and,Bool.true_and]
  have e:nT (.mk k s n ks)=nTs ks+1:=by simp only [nT]
  by_cases hx:rightTs (d+1) ks=true∧nT (.mk k s n ks)≤400
  ·rw [if_pos (show rightTs (d+1) ks=true∧(1:Int)+(nTs ks:Int)≤400 from ⟨hx.1,by omega⟩),if_pos hx];omega
  ·rw [if_neg (show ¬ (rightTs (d+1) ks=true∧(1:Int)+(nTs ks:Int)≤400)from fun hy=>hx ⟨hy.1,by omega⟩),if_neg hx]
 have hz: ¬ (0:Int) < ks.length→ks.length=0:=by omega
 have p0:(0:Int) < ks.length∨ ¬ (0:Int) < ks.length:=by omega
 unfold okOne at hbad hgood
 simp only [Tm.kind_mk,Tm.name_mk,Tm.num_mk,Tm.kids_mk]at hbad hgood
 by_cases k1:k=1
 ·have d1:decide (k=1)=true:=decide_eq_true k1
  rw [if_pos k1]at hbad hgood
  cases c2:decide (s=[])with
  |false=>rw [hbad (.inl (by rw [c2];simp))];simp only [go_sem,Nat.reduceAdd,Nat.reduceSub,Nat.reduceMul,Nat.reduceEqDiff,Nat.reduceLeDiff,Nat.reduceBEq,reduceCtorEq,A.impl_sized,hd,d1,c2]
  |true=>
  cases c1:decide (0≤n∧n≤99999)with
  |false=>rw [hbad (.inl (by rw [c1];simp))];rw [c1]at i1;simp only [go_sem,Nat.reduceAdd,Nat.reduceSub,Nat.reduceMul,Nat.reduceEqDiff,Nat.reduceLeDiff,Nat.reduceBEq,reduceCtorEq,A.impl_sized,hd,d1,c2,i1]
  |true=>
  rw [c1]at i1
  by_cases c3:(0:Int) < ks.length
  ·rw [hbad (.inl (by rw [decide_eq_false (show ¬ (ks.length:Int)=0 by omega)];simp))];simp only [go_sem,Nat.reduceAdd,Nat.reduceSub,Nat.reduceMul,Nat.reduceEqDiff,Nat.reduceLeDiff,Nat.reduceBEq,reduceCtorEq,A.impl_sized,hd,d1,c2,i1,hn,c3]
  ·rw [hgood (by rw [c1,c2,decide_eq_true (show (ks.length:Int)=0 by omega)];rfl)]
   by_cases hx:rightTs (d+1) ks=true∧(1:Int)+(nTs ks:Int)≤400
   ·have h:=h.1 hx;rw [if_pos hx];simp only [go_sem,Nat.reduceAdd,Nat.reduceSub,Nat.reduceMul,Nat.reduceEqDiff,Nat.reduceLeDiff,Nat.reduceBEq,reduceCtorEq,A.impl_sized,hd,d1,c2,i1,hn,c3,h]
   ·obtain ⟨T,h⟩:=h.2 hx;rw [if_neg hx];simp only [go_sem,Nat.reduceAdd,Nat.reduceSub,Nat.reduceMul,Nat.reduceEqDiff,Nat.reduceLeDiff,Nat.reduceBEq,reduceCtorEq,A.impl_sized,hd,d1,c2,i1,hn,c3,h]
 rw [if_neg k1]at hbad hgood
 have d1:decide (k=1)=false:=decide_eq_false k1
 by_cases k2:k=2
 ·have d2:decide (k=2)=true:=decide_eq_true k2
  rw [if_pos k2]at hbad hgood
  cases c1:nameOk s with
  |false=>rw [hbad (.inl (by rw [c1];simp))];rw [c1]at hnm;simp only [go_sem,Nat.reduceAdd,Nat.reduceSub,Nat.reduceMul,Nat.reduceEqDiff,Nat.reduceLeDiff,Nat.reduceBEq,reduceCtorEq,A.impl_sized,hd,d1,d2,hnm]
  |true=>
  rw [c1]at hnm
  cases c2:decide (n=0)with
  |false=>rw [hbad (.inl (by rw [c2];simp))];simp only [go_sem,Nat.reduceAdd,Nat.reduceSub,Nat.reduceMul,Nat.reduceEqDiff,Nat.reduceLeDiff,Nat.reduceBEq,reduceCtorEq,A.impl_sized,hd,d1,d2,hnm,c2]
  |true=>
  by_cases c3:(0:Int) < ks.length
  ·rw [hbad (.inl (by rw [decide_eq_false (show ¬ (ks.length:Int)=0 by omega)];simp))];simp only [go_sem,Nat.reduceAdd,Nat.reduceSub,Nat.reduceMul,Nat.reduceEqDiff,Nat.reduceLeDiff,Nat.reduceBEq,reduceCtorEq,A.impl_sized,hd,d1,d2,hnm,c2,hn,c3]
  ·rw [hgood (by rw [c1,c2,decide_eq_true (show (ks.length:Int)=0 by omega)];rfl)]
   by_cases hx:rightTs (d+1) ks=true∧(1:Int)+(nTs ks:Int)≤400
   ·have h:=h.1 hx;rw [if_pos hx];simp only [go_sem,Nat.reduceAdd,Nat.reduceSub,Nat.reduceMul,Nat.reduceEqDiff,Nat.reduceLeDiff,Nat.reduceBEq,reduceCtorEq,A.impl_sized,hd,d1,d2,hnm,c2,hn,c3,h]
   ·obtain ⟨T,h⟩:=h.2 hx;rw [if_neg hx];simp only [go_sem,Nat.reduceAdd,Nat.reduceSub,Nat.reduceMul,Nat.reduceEqDiff,Nat.reduceLeDiff,Nat.reduceBEq,reduceCtorEq,A.impl_sized,hd,d1,d2,hnm,c2,hn,c3,h]
 rw [if_neg k2]at hbad hgood
 have d2:decide (k=2)=false:=decide_eq_false k2
 by_cases k3:k=3
 ·have d3:decide (k=3)=true:=decide_eq_true k3
  rw [if_pos k3]at hbad hgood
  cases c2:decide (s=[])with
  |false=>rw [hbad (.inl (by rw [c2];simp))];simp only [go_sem,Nat.reduceAdd,Nat.reduceSub,Nat.reduceMul,Nat.reduceEqDiff,Nat.reduceLeDiff,Nat.reduceBEq,reduceCtorEq,A.impl_sized,hd,d1,d2,d3,c2]
  |true=>
  cases c1:decide (-999999999≤n∧n≤999999999)with
  |false=>rw [hbad (.inl (by rw [c1];simp))];rw [c1]at i2;simp only [go_sem,Nat.reduceAdd,Nat.reduceSub,Nat.reduceMul,Nat.reduceEqDiff,Nat.reduceLeDiff,Nat.reduceBEq,reduceCtorEq,A.impl_sized,hd,d1,d2,d3,c2,i2]
  |true=>
  rw [c1]at i2
  by_cases c3:(0:Int) < ks.length
  ·rw [hbad (.inl (by rw [decide_eq_false (show ¬ (ks.length:Int)=0 by omega)];simp))];simp only [go_sem,Nat.reduceAdd,Nat.reduceSub,Nat.reduceMul,Nat.reduceEqDiff,Nat.reduceLeDiff,Nat.reduceBEq,reduceCtorEq,A.impl_sized,hd,d1,d2,d3,c2,i2,hn,c3]
  ·rw [hgood (by rw [c1,c2,decide_eq_true (show (ks.length:Int)=0 by omega)];rfl)]
   by_cases hx:rightTs (d+1) ks=true∧(1:Int)+(nTs ks:Int)≤400
   ·have h:=h.1 hx;rw [if_pos hx];simp only [go_sem,Nat.reduceAdd,Nat.reduceSub,Nat.reduceMul,Nat.reduceEqDiff,Nat.reduceLeDiff,Nat.reduceBEq,reduceCtorEq,A.impl_sized,hd,d1,d2,d3,c2,i2,hn,c3,h]
   ·obtain ⟨T,h⟩:=h.2 hx;rw [if_neg hx];simp only [go_sem,Nat.reduceAdd,Nat.reduceSub,Nat.reduceMul,Nat.reduceEqDiff,Nat.reduceLeDiff,Nat.reduceBEq,reduceCtorEq,A.impl_sized,hd,d1,d2,d3,c2,i2,hn,c3,h]
 rw [if_neg k3]at hbad hgood
 have d3:decide (k=3)=false:=decide_eq_false k3
 by_cases k4:k=4
 ·have d4:decide (k=4)=true:=decide_eq_true k4
  rw [if_pos k4]at hbad hgood
  cases c1:nameOk s with
  |false=>rw [hbad (.inl (by rw [c1];simp))];rw [c1]at hnm;simp only [go_sem,Nat.reduceAdd,Nat.reduceSub,Nat.reduceMul,Nat.reduceEqDiff,Nat.reduceLeDiff,Nat.reduceBEq,reduceCtorEq,A.impl_sized,hd,d1,d2,d3,d4,hnm]
  |true=>
  rw [c1]at hnm
  cases c2:decide (n=0)with
  |false=>rw [hbad (.inl (by rw [c2];simp))];simp only [go_sem,Nat.reduceAdd,Nat.reduceSub,Nat.reduceMul,Nat.reduceEqDiff,Nat.reduceLeDiff,Nat.reduceBEq,reduceCtorEq,A.impl_sized,hd,d1,d2,d3,d4,hnm,c2]
  |true=>
  cases c3:decide (1≤(ks.length:Int)∧(ks.length:Int)≤5)with
  |false=>rw [hbad (.inl (by rw [c3];simp))];rw [c3]at i3;simp only [go_sem,Nat.reduceAdd,Nat.reduceSub,Nat.reduceMul,Nat.reduceEqDiff,Nat.reduceLeDiff,Nat.reduceBEq,reduceCtorEq,A.impl_sized,hd,d1,d2,d3,d4,hnm,c2,hn,i3]
  |true=>
   rw [c3]at i3
   rw [hgood (by rw [c1,c2,c3];rfl)]
   by_cases hx:rightTs (d+1) ks=true∧(1:Int)+(nTs ks:Int)≤400
   ·have h:=h.1 hx;rw [if_pos hx];simp only [go_sem,Nat.reduceAdd,Nat.reduceSub,Nat.reduceMul,Nat.reduceEqDiff,Nat.reduceLeDiff,Nat.reduceBEq,reduceCtorEq,A.impl_sized,hd,d1,d2,d3,d4,hnm,c2,hn,i3,h]
   ·obtain ⟨T,h⟩:=h.2 hx;rw [if_neg hx];simp only [go_sem,Nat.reduceAdd,Nat.reduceSub,Nat.reduceMul,Nat.reduceEqDiff,Nat.reduceLeDiff,Nat.reduceBEq,reduceCtorEq,A.impl_sized,hd,d1,d2,d3,d4,hnm,c2,hn,i3,h]
 rw [if_neg k4]at hbad
 have d4:decide (k=4)=false:=decide_eq_false k4
 rw [hbad (.inl rfl)]
 simp only [go_sem,Nat.reduceAdd,Nat.reduceSub,Nat.reduceMul,Nat.reduceEqDiff,Nat.reduceLeDiff,Nat.reduceBEq,reduceCtorEq,A.impl_sized,hd,d1,d2,d3,d4]
theorem impl_TermOk_ok(t:Tm) (hw:WT t) (v:V) (hb:BT t v):cr progA F.impl_TermOk [v]=some (B (termOk t)):=by
 have h1:=impl_sized_ok t hw 1 v (by decide) (by decide) hb
 have hbd:=szI_bd 1 t
 obtain ⟨τ,vs,rfl,hv⟩:=BT_shape hb
 rw [cr_fn pA_impl_TermOk rfl]
 by_cases h:rightT 1 t=true∧nT t≤400
 ·have h2:szI 1 t≤400:=by unfold szI;rw [if_pos h];omega
  have h3:termOk t=true:=by unfold termOk;rw [h.1,decide_eq_true h.2];rfl
  rw [h3]
  simp only [go_sem,Nat.reduceAdd,Nat.reduceSub,Nat.reduceMul,Nat.reduceEqDiff,Nat.reduceLeDiff,Nat.reduceBEq,reduceCtorEq,A.impl_TermOk,h1,h2]
 ·have h2: ¬ szI 1 t≤400:=by unfold szI;rw [if_neg h];omega
  have h3:termOk t=false:=by
   unfold termOk
   cases e1:rightT 1 t with
   |false=>rw [Bool.and_false]
   |true=>rw [decide_eq_false (fun hx=>h ⟨e1,hx⟩)];rfl
  rw [h3]
  simp only [go_sem,Nat.reduceAdd,Nat.reduceSub,Nat.reduceMul,Nat.reduceEqDiff,Nat.reduceLeDiff,Nat.reduceBEq,reduceCtorEq,A.impl_TermOk,h1,h2]
end Go.Vm
set_option autoImplicit false
set_option maxRecDepth 100000
set_option linter.unusedSimpArgs false
set_option linter.unusedVariables false
namespace Go.Vm
open Go.Lib (itoa decDigits)
def digs(m:Nat):Str:=if m=0 then []else decDigits m
theorem digs_step {m:Nat} (h:m ≠ 0):digs m=digs (m / 10)++[UInt8.ofNat (48+m % 10)]:=by
 unfold digs
 rw [if_neg h,decDigits]
 by_cases h1:m < 10
 ·rw [dif_pos h1,if_pos (by omega),Nat.mod_eq_of_lt h1];rfl
 ·rw [dif_neg h1,if_neg (by omega)]
theorem digs_pos {m:Nat} (h:m ≠ 0):digs m=decDigits m:=if_neg h
end Go.Vm
set_option autoImplicit false
set_option maxHeartbeats 4000000
set_option maxRecDepth 100000
set_option linter.unusedSimpArgs false
set_option linter.unusedVariables false
namespace Go.Vm
open Go.Lib (itoa decDigits)
@[go_sem] theorem loadE_I' {n:Nat} {a:Int}:loadE false n (I a) 0=some (I a):=(rfl)
@[go_sem] theorem loadE_S' {n:Nat} {x:Str}:loadE false n (S x) 0=some (S x):=(rfl)
@[go_sem] theorem loadE_U8' {n:Nat} {a:Int}:loadE false n (U8 a) 0=some (U8 a):=(rfl)
def idxS(n:Str):Nat→List Str→Int
 |_,[]=> -1
 |i,x::xs=>if n=x then (i:Int)else idxS n (i+1) xs
theorem idxS_ge(n:Str): ∀ (l:List Str) (i:Nat),(n ∈ l→(i:Int)≤idxS n i l∧idxS n i l < i+l.length)∧(n ∉ l→idxS n i l= -1)
 |[],i=>⟨fun h=>(by cases h),fun _=>rfl⟩
 |x::xs,i=>by
  obtain ⟨h1,h2⟩:=idxS_ge n xs (i+1)
  by_cases h:n=x
  ·subst h;simp [idxS];omega
  ·simp only [idxS,if_neg h,List.mem_cons,h,false_or,List.length_cons]
   exact ⟨fun hm=>by have:=h1 hm;omega,h2⟩
theorem idxS_mem(n:Str) (l:List Str):0≤idxS n 0 l↔n ∈ l:=by
 obtain ⟨h1,h2⟩:=idxS_ge n l 0
 by_cases h:n ∈ l
 ·simp only [h,iff_true];have:=h1 h;omega
 ·simp only [h,iff_false,h2 h];omega
theorem IndexS_loop(τ:Bool) (l:List Str) (n:Str) (hlim:l.length≤2^40):
 lw progA L.slices_Index_string_string_0 ⟨[(0,.i τ (l.map S)),(1,S n),(7,I l.length),(8,I (0:Nat))],[]⟩=if n ∈ l then some (.ret,⟨[(4,I (idxS n 0 l))],[]⟩)else some (.exit 0,⟨[],[]⟩):=by
 refine for_ind l (fun i r=>lw progA L.slices_Index_string_string_0 ⟨[(0,.i τ (l.map S)),(1,S n),(7,I l.length),(8,I i)],[]⟩=if n ∈ r then some (.ret,⟨[(4,I (idxS n i r))],[]⟩)else some (.exit 0,⟨[],[]⟩)) (by omega) ?_ ?_
 ·rw [lw_eq]
  simp only [go_sem,Nat.reduceAdd,Nat.reduceSub,Nat.reduceMul,Nat.reduceEqDiff,Nat.reduceLeDiff,Nat.reduceBEq,reduceCtorEq,LB.slices_Index_string_string_0,List.not_mem_nil]
 ·intro i t r ht hi hlt e1 hir hm hr ih
  have g:=getmap (f:=S) ht
  have a1:=addr_i (τ:=τ) (T:=[]) (e:=1) g rfl
  rw [lw_eq]
  by_cases he:n=t
  ·have d:decide (n=t)=true:=decide_eq_true he
   rw [if_pos (by rw [he];exact List.mem_cons_self),idxS,if_pos he]
   simp only [go_sem,Nat.reduceAdd,Nat.reduceSub,Nat.reduceMul,Nat.reduceEqDiff,Nat.reduceLeDiff,Nat.reduceBEq,reduceCtorEq,LB.slices_Index_string_string_0,hlt,a1,g,e1,d]
  ·have d:decide (n=t)=false:=decide_eq_false he
   have hmm:(n ∈ t::r)=(n ∈ r):=by simp only [List.mem_cons,he,false_or]
   simp only [hmm,idxS,if_neg he]
   simp only [go_sem,Nat.reduceAdd,Nat.reduceSub,Nat.reduceMul,Nat.reduceEqDiff,Nat.reduceLeDiff,Nat.reduceBEq,reduceCtorEq,LB.slices_Index_string_string_0,hlt,a1,g,e1,d]
   exact ih
theorem IndexS_ok(τ:Bool) (l:List Str) (n:Str) (hlim:l.length≤2^40):cr progA F.slices_Index_string_string [.i τ (l.map S),S n]=some (I (idxS n 0 l)):=by
 rw [cr_fn pA_slices_Index_string_string rfl]
 have h:=IndexS_loop τ l n hlim
 simp only [Int.natCast_zero]at h
 by_cases hm:n ∈ l
 ·rw [if_pos hm]at h
  simp only [go_sem,Nat.reduceAdd,Nat.reduceSub,Nat.reduceMul,Nat.reduceEqDiff,Nat.reduceLeDiff,Nat.reduceBEq,reduceCtorEq,A.slices_Index_string_string,h]
 ·rw [if_neg hm]at h
  simp only [go_sem,Nat.reduceAdd,Nat.reduceSub,Nat.reduceMul,Nat.reduceEqDiff,Nat.reduceLeDiff,Nat.reduceBEq,reduceCtorEq,A.slices_Index_string_string,h,(idxS_ge n l 0).2 hm]
theorem ContainsS_ok(τ:Bool) (l:List Str) (n:Str) (hlim:l.length≤2^40):cr progA F.slices_Contains_string_string [.i τ (l.map S),S n]=some (B (decide (n ∈ l))):=by
 rw [cr_fn pA_slices_Contains_string_string rfl]
 have h:=IndexS_ok τ l n hlim
 have hm:decide (0≤idxS n 0 l)=decide (n ∈ l):=decide_eq_decide.2 (idxS_mem n l)
 simp only [go_sem,Nat.reduceAdd,Nat.reduceSub,Nat.reduceMul,Nat.reduceEqDiff,Nat.reduceLeDiff,Nat.reduceBEq,reduceCtorEq,A.slices_Contains_string_string,h,hm]
def ctls:List Str:=[[116,114,117,101,47,48],[102,97,105,108,47,48],[33,47,48],[44,47,50],[59,47,50],[45,62,47,50],[92,43,47,49],[99,97,108,108,47,49],[99,97,108,108,47,50],[99,97,108,108,47,51],[99,97,116,99,104,47,51],[116,104,114,111,119,47,49],[61,47,50],[92,61,47,50],[61,61,47,50],[105,115,47,50],[60,47,50],[61,58,61,47,50],[118,97,114,47,49],[97,116,111,109,47,49],[119,114,105,116,101,47,49],[97,115,115,101,114,116,122,47,49],[114,101,116,114,97,99,116,47,49],[58,45,47,50],[58,45,47,49],[45,45,62,47,50]]
def isCtl(p:Str):Bool:=decide (p ∈ ctls)
theorem decDigits_len: ∀ (k m:Nat),m < 10^(k+1)→(decDigits m).length≤k+1:=by
 intro k
 induction k with
 |zero=>intro m hm;rw [decDigits,dif_pos (by omega)];simp
 |succ k ih=>
  intro m hm
  rw [decDigits]
  split
  ·simp
  ·rw [List.length_append]
   have:=ih (m / 10) (by rw [Nat.pow_succ]at hm;omega)
   simp only [List.length_cons,List.length_nil];omega
theorem itoa_len(n:Int) (h0: -9223372036854775808≤n) (h1:n≤9223372036854775807):(itoa n).length≤20:=by
 unfold itoa
 have:=decDigits_len 18 n.natAbs (by omega)
 split
 ·simp only [List.length_cons];omega
 ·rw [show n.toNat=n.natAbs by omega];omega
def predOf(t:Tm):Str:=if t.kind=2∨t.kind=4 then t.name++[47]++itoa t.kids.length else []
end Go.Vm
set_option autoImplicit false
set_option maxHeartbeats 4000000
set_option maxRecDepth 100000
set_option linter.unusedSimpArgs false
set_option linter.unusedVariables false
namespace Go.Vm
open Go.Lib (itoa decDigits indexByte)
def syms:Str:=[43,45,42,47,92,94,60,62,61,126,58,46,63,64,35,38,36]
def symB(c:UInt8):Bool:=decide (c ∈ syms)
theorem byte_eq {c d:UInt8}:((c.toNat:Int)=d.toNat)=(c=d):=by
 apply propext
 constructor
 ·intro h
  have:c.toNat=d.toNat:=by omega
  exact UInt8.toNat_inj.1 this
 ·rintro rfl;rfl
theorem SymbolByte_loop(c:UInt8):
 lw progA L.spec_SymbolByte_0 ⟨[(0,U8 c.toNat),(3,S syms),(4,I (0:Nat))],[]⟩=if c ∈ syms then some (.ret,⟨[(2,B true)],[]⟩)else some (.exit 0,⟨[],[]⟩):=by
 refine for_ind syms (fun i r=>lw progA L.spec_SymbolByte_0 ⟨[(0,U8 c.toNat),(3,S syms),(4,I i)],[]⟩=if c ∈ r then some (.ret,⟨[(2,B true)],[]⟩)else some (.exit 0,⟨[],[]⟩)) (by decide) ?_ ?_
 ·rw [lw_eq]
  simp only [go_sem,Nat.reduceAdd,Nat.reduceSub,Nat.reduceMul,Nat.reduceEqDiff,Nat.reduceLeDiff,Nat.reduceBEq,reduceCtorEq,LB.spec_SymbolByte_0,List.not_mem_nil]
 ·intro i t r ht hi hlt e1 hir hm hr ih
  have ix:=ix_S (l:=syms) (i:=(i:Int)) (c:=t) (by omega) (by simpa using ht)
  rw [lw_eq]
  by_cases he:t=c
  ·have d:decide ((t.toNat:Int)=c.toNat)=true:=decide_eq_true (by rw [he])
   rw [if_pos (by rw [he];exact List.mem_cons_self)]
   simp only [go_sem,Nat.reduceAdd,Nat.reduceSub,Nat.reduceMul,Nat.reduceEqDiff,Nat.reduceLeDiff,Nat.reduceBEq,reduceCtorEq,LB.spec_SymbolByte_0,hlt,ix,e1,d]
  ·have d:decide ((t.toNat:Int)=c.toNat)=false:=decide_eq_false (by rw [byte_eq];exact he)
   have hmm:(c ∈ t::r)=(c ∈ r):=by
    have: ¬ c=t:=fun h=>he h.symm
    simp only [List.mem_cons,this,false_or]
   simp only [hmm]
   simp only [go_sem,Nat.reduceAdd,Nat.reduceSub,Nat.reduceMul,Nat.reduceEqDiff,Nat.reduceLeDiff,Nat.reduceBEq,reduceCtorEq,LB.spec_SymbolByte_0,hlt,ix,e1,d]
   exact ih
theorem spec_SymbolByte_ok(c:UInt8):cr progA F.spec_SymbolByte [U8 c.toNat]=some (B (symB c)):=by
 rw [cr_fn pA_spec_SymbolByte rfl]
 have h:=SymbolByte_loop c
 simp only [Int.natCast_zero]at h
 unfold symB
 by_cases hm:c ∈ syms
 ·rw [if_pos hm]at h
  rw [decide_eq_true hm]
  unfold syms at h
  simp only [go_sem,Nat.reduceAdd,Nat.reduceSub,Nat.reduceMul,Nat.reduceEqDiff,Nat.reduceLeDiff,Nat.reduceBEq,reduceCtorEq,A.spec_SymbolByte,h]
 ·rw [if_neg hm]at h
  rw [decide_eq_false hm]
  unfold syms at h
  simp only [go_sem,Nat.reduceAdd,Nat.reduceSub,Nat.reduceMul,Nat.reduceEqDiff,Nat.reduceLeDiff,Nat.reduceBEq,reduceCtorEq,A.spec_SymbolByte,h]
theorem ixb_mem(l:Str) (c:UInt8):0≤indexByte l c↔c ∈ l:=by
 induction l with
 |nil=>simp [indexByte]
 |cons b l ih=>
  unfold indexByte
  by_cases h:b=c
  ·simp [h]
  ·have h1:(b==c)=false:=by simpa using h
   have h2: ¬ c=b:=fun e=>h e.symm
   have:=Go.Lib.indexByte_ge l c
   rw [h1]
   simp only [Bool.false_eq_true,if_false,List.mem_cons,h2,false_or]
   by_cases h3:indexByte l c= -1
   ·have h4: ¬ c ∈ l:=fun hm=>by have:=ih.2 hm;omega
    simp only [h3,beq_self_eq_true,if_true,h4,iff_false];omega
   ·have h5:(indexByte l c== -1)=false:=by simpa using h3
    rw [h5]
    simp only [Bool.false_eq_true,if_false]
    rw [← ih]
    omega
theorem cr_ixb8(l:Str) (c:UInt8):cr progA F.strings_IndexByte [S l,U8 c.toNat]=some (I (indexByte l c)):=by
 have h:=cr_ixb pA_strings_IndexByte l c.toNat
 have:(c.toNat:Int).toNat.toUInt8=c:=by simp
 rw [this]at h
 exact h
theorem impl_SymbolByte_ok(c:UInt8):cr progA F.impl_SymbolByte [U8 c.toNat]=some (B (symB c)):=by
 rw [cr_fn pA_impl_SymbolByte rfl]
 have h:=cr_ixb8 syms c
 have hd:decide (0≤indexByte syms c)=symB c:=decide_eq_decide.2 (ixb_mem syms c)
 unfold syms at h hd
 simp only [go_sem,Nat.reduceAdd,Nat.reduceSub,Nat.reduceMul,Nat.reduceEqDiff,Nat.reduceLeDiff,Nat.reduceBEq,reduceCtorEq,A.impl_SymbolByte,h,hd]
end Go.Vm
set_option autoImplicit false
set_option maxHeartbeats 4000000
set_option maxRecDepth 100000
set_option linter.unusedSimpArgs false
set_option linter.unusedVariables false
namespace Go.Vm
def inB(lo hi:Int) (c:UInt8):Bool:=decide (lo≤(c.toNat:Int))&&decide ((c.toNat:Int)≤hi)
def isB(n:Int) (c:UInt8):Bool:=decide ((c.toNat:Int)=n)
def greatB(c:UInt8):Bool:=inB 65 90 c||isB 95 c
def wordB(c:UInt8):Bool:=inB 97 122 c||greatB c||inB 48 57 c
def blankB(c:UInt8):Bool:=isB 32 c||isB 9 c||isB 10 c
theorem l05Small_ok(c:UInt8):cr progA F.spec_l05Small [U8 c.toNat]=some (B (inB 97 122 c)):=by
 rw [cr_fn pA_spec_l05Small rfl]
 unfold inB
 by_cases h1:(97:Int)≤(c.toNat:Int)
 ·rw [decide_eq_true h1,Bool.true_and]
  by_cases h2:(c.toNat:Int)≤122
  ·rw [decide_eq_true h2];simp only [go_sem,Nat.reduceAdd,Nat.reduceSub,Nat.reduceMul,Nat.reduceEqDiff,Nat.reduceLeDiff,Nat.reduceBEq,reduceCtorEq,A.spec_l05Small,h1,h2]
  ·rw [decide_eq_false h2];simp only [go_sem,Nat.reduceAdd,Nat.reduceSub,Nat.reduceMul,Nat.reduceEqDiff,Nat.reduceLeDiff,Nat.reduceBEq,reduceCtorEq,A.spec_l05Small,h1,h2]
 ·rw [decide_eq_false h1,Bool.false_and];simp only [go_sem,Nat.reduceAdd,Nat.reduceSub,Nat.reduceMul,Nat.reduceEqDiff,Nat.reduceLeDiff,Nat.reduceBEq,reduceCtorEq,A.spec_l05Small,h1]
theorem impl_lower_ok(c:UInt8):cr progA F.impl_lower [U8 c.toNat]=some (B (inB 97 122 c)):=by
 rw [cr_fn pA_impl_lower rfl]
 unfold inB
 by_cases h1:(97:Int)≤(c.toNat:Int)
 ·rw [decide_eq_true h1,Bool.true_and]
  by_cases h2:(c.toNat:Int)≤122
  ·rw [decide_eq_true h2];simp only [go_sem,Nat.reduceAdd,Nat.reduceSub,Nat.reduceMul,Nat.reduceEqDiff,Nat.reduceLeDiff,Nat.reduceBEq,reduceCtorEq,A.impl_lower,h1,h2]
  ·rw [decide_eq_false h2];simp only [go_sem,Nat.reduceAdd,Nat.reduceSub,Nat.reduceMul,Nat.reduceEqDiff,Nat.reduceLeDiff,Nat.reduceBEq,reduceCtorEq,A.impl_lower,h1,h2]
 ·rw [decide_eq_false h1,Bool.false_and];simp only [go_sem,Nat.reduceAdd,Nat.reduceSub,Nat.reduceMul,Nat.reduceEqDiff,Nat.reduceLeDiff,Nat.reduceBEq,reduceCtorEq,A.impl_lower,h1]
theorem impl_upper_ok(c:UInt8):cr progA F.impl_upper [U8 c.toNat]=some (B (inB 65 90 c)):=by
 rw [cr_fn pA_impl_upper rfl]
 unfold inB
 by_cases h1:(65:Int)≤(c.toNat:Int)
 ·rw [decide_eq_true h1,Bool.true_and]
  by_cases h2:(c.toNat:Int)≤90
  ·rw [decide_eq_true h2];simp only [go_sem,Nat.reduceAdd,Nat.reduceSub,Nat.reduceMul,Nat.reduceEqDiff,Nat.reduceLeDiff,Nat.reduceBEq,reduceCtorEq,A.impl_upper,h1,h2]
  ·rw [decide_eq_false h2];simp only [go_sem,Nat.reduceAdd,Nat.reduceSub,Nat.reduceMul,Nat.reduceEqDiff,Nat.reduceLeDiff,Nat.reduceBEq,reduceCtorEq,A.impl_upper,h1,h2]
 ·rw [decide_eq_false h1,Bool.false_and];simp only [go_sem,Nat.reduceAdd,Nat.reduceSub,Nat.reduceMul,Nat.reduceEqDiff,Nat.reduceLeDiff,Nat.reduceBEq,reduceCtorEq,A.impl_upper,h1]
theorem l05Figure_ok(c:UInt8):cr progA F.spec_l05Figure [U8 c.toNat]=some (B (inB 48 57 c)):=by
 rw [cr_fn pA_spec_l05Figure rfl]
 unfold inB
 by_cases h1:(48:Int)≤(c.toNat:Int)
 ·rw [decide_eq_true h1,Bool.true_and]
  by_cases h2:(c.toNat:Int)≤57
  ·rw [decide_eq_true h2];simp only [go_sem,Nat.reduceAdd,Nat.reduceSub,Nat.reduceMul,Nat.reduceEqDiff,Nat.reduceLeDiff,Nat.reduceBEq,reduceCtorEq,A.spec_l05Figure,h1,h2]
  ·rw [decide_eq_false h2];simp only [go_sem,Nat.reduceAdd,Nat.reduceSub,Nat.reduceMul,Nat.reduceEqDiff,Nat.reduceLeDiff,Nat.reduceBEq,reduceCtorEq,A.spec_l05Figure,h1,h2]
 ·rw [decide_eq_false h1,Bool.false_and];simp only [go_sem,Nat.reduceAdd,Nat.reduceSub,Nat.reduceMul,Nat.reduceEqDiff,Nat.reduceLeDiff,Nat.reduceBEq,reduceCtorEq,A.spec_l05Figure,h1]
theorem impl_figure_ok(c:UInt8):cr progA F.impl_figure [U8 c.toNat]=some (B (inB 48 57 c)):=by
 rw [cr_fn pA_impl_figure rfl]
 unfold inB
 by_cases h1:(48:Int)≤(c.toNat:Int)
 ·rw [decide_eq_true h1,Bool.true_and]
  by_cases h2:(c.toNat:Int)≤57
  ·rw [decide_eq_true h2];simp only [go_sem,Nat.reduceAdd,Nat.reduceSub,Nat.reduceMul,Nat.reduceEqDiff,Nat.reduceLeDiff,Nat.reduceBEq,reduceCtorEq,A.impl_figure,h1,h2]
  ·rw [decide_eq_false h2];simp only [go_sem,Nat.reduceAdd,Nat.reduceSub,Nat.reduceMul,Nat.reduceEqDiff,Nat.reduceLeDiff,Nat.reduceBEq,reduceCtorEq,A.impl_figure,h1,h2]
 ·rw [decide_eq_false h1,Bool.false_and];simp only [go_sem,Nat.reduceAdd,Nat.reduceSub,Nat.reduceMul,Nat.reduceEqDiff,Nat.reduceLeDiff,Nat.reduceBEq,reduceCtorEq,A.impl_figure,h1]
theorem l05Great_ok(c:UInt8):cr progA F.spec_l05Great [U8 c.toNat]=some (B (greatB c)):=by
 rw [cr_fn pA_spec_l05Great rfl]
 unfold greatB inB isB
 cases h3:decide ((c.toNat:Int)=95)<;>
 by_cases h1:(65:Int)≤(c.toNat:Int)<;>by_cases h2:(c.toNat:Int)≤90<;>
 simp only [decide_eq_true_eq,h1,h2,decide_true,decide_false,Bool.true_and,Bool.false_and,Bool.and_true,Bool.and_false,Bool.or_true,Bool.or_false]<;>
 simp only [go_sem,Nat.reduceAdd,Nat.reduceSub,Nat.reduceMul,Nat.reduceEqDiff,Nat.reduceLeDiff,Nat.reduceBEq,reduceCtorEq,A.spec_l05Great,h1,h2,h3]
theorem l05Blank_ok(c:UInt8):cr progA F.spec_l05Blank [U8 c.toNat]=some (B (blankB c)):=by
 rw [cr_fn pA_spec_l05Blank rfl]
 unfold blankB isB
 cases h1:decide ((c.toNat:Int)=32)<;>cases h2:decide ((c.toNat:Int)=9)<;>cases h3:decide ((c.toNat:Int)=10)<;>
 simp only [Bool.or_true,Bool.or_false]<;>simp only [go_sem,Nat.reduceAdd,Nat.reduceSub,Nat.reduceMul,Nat.reduceEqDiff,Nat.reduceLeDiff,Nat.reduceBEq,reduceCtorEq,A.spec_l05Blank,h1,h2,h3]
theorem l05Word_ok(c:UInt8):cr progA F.spec_l05Word [U8 c.toNat]=some (B (wordB c)):=by
 rw [cr_fn pA_spec_l05Word rfl]
 have e1:=l05Small_ok c
 have e2:=l05Great_ok c
 have e3:=l05Figure_ok c
 unfold wordB
 cases h1:inB 97 122 c<;>cases h2:greatB c<;>rw [h1]at e1<;>rw [h2]at e2<;>
 simp only [Bool.or_true,Bool.or_false,Bool.true_or,Bool.false_or]<;>simp only [go_sem,Nat.reduceAdd,Nat.reduceSub,Nat.reduceMul,Nat.reduceEqDiff,Nat.reduceLeDiff,Nat.reduceBEq,reduceCtorEq,A.spec_l05Word,e1,e2,e3]
theorem impl_wordByte_ok(c:UInt8):cr progA F.impl_wordByte [U8 c.toNat]=some (B (wordB c)):=by
 rw [cr_fn pA_impl_wordByte rfl]
 have e1:=impl_lower_ok c
 have e2:=impl_upper_ok c
 have e3:=impl_figure_ok c
 unfold wordB greatB isB
 cases h1:inB 97 122 c<;>cases h2:inB 65 90 c<;>cases h3:inB 48 57 c<;>cases h4:decide ((c.toNat:Int)=95)<;>rw [h1]at e1<;>rw [h2]at e2<;>rw [h3]at e3<;>
 simp only [Bool.or_true,Bool.or_false,Bool.true_or,Bool.false_or]<;>simp only [go_sem,Nat.reduceAdd,Nat.reduceSub,Nat.reduceMul,Nat.reduceEqDiff,Nat.reduceLeDiff,Nat.reduceBEq,reduceCtorEq,A.impl_wordByte,e1,e2,e3,h4]
end Go.Vm
set_option autoImplicit false
set_option maxHeartbeats 4000000
set_option maxRecDepth 100000
set_option linter.unusedSimpArgs false
set_option linter.unusedVariables false
namespace Go.Vm
def pre(p:UInt8→Bool):Str→Nat
 |[]=>0
 |c::r=>if p c=true then pre p r+1 else 0
theorem pre_le(p:UInt8→Bool): ∀ s,pre p s≤s.length
 |[]=>Nat.le_refl _
 |c::r=>by have:=pre_le p r;simp only [pre,List.length_cons];split<;>omega
theorem l05Run_loop(s:Str) (hl:s.length≤2^61) (m:Nat): ∀ i,i+m=s.length→
 lw progA L.spec_l05Run_0 ⟨[(0,S s),(1,I i)],[]⟩=some (.exit 0,⟨[(1,I ((i+pre wordB (s.drop i):Nat):Int))],[]⟩):=by
 induction m with
 |zero=>
  intro i hi
  rw [List.drop_eq_nil_of_le (by omega),lw_eq]
  have h: ¬ (i:Int) < s.length:=by omega
  simp only [go_sem,Nat.reduceAdd,Nat.reduceSub,Nat.reduceMul,Nat.reduceEqDiff,Nat.reduceLeDiff,Nat.reduceBEq,reduceCtorEq,LB.spec_l05Run_0,h,pre]
 |succ m ih=>
  intro i hi
  have h:(i:Int) < s.length:=by omega
  obtain ⟨c,hc⟩:=get_some' (l:=s) (i:=i) (by omega)
  have ix:=ix_S (l:=s) (i:=(i:Int)) (c:=c) (by omega) (by simpa using hc)
  have w:=l05Word_ok c
  have e1:w64 ((i:Int)+1)=((i+1:Nat):Int):=by rw [w64_id]<;>omega
  rw [drop_cons' hc,lw_eq,pre]
  cases hw:wordB c with
  |true=>
   rw [hw]at w
   have i1:=ih (i+1) (by omega)
   rw [if_pos rfl,show i+(pre wordB (s.drop (i+1))+1)=i+1+pre wordB (s.drop (i+1))by omega]
   simp only [go_sem,Nat.reduceAdd,Nat.reduceSub,Nat.reduceMul,Nat.reduceEqDiff,Nat.reduceLeDiff,Nat.reduceBEq,reduceCtorEq,LB.spec_l05Run_0,h,ix,w,e1]
   exact i1
  |false=>
   rw [hw]at w
   rw [if_neg (by decide)]
   simp only [go_sem,Nat.reduceAdd,Nat.reduceSub,Nat.reduceMul,Nat.reduceEqDiff,Nat.reduceLeDiff,Nat.reduceBEq,reduceCtorEq,LB.spec_l05Run_0,h,ix,w,e1]
theorem l05Run_ok(s:Str) (hl:s.length≤2^61) (i:Nat) (hi:i≤s.length):cr progA F.spec_l05Run [S s,I i]=some (I ((i+pre wordB (s.drop i):Nat):Int)):=by
 rw [cr_fn pA_spec_l05Run rfl]
 have h:=l05Run_loop s hl (s.length - i) i (by omega)
 simp only [go_sem,Nat.reduceAdd,Nat.reduceSub,Nat.reduceMul,Nat.reduceEqDiff,Nat.reduceLeDiff,Nat.reduceBEq,reduceCtorEq,A.spec_l05Run,h]
theorem run_loop(p:UInt8→Bool) (g:Nat) (hg: ∀ c,cr progA g [U8 c.toNat]=some (B (p c))) (s:Str) (hl:s.length≤2^61) (m:Nat): ∀ i,i+m=s.length→
 lw progA L.impl_run_0 ⟨[(0,S s),(1,I i),(2,Fc g)],[]⟩=some (.exit 0,⟨[(1,I ((i+pre p (s.drop i):Nat):Int))],[]⟩):=by
 induction m with
 |zero=>
  intro i hi
  rw [List.drop_eq_nil_of_le (by omega),lw_eq]
  have h: ¬ (i:Int) < s.length:=by omega
  simp only [go_sem,Nat.reduceAdd,Nat.reduceSub,Nat.reduceMul,Nat.reduceEqDiff,Nat.reduceLeDiff,Nat.reduceBEq,reduceCtorEq,LB.impl_run_0,h,pre]
 |succ m ih=>
  intro i hi
  have h:(i:Int) < s.length:=by omega
  obtain ⟨c,hc⟩:=get_some' (l:=s) (i:=i) (by omega)
  have ix:=ix_S (l:=s) (i:=(i:Int)) (c:=c) (by omega) (by simpa using hc)
  have w:=hg c
  have e1:w64 ((i:Int)+1)=((i+1:Nat):Int):=by rw [w64_id]<;>omega
  rw [drop_cons' hc,lw_eq,pre]
  cases hw:p c with
  |true=>
   rw [hw]at w
   have i1:=ih (i+1) (by omega)
   rw [if_pos rfl,show i+(pre p (s.drop (i+1))+1)=i+1+pre p (s.drop (i+1))by omega]
   simp only [go_sem,Nat.reduceAdd,Nat.reduceSub,Nat.reduceMul,Nat.reduceEqDiff,Nat.reduceLeDiff,Nat.reduceBEq,reduceCtorEq,LB.impl_run_0,h,ix,w,e1]
   exact i1
  |false=>
   rw [hw]at w
   rw [if_neg (by decide)]
   simp only [go_sem,Nat.reduceAdd,Nat.reduceSub,Nat.reduceMul,Nat.reduceEqDiff,Nat.reduceLeDiff,Nat.reduceBEq,reduceCtorEq,LB.impl_run_0,h,ix,w,e1]
theorem run_ok(p:UInt8→Bool) (g:Nat) (hg: ∀ c,cr progA g [U8 c.toNat]=some (B (p c))) (s:Str) (hl:s.length≤2^61) (i:Nat) (hi:i≤s.length):cr progA F.impl_run [S s,I i,Fc g]=some (I ((i+pre p (s.drop i):Nat):Int)):=by
 rw [cr_fn pA_impl_run rfl]
 have h:=run_loop p g hg s hl (s.length - i) i (by omega)
 simp only [go_sem,Nat.reduceAdd,Nat.reduceSub,Nat.reduceMul,Nat.reduceEqDiff,Nat.reduceLeDiff,Nat.reduceBEq,reduceCtorEq,A.impl_run,h]
end Go.Vm
set_option autoImplicit false
set_option maxHeartbeats 4000000
set_option maxRecDepth 100000
set_option linter.unusedSimpArgs false
set_option linter.unusedVariables false
namespace Go.Vm
open Go.Lib (indexByte)
def prevOk(s:Str) (i:Nat):Bool:=match i with
 |0=>true
 |j+1=> !symB (s.getD j 0)
def nextOk:Option UInt8→Bool
 |none=>true
 |some d=>blankB d||isB 37 d
def endB(s:Str) (i:Nat) (c:UInt8):Bool:=isB 46 c&&(prevOk s i&&nextOk s[i+1]?)
theorem blank37(d:UInt8):decide (0≤indexByte [32,9,10,37] d)=(blankB d||isB 37 d):=by
 have h:=ixb_mem [32,9,10,37] d
 have e1:=byte_eq (c:=d) (d:=32)
 have e2:=byte_eq (c:=d) (d:=9)
 have e3:=byte_eq (c:=d) (d:=10)
 have e4:=byte_eq (c:=d) (d:=37)
 have f1:((32:UInt8).toNat:Int)=32:=rfl
 have f2:((9:UInt8).toNat:Int)=9:=rfl
 have f3:((10:UInt8).toNat:Int)=10:=rfl
 have f4:((37:UInt8).toNat:Int)=37:=rfl
 rw [f1]at e1;rw [f2]at e2;rw [f3]at e3;rw [f4]at e4
 unfold blankB isB
 rw [Bool.eq_iff_iff]
 simp only [decide_eq_true_eq,h,Bool.or_eq_true,e1,e2,e3,e4,List.mem_cons,List.not_mem_nil,or_false,or_assoc]
theorem l05End_ok(s:Str) (hl:s.length≤2^61) (i:Nat) (c:UInt8) (hc:s[i]? =some c):cr progA F.spec_l05End [S s,I i]=some (B (endB s i c)):=by
 have hi:i < s.length:=(List.getElem?_eq_some_iff.1 hc).1
 have ix:=ix_S (l:=s) (i:=(i:Int)) (c:=c) (by omega) (by simpa using hc)
 have e1:w64 ((i:Int)+1)=((i+1:Nat):Int):=by rw [w64_id]<;>omega
 rw [cr_fn pA_spec_l05End rfl]
 unfold endB
 cases h46:isB 46 c with
 |false=>
  unfold isB at h46
  simp only [go_sem,Nat.reduceAdd,Nat.reduceSub,Nat.reduceMul,Nat.reduceEqDiff,Nat.reduceLeDiff,Nat.reduceBEq,reduceCtorEq,A.spec_l05End,ix,h46,Bool.false_and]
 |true=>
 unfold isB at h46
 have hnext: ∀ (b:Bool),True:=fun _=>trivial
 cases i with
 |zero=>
  rw [prevOk,Bool.true_and,Bool.true_and]
  have z:w64 ((0:Int)+1)=1:=rfl
  by_cases hn:s.length=1
  ·have d:decide ((1:Int)=s.length)=true:=decide_eq_true (by omega)
   have:s[0+1]? =none:=List.getElem?_eq_none (by omega)
   rw [this,nextOk]
   simp only [Int.natCast_zero]at ix
   simp only [go_sem,Nat.reduceAdd,Nat.reduceSub,Nat.reduceMul,Nat.reduceEqDiff,Nat.reduceLeDiff,Nat.reduceBEq,reduceCtorEq,A.spec_l05End,ix,h46,z,d]
  ·have d:decide ((1:Int)=s.length)=false:=decide_eq_false (by omega)
   obtain ⟨n,hnx⟩:=get_some' (l:=s) (i:=0+1) (by omega)
   have ix2:=ix_S (l:=s) (i:=(1:Int)) (c:=n) (by omega) (by simpa using hnx)
   have bl:=l05Blank_ok n
   rw [hnx,nextOk]
   simp only [Int.natCast_zero]at ix
   unfold isB
   cases hb:blankB n with
   |true=>rw [hb]at bl;simp only [go_sem,Nat.reduceAdd,Nat.reduceSub,Nat.reduceMul,Nat.reduceEqDiff,Nat.reduceLeDiff,Nat.reduceBEq,reduceCtorEq,A.spec_l05End,ix,h46,z,d,ix2,bl,Bool.true_or]
   |false=>rw [hb]at bl;simp only [go_sem,Nat.reduceAdd,Nat.reduceSub,Nat.reduceMul,Nat.reduceEqDiff,Nat.reduceLeDiff,Nat.reduceBEq,reduceCtorEq,A.spec_l05End,ix,h46,z,d,ix2,bl,Bool.false_or]
 |succ j=>
  obtain ⟨q,hq⟩:=get_some' (l:=s) (i:=j) (by omega)
  have ix0:=ix_S (l:=s) (i:=(j:Int)) (c:=q) (by omega) (by simpa using hq)
  have e0:w64 (((j+1:Nat):Int) - 1)=(j:Int):=by rw [w64_id]<;>omega
  have dz:decide (((j+1:Nat):Int)=0)=false:=decide_eq_false (by omega)
  have sy:=spec_SymbolByte_ok q
  have hg:s.getD j 0=q:=by rw [List.getD_eq_getElem?_getD,hq];rfl
  rw [prevOk,hg]
  cases hs:symB q with
  |true=>rw [hs]at sy;simp only [go_sem,Nat.reduceAdd,Nat.reduceSub,Nat.reduceMul,Nat.reduceEqDiff,Nat.reduceLeDiff,Nat.reduceBEq,reduceCtorEq,A.spec_l05End,ix,h46,dz,e0,ix0,sy,Bool.not_true,Bool.false_and,Bool.true_and]
  |false=>
  rw [hs]at sy
  rw [Bool.not_false,Bool.true_and,Bool.true_and]
  by_cases hn:s.length=j+1+1
  ·have d:decide (((j+1+1:Nat):Int)=s.length)=true:=decide_eq_true (by omega)
   have:s[j+1+1]? =none:=List.getElem?_eq_none (by omega)
   rw [this,nextOk]
   simp only [go_sem,Nat.reduceAdd,Nat.reduceSub,Nat.reduceMul,Nat.reduceEqDiff,Nat.reduceLeDiff,Nat.reduceBEq,reduceCtorEq,A.spec_l05End,ix,h46,dz,e0,ix0,sy,e1,d]
  ·have d:decide (((j+1+1:Nat):Int)=s.length)=false:=decide_eq_false (by omega)
   obtain ⟨n,hnx⟩:=get_some' (l:=s) (i:=j+1+1) (by omega)
   have ix2:=ix_S (l:=s) (i:=((j+1+1:Nat):Int)) (c:=n) (by omega) (by rw [Int.toNat_natCast];exact hnx)
   have bl:=l05Blank_ok n
   rw [hnx,nextOk]
   unfold isB
   cases hb:blankB n with
   |true=>rw [hb]at bl;simp only [go_sem,Nat.reduceAdd,Nat.reduceSub,Nat.reduceMul,Nat.reduceEqDiff,Nat.reduceLeDiff,Nat.reduceBEq,reduceCtorEq,A.spec_l05End,ix,h46,dz,e0,ix0,sy,e1,d,ix2,bl,Bool.true_or]
   |false=>rw [hb]at bl;simp only [go_sem,Nat.reduceAdd,Nat.reduceSub,Nat.reduceMul,Nat.reduceEqDiff,Nat.reduceLeDiff,Nat.reduceBEq,reduceCtorEq,A.spec_l05End,ix,h46,dz,e0,ix0,sy,e1,d,ix2,bl,Bool.false_or]
end Go.Vm
set_option autoImplicit false
set_option maxHeartbeats 4000000
set_option maxRecDepth 100000
set_option linter.unusedSimpArgs false
set_option linter.unusedVariables false
namespace Go.Vm
open Go.Lib (indexByte)
theorem endsHere_ok(s:Str) (hl:s.length≤2^61) (i:Nat) (c:UInt8) (hc:s[i]? =some c):cr progA F.impl_endsHere [S s,I i]=some (B (endB s i c)):=by
 have hi:i < s.length:=(List.getElem?_eq_some_iff.1 hc).1
 have ix:=ix_S (l:=s) (i:=(i:Int)) (c:=c) (by omega) (by simpa using hc)
 have e1:w64 ((i:Int)+1)=((i+1:Nat):Int):=by rw [w64_id]<;>omega
 rw [cr_fn pA_impl_endsHere rfl]
 unfold endB
 cases h46:isB 46 c with
 |false=>
  unfold isB at h46
  simp only [go_sem,Nat.reduceAdd,Nat.reduceSub,Nat.reduceMul,Nat.reduceEqDiff,Nat.reduceLeDiff,Nat.reduceBEq,reduceCtorEq,A.impl_endsHere,ix,h46,Bool.false_and]
 |true=>
 unfold isB at h46
 have hnext: ∀ (b:Bool),True:=fun _=>trivial
 cases i with
 |zero=>
  rw [prevOk,Bool.true_and,Bool.true_and]
  have z:w64 ((0:Int)+1)=1:=rfl
  by_cases hn:s.length=1
  ·have d:decide ((1:Int)=s.length)=true:=decide_eq_true (by omega)
   have:s[0+1]? =none:=List.getElem?_eq_none (by omega)
   rw [this,nextOk]
   simp only [Int.natCast_zero]at ix
   simp only [go_sem,Nat.reduceAdd,Nat.reduceSub,Nat.reduceMul,Nat.reduceEqDiff,Nat.reduceLeDiff,Nat.reduceBEq,reduceCtorEq,A.impl_endsHere,ix,h46,z,d]
  ·have d:decide ((1:Int)=s.length)=false:=decide_eq_false (by omega)
   obtain ⟨n,hnx⟩:=get_some' (l:=s) (i:=0+1) (by omega)
   have ix2:=ix_S (l:=s) (i:=(1:Int)) (c:=n) (by omega) (by simpa using hnx)
   have bl:=cr_ixb8 [32,9,10,37] n
   have bd:=blank37 n
   rw [hnx,nextOk]
   simp only [Int.natCast_zero]at ix
   rw [← bd]
   simp only [go_sem,Nat.reduceAdd,Nat.reduceSub,Nat.reduceMul,Nat.reduceEqDiff,Nat.reduceLeDiff,Nat.reduceBEq,reduceCtorEq,A.impl_endsHere,ix,h46,z,d,ix2,bl]
 |succ j=>
  obtain ⟨q,hq⟩:=get_some' (l:=s) (i:=j) (by omega)
  have ix0:=ix_S (l:=s) (i:=(j:Int)) (c:=q) (by omega) (by simpa using hq)
  have e0:w64 (((j+1:Nat):Int) - 1)=(j:Int):=by rw [w64_id]<;>omega
  have dz:(0:Int) < ((j+1:Nat):Int):=by omega
  have sy:=impl_SymbolByte_ok q
  have hg:s.getD j 0=q:=by rw [List.getD_eq_getElem?_getD,hq];rfl
  rw [prevOk,hg]
  cases hs:symB q with
  |true=>rw [hs]at sy;simp only [go_sem,Nat.reduceAdd,Nat.reduceSub,Nat.reduceMul,Nat.reduceEqDiff,Nat.reduceLeDiff,Nat.reduceBEq,reduceCtorEq,A.impl_endsHere,ix,h46,dz,e0,ix0,sy,Bool.not_true,Bool.false_and,Bool.true_and]
  |false=>
  rw [hs]at sy
  rw [Bool.not_false,Bool.true_and,Bool.true_and]
  by_cases hn:s.length=j+1+1
  ·have d:decide (((j+1+1:Nat):Int)=s.length)=true:=decide_eq_true (by omega)
   have:s[j+1+1]? =none:=List.getElem?_eq_none (by omega)
   rw [this,nextOk]
   simp only [go_sem,Nat.reduceAdd,Nat.reduceSub,Nat.reduceMul,Nat.reduceEqDiff,Nat.reduceLeDiff,Nat.reduceBEq,reduceCtorEq,A.impl_endsHere,ix,h46,dz,e0,ix0,sy,e1,d]
  ·have d:decide (((j+1+1:Nat):Int)=s.length)=false:=decide_eq_false (by omega)
   obtain ⟨n,hnx⟩:=get_some' (l:=s) (i:=j+1+1) (by omega)
   have ix2:=ix_S (l:=s) (i:=((j+1+1:Nat):Int)) (c:=n) (by omega) (by rw [Int.toNat_natCast];exact hnx)
   have bl:=cr_ixb8 [32,9,10,37] n
   have bd:=blank37 n
   rw [hnx,nextOk]
   rw [← bd]
   simp only [go_sem,Nat.reduceAdd,Nat.reduceSub,Nat.reduceMul,Nat.reduceEqDiff,Nat.reduceLeDiff,Nat.reduceBEq,reduceCtorEq,A.impl_endsHere,ix,h46,dz,e0,ix0,sy,e1,d,ix2,bl]
end Go.Vm
set_option autoImplicit false
set_option maxHeartbeats 4000000
set_option maxRecDepth 100000
set_option linter.unusedSimpArgs false
set_option linter.unusedVariables false
namespace Go.Vm
structure Sg where
 kind:Int
 text:Str
 num:Int
 at_:Int
 near:Bool
def Sg.v(x:Sg):V:= .a [I x.kind,S x.text,I x.num,I x.at_,B x.near]
def subs(s:Str) (i j:Nat):Str:=(s.take j).drop i
def bad(s:Str) (i:Nat):Sg × Nat:=(⟨6,subs s i (i+1),0,i,false⟩,i+1)
def nf:Str→Int→Int
 |[],a=>a
 |d::r,a=>if (inB 48 57 d&&decide (a≤999999999))=true then nf r (10*a+d.toNat - 48)else a
def nk:Str→Int→Nat
 |[],a=>0
 |d::r,a=>if (inB 48 57 d&&decide (a≤999999999))=true then nk r (10*a+d.toNat - 48)+1 else 0
theorem nk_pre: ∀ (s:Str) (a:Int),0≤a→nf s a≤999999999→nk s a=pre (inB 48 57) s
 |[],a,_,_=>rfl
 |d::r,a,h0,h=>by
  simp only [nf,nk,pre]at h ⊢
  by_cases ha:a≤999999999
  ·rw [decide_eq_true ha,Bool.and_true]at h ⊢
   by_cases hd:inB 48 57 d=true
   ·rw [if_pos hd]at h ⊢
    rw [if_pos hd]
    have h1:(48:Int)≤d.toNat:=by unfold inB at hd;simp only [Bool.and_eq_true,decide_eq_true_eq]at hd;exact hd.1
    rw [nk_pre r _ (by omega) h]
   ·rw [if_neg hd,if_neg hd]
  ·exfalso
   rw [decide_eq_false ha,Bool.and_false]at h
   simp only [Bool.false_eq_true,if_false]at h
   omega
theorem nf_bd: ∀ (s:Str) (a:Int),0≤a→a≤9999999999→0≤nf s a∧nf s a≤9999999999
 |[],a,h0,h1=>⟨h0,h1⟩
 |d::r,a,h0,h1=>by
  simp only [nf]
  split
  ·rename_i h
   simp only [inB,Bool.and_eq_true,decide_eq_true_eq]at h
   exact nf_bd r _ (by omega) (by omega)
  ·exact ⟨h0,h1⟩
def qlen:Str→Option Nat
 |[]=>none
 |c::r=>if isB 39 c=true then some 0 else (qlen r).map (· +1)
def quoted(r:Str):Option Nat:=match qlen r with
 |some m=>if nameOk (r.take m)=true then some m else none
 |none=>none
def sgn(s:Str) (i:Nat) (c:UInt8):Sg × Nat:=
 if (inB 97 122 c||greatB c)=true then
  if pre wordB (s.drop i)≤20 then (⟨if greatB c=true then 2 else 1,subs s i (i+pre wordB (s.drop i)),0,i,false⟩,i+pre wordB (s.drop i))else bad s i
 else if inB 48 57 c=true then
  if nf (s.drop i) 0≤999999999 then (⟨3,[],nf (s.drop i) 0,i,false⟩,i+pre (inB 48 57) (s.drop i))else bad s i
 else if isB 39 c=true then
  match quoted (s.drop (i+1))with
  |some m=>(⟨1,subs s (i+1) (i+1+m),0,i,false⟩,i+1+m+1)
  |none=>bad s i
 else if (isB 33 c||isB 59 c)=true then (⟨1,subs s i (i+1),0,i,false⟩,i+1)
 else if (isB 40 c||isB 41 c||isB 91 c||isB 93 c||isB 44 c||isB 124 c)=true then (⟨4,subs s i (i+1),0,i,false⟩,i+1)
 else if endB s i c=true then (⟨5,subs s i (i+1),0,i,false⟩,i+1)
 else if symB c=true then
  if pre symB (s.drop i)≤20 then (⟨1,subs s i (i+pre symB (s.drop i)),0,i,false⟩,i+pre symB (s.drop i))else bad s i
 else bad s i
end Go.Vm
set_option autoImplicit false
set_option maxRecDepth 100000
set_option linter.unusedSimpArgs false
set_option linter.unusedVariables false
namespace Go.Vm
structure Op3 where
 prio:Int
 left:Int
 right:Int
def infixOf(s:Str):Op3:=
 if s=[58,45]∨s=[45,45,62]then ⟨1200,1199,1199⟩
 else if s=[59]then ⟨1100,1099,1100⟩
 else if s=[45,62]then ⟨1050,1049,1050⟩
 else if s=[44]then ⟨1000,999,1000⟩
 else if s=[61]∨s=[92,61]∨s=[61,61]∨s=[105,115]∨s=[60]∨s=[61,58,61]then ⟨700,699,699⟩
 else if s=[43]∨s=[45]then ⟨500,500,499⟩
 else if s=[42]∨s=[47,47]then ⟨400,400,399⟩
 else ⟨0,0,0⟩
def opV(s:Str):V:= .t [.a [S (if (infixOf s).prio=0 then []else s),I (infixOf s).prio,I (infixOf s).left,I (infixOf s).right],B (decide ((infixOf s).prio ≠ 0))]
set_option maxHeartbeats 2000000 in
theorem impl_InfixOf_ok(s:Str):cr progA F.impl_InfixOf [S s]=some (opV s):=by
 rw [cr_fn pA_impl_InfixOf rfl]
 by_cases h1:s=[58,45]
 ·subst h1;simp (decide:=true) only [go_sem,Nat.reduceAdd,Nat.reduceSub,Nat.reduceMul,Nat.reduceEqDiff,Nat.reduceLeDiff,Nat.reduceBEq,reduceCtorEq,A.impl_InfixOf];rfl
 by_cases h2:s=[45,45,62]
 ·subst h2;simp (decide:=true) only [go_sem,Nat.reduceAdd,Nat.reduceSub,Nat.reduceMul,Nat.reduceEqDiff,Nat.reduceLeDiff,Nat.reduceBEq,reduceCtorEq,A.impl_InfixOf];rfl
 by_cases h3:s=[59]
 ·subst h3;simp (decide:=true) only [go_sem,Nat.reduceAdd,Nat.reduceSub,Nat.reduceMul,Nat.reduceEqDiff,Nat.reduceLeDiff,Nat.reduceBEq,reduceCtorEq,A.impl_InfixOf];rfl
 by_cases h4:s=[45,62]
 ·subst h4;simp (decide:=true) only [go_sem,Nat.reduceAdd,Nat.reduceSub,Nat.reduceMul,Nat.reduceEqDiff,Nat.reduceLeDiff,Nat.reduceBEq,reduceCtorEq,A.impl_InfixOf];rfl
 by_cases h5:s=[44]
 ·subst h5;simp (decide:=true) only [go_sem,Nat.reduceAdd,Nat.reduceSub,Nat.reduceMul,Nat.reduceEqDiff,Nat.reduceLeDiff,Nat.reduceBEq,reduceCtorEq,A.impl_InfixOf];rfl
 by_cases h6:s=[61]
 ·subst h6;simp (decide:=true) only [go_sem,Nat.reduceAdd,Nat.reduceSub,Nat.reduceMul,Nat.reduceEqDiff,Nat.reduceLeDiff,Nat.reduceBEq,reduceCtorEq,A.impl_InfixOf];rfl
 by_cases h7:s=[92,61]
 ·subst h7;simp (decide:=true) only [go_sem,Nat.reduceAdd,Nat.reduceSub,Nat.reduceMul,Nat.reduceEqDiff,Nat.reduceLeDiff,Nat.reduceBEq,reduceCtorEq,A.impl_InfixOf];rfl
 by_cases h8:s=[61,61]
 ·subst h8;simp (decide:=true) only [go_sem,Nat.reduceAdd,Nat.reduceSub,Nat.reduceMul,Nat.reduceEqDiff,Nat.reduceLeDiff,Nat.reduceBEq,reduceCtorEq,A.impl_InfixOf];rfl
 by_cases h9:s=[105,115]
 ·subst h9;simp (decide:=true) only [go_sem,Nat.reduceAdd,Nat.reduceSub,Nat.reduceMul,Nat.reduceEqDiff,Nat.reduceLeDiff,Nat.reduceBEq,reduceCtorEq,A.impl_InfixOf];rfl
 by_cases h10:s=[60]
 ·subst h10;simp (decide:=true) only [go_sem,Nat.reduceAdd,Nat.reduceSub,Nat.reduceMul,Nat.reduceEqDiff,Nat.reduceLeDiff,Nat.reduceBEq,reduceCtorEq,A.impl_InfixOf];rfl
 by_cases h11:s=[61,58,61]
 ·subst h11;simp (decide:=true) only [go_sem,Nat.reduceAdd,Nat.reduceSub,Nat.reduceMul,Nat.reduceEqDiff,Nat.reduceLeDiff,Nat.reduceBEq,reduceCtorEq,A.impl_InfixOf];rfl
 by_cases h12:s=[43]
 ·subst h12;simp (decide:=true) only [go_sem,Nat.reduceAdd,Nat.reduceSub,Nat.reduceMul,Nat.reduceEqDiff,Nat.reduceLeDiff,Nat.reduceBEq,reduceCtorEq,A.impl_InfixOf];rfl
 by_cases h13:s=[45]
 ·subst h13;simp (decide:=true) only [go_sem,Nat.reduceAdd,Nat.reduceSub,Nat.reduceMul,Nat.reduceEqDiff,Nat.reduceLeDiff,Nat.reduceBEq,reduceCtorEq,A.impl_InfixOf];rfl
 by_cases h14:s=[42]
 ·subst h14;simp (decide:=true) only [go_sem,Nat.reduceAdd,Nat.reduceSub,Nat.reduceMul,Nat.reduceEqDiff,Nat.reduceLeDiff,Nat.reduceBEq,reduceCtorEq,A.impl_InfixOf];rfl
 by_cases h15:s=[47,47]
 ·subst h15;simp (decide:=true) only [go_sem,Nat.reduceAdd,Nat.reduceSub,Nat.reduceMul,Nat.reduceEqDiff,Nat.reduceLeDiff,Nat.reduceBEq,reduceCtorEq,A.impl_InfixOf];rfl
 simp only [go_sem,Nat.reduceAdd,Nat.reduceSub,Nat.reduceMul,Nat.reduceEqDiff,Nat.reduceLeDiff,Nat.reduceBEq,reduceCtorEq,A.impl_InfixOf,h1,h2,h3,h4,h5,h6,h7,h8,h9,h10,h11,h12,h13,h14,h15]
 simp [opV,infixOf,h1,h2,h3,h4,h5,h6,h7,h8,h9,h10,h11,h12,h13,h14,h15]
theorem spec_InfixOf_ok(s:Str):cr progA F.spec_InfixOf [S s]=some (opV s):=by
 rw [← impl_InfixOf_ok,cr_fn pA_spec_InfixOf rfl,cr_fn pA_impl_InfixOf rfl];rfl
def prioOf(t:Tm):Int:=if t.kind=4∧t.kids.length=2 then (infixOf t.name).prio else 0
end Go.Vm
set_option autoImplicit false
set_option maxHeartbeats 4000000
set_option maxRecDepth 100000
set_option linter.unusedSimpArgs false
set_option linter.unusedVariables false
namespace Go.Vm
open Go.Lib (itoa join)
def Sg.near'(x:Sg) (b:Bool):Sg:={x with near:=b}
def sgs(s:Str):Nat→Nat→List Sg
 |0,_=>[]
 |n+1,i=>match s[i]? with
  |none=>[]
  |some c=>
   if blankB c=true then sgs s n (i+1)
   else if isB 37 c=true then sgs s n (i+pre (fun d=> !isB 10 d) (s.drop i))
   else (sgn s i c).1.near' (decide (s[(sgn s i c).2]? =some 40))::sgs s n (sgn s i c).2
def signs(s:Str):List Sg:=sgs s s.length 0
theorem pre_lt {p:UInt8→Bool} {s:Str} {i:Nat} (h:i≤s.length):i+pre p (s.drop i)≤s.length:=by
 have:=pre_le p (s.drop i)
 rw [List.length_drop]at this
 omega
theorem pre_pos {p:UInt8→Bool} {s:Str} {i:Nat} {c:UInt8} (hc:s[i]? =some c) (h:p c=true):1≤pre p (s.drop i):=by
 rw [drop_cons' hc,pre,if_pos h];omega
theorem qlen_lt: ∀ {r:Str} {m:Nat},qlen r=some m→m < r.length
 |[],m,h=>by cases h
 |c::r,m,h=>by
  simp only [qlen]at h
  split at h
  ·cases h;simp
  ·rw [Option.map_eq_some_iff]at h
   obtain ⟨k,hk,rfl⟩:=h
   have:=qlen_lt hk
   simp only [List.length_cons];omega
theorem quoted_lt {r:Str} {m:Nat} (h:quoted r=some m):m < r.length∧nameOk (r.take m)=true:=by
 unfold quoted at h
 split at h
 ·rename_i k hk
  split at h
  ·rename_i h2;cases h;exact ⟨qlen_lt hk,h2⟩
  ·cases h
 ·cases h
theorem sgn_end(s:Str) (i:Nat) (c:UInt8) (hc:s[i]? =some c):i < (sgn s i c).2∧(sgn s i c).2≤s.length:=by
 have hi:i < s.length:=(List.getElem?_eq_some_iff.1 hc).1
 have hb:i < (bad s i).2∧(bad s i).2≤s.length:=⟨Nat.lt_succ_self i,hi⟩
 unfold sgn
 split
 ·rename_i h
  split
  ·have h1:=pre_lt (p:=wordB) (s:=s) (i:=i) (by omega)
   have h2:1≤pre wordB (s.drop i):=pre_pos hc (by unfold wordB;rw [h,Bool.true_or])
   exact ⟨by show i < i+_;omega,h1⟩
  ·exact hb
 split
 ·rename_i h
  split
  ·have h1:=pre_lt (p:=inB 48 57) (s:=s) (i:=i) (by omega)
   have h2:1≤pre (inB 48 57) (s.drop i):=pre_pos hc h
   exact ⟨by show i < i+_;omega,h1⟩
  ·exact hb
 split
 ·cases hq:quoted (s.drop (i+1))with
  |none=>exact hb
  |some m=>
   have:=(quoted_lt hq).1
   rw [List.length_drop]at this
   exact ⟨by show i < i+1+m+1;omega,by show i+1+m+1≤_;omega⟩
 split
 ·exact ⟨Nat.lt_succ_self i,hi⟩
 split
 ·exact ⟨Nat.lt_succ_self i,hi⟩
 split
 ·exact ⟨Nat.lt_succ_self i,hi⟩
 split
 ·rename_i h
  split
  ·have h1:=pre_lt (p:=symB) (s:=s) (i:=i) (by omega)
   have h2:1≤pre symB (s.drop i):=pre_pos hc h
   exact ⟨by show i < i+_;omega,h1⟩
  ·exact hb
 ·exact hb
theorem sgs_len(s:Str): ∀ (n i:Nat),(sgs s n i).length≤n
 |0,i=>Nat.le_refl _
 |n+1,i=>by
  simp only [sgs]
  split
  ·simp
  ·rename_i c hc
   split
   ·have:=sgs_len s n (i+1);omega
   split
   ·have:=sgs_len s n (i+pre (fun d=> !isB 10 d) (s.drop i));omega
   ·have:=sgs_len s n (sgn s i c).2
    simp only [List.length_cons];omega
theorem sgs_end(s:Str): ∀ (n i:Nat),s.length≤i→sgs s n i=[]
 |0,i,_=>rfl
 |n+1,i,h=>by simp only [sgs,List.getElem?_eq_none h]
def qText(s:Str):Str:=[39]++s++[39]
def atomText(s:Str):Str:=match signs s with
 |[x]=>if x.kind=1∧x.text=s then s else qText s
 |_=>qText s
theorem atomText_len(s:Str):(atomText s).length≤s.length+2:=by
 have:(qText s).length=s.length+2:=by simp [qText]
 unfold atomText
 split
 ·split<;>omega
 ·omega
def prefixOf(s:Str):Op3:=
 if s=[58,45]then ⟨1200,0,1199⟩else if s=[92,43]then ⟨900,0,900⟩else if s=[45]then ⟨200,0,200⟩else ⟨0,0,0⟩
def preV(s:Str):V:= .t [.a [S (if (prefixOf s).prio=0 then []else s),I (prefixOf s).prio,I (prefixOf s).left,I (prefixOf s).right],B (decide ((prefixOf s).prio ≠ 0))]
def isOp(s:Str):Bool:=decide ((infixOf s).prio ≠ 0)||decide ((prefixOf s).prio ≠ 0)
def signText(s:Str):Str:=if s=[44]then [44]else atomText s
theorem signText_len(s:Str):(signText s).length≤s.length+2:=by
 unfold signText
 split
 ·simp
 ·exact atomText_len s
def hold(p:Bool) (most prio:Int) (s:Str):Str:=if p=true∧most < prio then [40]++s++[41]else s
theorem hold_len(p:Bool) (m q:Int) (s:Str):(hold p m q s).length≤s.length+2:=by
 unfold hold;split<;>simp<;>omega
structure Kd where
 raw:Str
 rest:Str
 prio:Int
def rowOf(p:Bool):List Kd→Option (Kd × Kd)
 |[a,b]=>some (a,b)
 |_=>none
def genW(p:Bool) (s:Str) (ks:List Kd):Str:=atomText s++[40]++join (ks.map fun k=>hold p 999 k.prio k.raw) [44]++[41]
def infW(p:Bool) (s:Str) (a b:Kd):Str:=
 if p=true then hold true (infixOf s).left a.prio a.raw++[32]++signText s++[32]++hold true (infixOf s).right b.prio b.raw
 else [40]++a.raw++[32]++signText s++[32]++b.raw++[41]
def rawW(p:Bool) (k:Int) (s:Str) (n:Int) (ks:List Kd):Str:=
 if k=1 then [95]++itoa n
 else if k=3 then itoa n
 else if k=2 then (if s=[91,93]then [91,93]else if isOp s=true then [40]++atomText s++[41]else atomText s)
 else match ks with
  |[a,b]=>if s=[46]then [91]++hold p 999 a.prio a.raw++b.rest else if (infixOf s).prio ≠ 0 then infW p s a b else genW p s ks
  |_=>genW p s ks
def restW(p:Bool) (k:Int) (s:Str) (prio:Int) (ks:List Kd) (raw:Str):Str:=
 if k=2∧s=[91,93]then [93]
 else match ks with
  |[a,b]=>if k=4∧s=[46]then [44]++hold p 999 a.prio a.raw++b.rest else [124]++hold p 999 prio raw++[93]
  |_=>[124]++hold p 999 prio raw++[93]
mutual
def wk(p:Bool):Tm→Kd
 | .mk k s n ks=>⟨rawW p k s n (wks p ks),restW p k s (prioOf (.mk k s n ks)) (wks p ks) (rawW p k s n (wks p ks)),prioOf (.mk k s n ks)⟩
def wks(p:Bool):List Tm→List Kd
 |[]=>[]
 |t::ts=>wk p t::wks p ts
end
theorem wks_eq(p:Bool): ∀ (ts:List Tm),wks p ts=ts.map (wk p)
 |[]=>rfl
 |t::ts=>by simp only [wks,List.map_cons,wks_eq p ts]
def wr(p:Bool) (t:Tm):Str:=(wk p t).raw
def wrR(p:Bool) (t:Tm):Str:=(wk p t).rest
theorem wk_prio(p:Bool) (t:Tm):(wk p t).prio=prioOf t:=by cases t;rfl
theorem wr_eq(p:Bool) (t:Tm):wr p t=rawW p t.kind t.name t.num (t.kids.map (wk p)):=by
 cases t;simp only [wr,wk,wks_eq];rfl
theorem wrR_eq(p:Bool) (t:Tm):wrR p t=restW p t.kind t.name (prioOf t) (t.kids.map (wk p)) (wr p t):=by
 cases t;simp only [wrR,wr,wk,wks_eq];rfl
def held(p:Bool) (m:Int) (t:Tm):Str:=hold p m (prioOf t) (wr p t)
theorem held_false(m:Int) (t:Tm):held false m t=wr false t:=by unfold held hold;rw [if_neg (by simp)]
theorem rightT_one {d:Int} {t:Tm} (h:rightT d t=true):okOne t=true∧ ∀ u ∈ t.kids,rightT (d+1) u=true:=by
 cases t with
 |mk k s n ks=>
  simp only [rightT,Bool.and_eq_true]at h
  refine ⟨h.2.1, ?_⟩
  have: ∀ ts:List Tm,rightTs (d+1) ts=true→ ∀ u ∈ ts,rightT (d+1) u=true:=by
   intro ts
   induction ts with
   |nil=>intro _ u hu;cases hu
   |cons x xs ih=>
    intro h u hu
    simp only [rightTs,Bool.and_eq_true]at h
    rcases List.mem_cons.1 hu with rfl|hu
    ·exact h.1
    ·exact ih h.2 u hu
  exact this ks h.2.2
theorem okOne_kind {t:Tm} (h:okOne t=true):(t.kind=1∨t.kind=2∨t.kind=3∨t.kind=4)∧t.name.length≤20∧(t.kind=3∨t.kind=1→ -999999999≤t.num∧t.num≤999999999)∧(t.kind=4→1≤t.kids.length∧t.kids.length≤5)∧(t.kind ≠ 4→t.kids=[]):=by
 have hn:nameOk t.name=true→t.name.length≤20:=by
  intro h
  unfold nameOk at h
  simp only [Bool.and_eq_true,decide_eq_true_eq]at h
  exact h.2.2
 have hk:(t.kids.length:Int)=0→t.kids=[]:=fun h=>List.length_eq_zero_iff.1 (by omega)
 unfold okOne at h
 split at h
 ·rename_i k
  simp only [Bool.and_eq_true,decide_eq_true_eq]at h
  refine ⟨.inl k,by rw [h.2.1];simp,fun _=>by omega,fun e=>by omega,fun _=>hk h.2.2⟩
 split at h
 ·rename_i k
  simp only [Bool.and_eq_true,decide_eq_true_eq]at h
  refine ⟨.inr (.inl k),hn h.1,fun e=>by omega,fun e=>by omega,fun _=>hk h.2.2⟩
 split at h
 ·rename_i k
  simp only [Bool.and_eq_true,decide_eq_true_eq]at h
  refine ⟨.inr (.inr (.inl k)),by rw [h.2.1];simp,fun _=>by omega,fun e=>by omega,fun _=>hk h.2.2⟩
 split at h
 ·rename_i k
  simp only [Bool.and_eq_true,decide_eq_true_eq]at h
  refine ⟨.inr (.inr (.inr k)),hn h.1,fun e=>by omega,fun _=>by omega,fun e=>absurd k e⟩
 ·cases h
theorem joinTail_len(p:Str): ∀ (ss:List Str),(Go.Lib.joinTail p ss).length=(ss.map fun s=>s.length+p.length).sum
 |[]=>rfl
 |s::ss=>by
  have:=joinTail_len p ss
  unfold Go.Lib.joinTail at this ⊢
  simp only [List.map_cons,List.flatten_cons,List.length_append,List.sum_cons,this]
  omega
theorem join_len(p:Str): ∀ (ss:List Str),(join ss p).length≤(ss.map fun s=>s.length+p.length).sum
 |[]=>by rw [Go.Lib.join_nil];exact Nat.zero_le _
 |s::ss=>by
  rw [Go.Lib.join_cons,List.length_append,joinTail_len,List.map_cons,List.sum_cons];omega
theorem wr_len(p:Bool): ∀ (t:Tm) (d:Int),rightT d t=true→(wr p t).length+10≤60*nT t∧(wrR p t).length≤60*nT t:=by
 refine Tm.ind ?_
 intro k s n ks ih d h
 obtain ⟨ho,hks⟩:=rightT_one h
 obtain ⟨-,hs,hn,-,-⟩:=okOne_kind ho
 simp only [Tm.kind_mk,Tm.name_mk,Tm.num_mk,Tm.kids_mk]at hs hn hks
 have hat:=atomText_len s
 have hst:=signText_len s
 have hg:(genW p s (ks.map (wk p))).length≤24+60*nTs ks:=by
  unfold genW
  have h1:=join_len [44] ((ks.map (wk p)).map fun k=>hold p 999 k.prio k.raw)
  have h2: ∀ (l:List Tm),(∀ u ∈ l,(wr p u).length+10≤60*nT u)→(((l.map (wk p)).map fun k=>hold p 999 k.prio k.raw).map fun s=>s.length+([44]:Str).length).sum≤60*nTs l:=by
   intro l
   induction l with
   |nil=>intro _;simp [nTs]
   |cons x xs ihx=>
    intro hl
    have h3:=ihx fun u hu=>hl u (by simp [hu])
    have h4:=hl x (by simp)
    have h5:=hold_len p 999 (wk p x).prio (wk p x).raw
    simp only [List.map_cons,List.sum_cons,List.length_cons,List.length_nil,nTs]at h3 ⊢
    unfold wr at h4
    omega
  have h3:=h2 ks fun u hu=>(ih u hu (d+1) (hks u hu)).1
  simp only [List.length_append,List.length_cons,List.length_nil]
  omega
 have hraw:(wr p (.mk k s n ks)).length+10≤60*nT (.mk k s n ks):=by
  rw [wr_eq]
  simp only [Tm.kind_mk,Tm.name_mk,Tm.num_mk,Tm.kids_mk,nT]
  unfold rawW
  split
  ·have:=itoa_len n (by omega) (by omega)
   simp only [List.length_append,List.length_cons,List.length_nil];omega
  split
  ·have:=itoa_len n (by omega) (by omega)
   omega
  split
  ·split
   ·simp only [List.length_cons,List.length_nil];omega
   split
   ·simp only [List.length_append,List.length_cons,List.length_nil];omega
   ·omega
  split
  ·rename_i a b hab
   rcases ks with _|⟨x,_|⟨y,_|⟨z,r⟩⟩⟩<;>simp at hab
   obtain ⟨rfl,rfl⟩:=hab
   have hx:=ih x (by simp) (d+1) (hks x (by simp))
   have hy:=ih y (by simp) (d+1) (hks y (by simp))
   unfold wr wrR at hx hy
   have hl1:=hold_len p 999 (wk p x).prio (wk p x).raw
   simp only [nTs]
   split
   ·simp only [List.length_append,List.length_cons,List.length_nil];omega
   split
   ·unfold infW
    have hl2:=hold_len true (infixOf s).left (wk p x).prio (wk p x).raw
    have hl3:=hold_len true (infixOf s).right (wk p y).prio (wk p y).raw
    split<;>simp only [List.length_append,List.length_cons,List.length_nil]<;>omega
   ·simp only [nTs,List.map_cons,List.map_nil]at hg ⊢;omega
  ·omega
 refine ⟨hraw, ?_⟩
 rw [wrR_eq]
 have hh:=hold_len p 999 (prioOf (.mk k s n ks)) (wr p (.mk k s n ks))
 simp only [Tm.kind_mk,Tm.name_mk,Tm.kids_mk]
 unfold restW
 split
 ·have:=nT_pos (.mk k s n ks);simp only [List.length_cons,List.length_nil];omega
 split
 ·rename_i a b hab
  rcases ks with _|⟨x,_|⟨y,_|⟨z,r⟩⟩⟩<;>simp at hab
  obtain ⟨rfl,rfl⟩:=hab
  have hx:=ih x (by simp) (d+1) (hks x (by simp))
  have hy:=ih y (by simp) (d+1) (hks y (by simp))
  unfold wr wrR at hx hy
  have hl1:=hold_len p 999 (wk p x).prio (wk p x).raw
  split
  ·simp only [List.length_append,List.length_cons,List.length_nil,nT,nTs];omega
  ·simp only [List.length_append,List.length_cons,List.length_nil];omega
 ·simp only [List.length_append,List.length_cons,List.length_nil];omega
end Go.Vm
set_option autoImplicit false
set_option maxHeartbeats 4000000
set_option maxRecDepth 100000
set_option linter.unusedSimpArgs false
set_option linter.unusedVariables false
namespace Go.Vm
theorem ssl_sub(s:Str) (a b:Nat) (h:a≤b) (hb:b≤s.length):sslV (S s) (some (I a)) (some (I b))=some (S (subs s a b)):=by
 have h1:bound1 0 (some (I a))=some (a:Int):=rfl
 have h2:bound1 s.length (some (I b))=some (b:Int):=rfl
 rw [ssl_S h1 h2 (by omega) (by omega) (by omega)]
 rfl
theorem l05Quoted_loop(s:Str) (hl:s.length≤2^61) (at_:Nat) (m:Nat): ∀ i,i+m=s.length→at_+1≤i→
 lw progA L.spec_l05Quoted_0 ⟨[(0,S s),(1,I at_),(5,I i)],[]⟩=match qlen (s.drop i)with
  |none=>some (.exit 0,⟨[],[]⟩)
  |some k=>some (.ret,⟨[(4,I (if nameOk (subs s (at_+1) (i+k))=true then ((i+k+1:Nat):Int)else 0))],[]⟩):=by
 induction m with
 |zero=>
  intro i hi ha
  rw [List.drop_eq_nil_of_le (by omega),lw_eq]
  have h: ¬ (i:Int) < s.length:=by omega
  simp only [qlen]
  simp only [go_sem,Nat.reduceAdd,Nat.reduceSub,Nat.reduceMul,Nat.reduceEqDiff,Nat.reduceLeDiff,Nat.reduceBEq,reduceCtorEq,LB.spec_l05Quoted_0,h]
 |succ m ih=>
  intro i hi ha
  have h:(i:Int) < s.length:=by omega
  obtain ⟨c,hc⟩:=get_some' (l:=s) (i:=i) (by omega)
  have ix:=ix_S (l:=s) (i:=(i:Int)) (c:=c) (by omega) (by simpa using hc)
  have e1:w64 ((i:Int)+1)=((i+1:Nat):Int):=by rw [w64_id]<;>omega
  have e2:w64 ((at_:Int)+1)=((at_+1:Nat):Int):=by rw [w64_id]<;>omega
  rw [drop_cons' hc,lw_eq]
  simp only [qlen]
  by_cases h39:isB 39 c=true
  ·have d:decide ((c.toNat:Int)=39)=true:=h39
   rw [if_pos h39]
   have sl:=ssl_sub s (at_+1) i ha (by omega)
   have nm:=l03Name_ok (subs s (at_+1) i) (by unfold subs;simp only [List.length_drop,List.length_take];omega)
   simp only [Nat.add_zero]
   cases hn:nameOk (subs s (at_+1) i)with
   |true=>rw [hn]at nm;rw [if_pos rfl];simp only [go_sem,Nat.reduceAdd,Nat.reduceSub,Nat.reduceMul,Nat.reduceEqDiff,Nat.reduceLeDiff,Nat.reduceBEq,reduceCtorEq,LB.spec_l05Quoted_0,h,ix,e1,e2,d,sl,nm]
   |false=>rw [hn]at nm;rw [if_neg (by decide)];simp only [go_sem,Nat.reduceAdd,Nat.reduceSub,Nat.reduceMul,Nat.reduceEqDiff,Nat.reduceLeDiff,Nat.reduceBEq,reduceCtorEq,LB.spec_l05Quoted_0,h,ix,e1,e2,d,sl,nm]
  ·have d:decide ((c.toNat:Int)=39)=false:=by simpa [isB]using h39
   have i1:=ih (i+1) (by omega) (by omega)
   rw [if_neg h39]
   have hq: ∀ k,i+1+k=i+(k+1):=fun k=>by omega
   cases hk:qlen (s.drop (i+1))with
   |none=>
    rw [hk]at i1
    simp only [Option.map_none]at i1 ⊢
    simp only [go_sem,Nat.reduceAdd,Nat.reduceSub,Nat.reduceMul,Nat.reduceEqDiff,Nat.reduceLeDiff,Nat.reduceBEq,reduceCtorEq,LB.spec_l05Quoted_0,h,ix,e1,d]
    exact i1
   |some k=>
    rw [hk]at i1
    simp only [Option.map_some,hq]at i1 ⊢
    simp only [go_sem,Nat.reduceAdd,Nat.reduceSub,Nat.reduceMul,Nat.reduceEqDiff,Nat.reduceLeDiff,Nat.reduceBEq,reduceCtorEq,LB.spec_l05Quoted_0,h,ix,e1,d]
    exact i1
def quotedV(s:Str) (i:Nat):Int:=match quoted (s.drop (i+1))with
 |some k=>((i+1+k+1:Nat):Int)
 |none=>0
theorem l05Quoted_ok(s:Str) (hl:s.length≤2^61) (i:Nat) (hi:i < s.length):cr progA F.spec_l05Quoted [S s,I i]=some (I (quotedV s i)):=by
 have h:=l05Quoted_loop s hl i (s.length - (i+1)) (i+1) (by omega) (Nat.le_refl _)
 have e2:w64 ((i:Int)+1)=((i+1:Nat):Int):=by rw [w64_id]<;>omega
 rw [cr_fn pA_spec_l05Quoted rfl]
 unfold quotedV quoted
 cases hk:qlen (s.drop (i+1))with
 |none=>
  rw [hk]at h
  simp only at h
  simp only [go_sem,Nat.reduceAdd,Nat.reduceSub,Nat.reduceMul,Nat.reduceEqDiff,Nat.reduceLeDiff,Nat.reduceBEq,reduceCtorEq,A.spec_l05Quoted,e2,h]
 |some k=>
  rw [hk]at h
  have hs:subs s (i+1) (i+1+k)=(s.drop (i+1)).take k:=by
   unfold subs;rw [List.drop_take,Nat.add_sub_cancel_left]
  simp only [hs]at h
  simp only
  by_cases hn:nameOk ((s.drop (i+1)).take k)=true
  ·rw [if_pos hn]at h;simp only [if_pos hn];simp only [go_sem,Nat.reduceAdd,Nat.reduceSub,Nat.reduceMul,Nat.reduceEqDiff,Nat.reduceLeDiff,Nat.reduceBEq,reduceCtorEq,A.spec_l05Quoted,e2,h]
  ·rw [if_neg hn]at h;simp only [if_neg hn];simp only [go_sem,Nat.reduceAdd,Nat.reduceSub,Nat.reduceMul,Nat.reduceEqDiff,Nat.reduceLeDiff,Nat.reduceBEq,reduceCtorEq,A.spec_l05Quoted,e2,h]
theorem sgnSym_loop(s:Str) (hl:s.length≤2^61) (i:Nat) (e:Nat) (x:Str) (m:Nat): ∀ n,n+m=s.length→
 lw progA L.spec_l05Sign_0 ⟨[(0,S s),(1,I i),(4,.p (100000,0) 0 0),(7,.p (100000,1) 0 0),(8,I e),(13,I n)],[((100000,0),5,[.a [I 0,S [],I 0,I 0,B false]]),((100000,1),5,[.a [I 6,S x,I 0,I i,B false]])]⟩=some (.exit 3,⟨[(0,S s),(1,I i),(4,.p (100000,0) 0 0),(7,.p (100000,1) 0 0),(8,I e),(13,I ((n+pre symB (s.drop n):Nat):Int))],[((100000,0),5,[.a [I 0,S [],I 0,I 0,B false]]),((100000,1),5,[.a [I 6,S x,I 0,I i,B false]])]⟩):=by
 induction m with
 |zero=>
  intro n hn
  rw [List.drop_eq_nil_of_le (by omega),lw_eq]
  have h: ¬ (n:Int) < s.length:=by omega
  simp only [go_sem,Nat.reduceAdd,Nat.reduceSub,Nat.reduceMul,Nat.reduceEqDiff,Nat.reduceLeDiff,Nat.reduceBEq,reduceCtorEq,LB.spec_l05Sign_0,h,pre]
 |succ m ih=>
  intro n hn
  have h:(n:Int) < s.length:=by omega
  obtain ⟨c,hc⟩:=get_some' (l:=s) (i:=n) (by omega)
  have ix:=ix_S (l:=s) (i:=(n:Int)) (c:=c) (by omega) (by simpa using hc)
  have w:=spec_SymbolByte_ok c
  have e1:w64 ((n:Int)+1)=((n+1:Nat):Int):=by rw [w64_id]<;>omega
  rw [drop_cons' hc,lw_eq,pre]
  cases hw:symB c with
  |true=>
   rw [hw]at w
   have i1:=ih (n+1) (by omega)
   rw [if_pos rfl,show n+(pre symB (s.drop (n+1))+1)=n+1+pre symB (s.drop (n+1))by omega]
   simp only [go_sem,Nat.reduceAdd,Nat.reduceSub,Nat.reduceMul,Nat.reduceEqDiff,Nat.reduceLeDiff,Nat.reduceBEq,reduceCtorEq,LB.spec_l05Sign_0,h,ix,w,e1]
   exact i1
  |false=>
   rw [hw]at w
   rw [if_neg (by decide)]
   simp only [go_sem,Nat.reduceAdd,Nat.reduceSub,Nat.reduceMul,Nat.reduceEqDiff,Nat.reduceLeDiff,Nat.reduceBEq,reduceCtorEq,LB.spec_l05Sign_0,h,ix,w,e1]
theorem sgnNum_loop(s:Str) (hl:s.length≤2^61) (i:Nat) (e:Nat) (x:Str) (m:Nat): ∀ (n:Nat) (a:Int),n+m=s.length→0≤a→a≤9999999999→
 lw progA L.spec_l05Sign_1 ⟨[(0,S s),(1,I i),(4,.p (100000,0) 0 0),(7,.p (100000,1) 0 0),(8,I e),(10,I n),(11,I a)],[((100000,0),5,[.a [I 0,S [],I 0,I 0,B false]]),((100000,1),5,[.a [I 6,S x,I 0,I i,B false]])]⟩=some (.exit 1,⟨[(1,I i),(4,.p (100000,0) 0 0),(7,.p (100000,1) 0 0),(8,I e),(10,I ((n+nk (s.drop n) a:Nat):Int)),(11,I (nf (s.drop n) a))],[((100000,0),5,[.a [I 0,S [],I 0,I 0,B false]]),((100000,1),5,[.a [I 6,S x,I 0,I i,B false]])]⟩):=by
 induction m with
 |zero=>
  intro n a hn h0 h1
  rw [List.drop_eq_nil_of_le (by omega),lw_eq]
  have h: ¬ (n:Int) < s.length:=by omega
  simp only [go_sem,Nat.reduceAdd,Nat.reduceSub,Nat.reduceMul,Nat.reduceEqDiff,Nat.reduceLeDiff,Nat.reduceBEq,reduceCtorEq,LB.spec_l05Sign_1,h,nf,nk]
 |succ m ih=>
  intro n a hn h0 h1
  have h:(n:Int) < s.length:=by omega
  obtain ⟨c,hc⟩:=get_some' (l:=s) (i:=n) (by omega)
  have ix:=ix_S (l:=s) (i:=(n:Int)) (c:=c) (by omega) (by simpa using hc)
  have w:=l05Figure_ok c
  have e1:w64 ((n:Int)+1)=((n+1:Nat):Int):=by rw [w64_id]<;>omega
  rw [drop_cons' hc,lw_eq,nf,nk]
  cases hw:inB 48 57 c with
  |true=>
   rw [hw]at w
   have hb:=hw
   simp only [inB,Bool.and_eq_true,decide_eq_true_eq]at hb
   by_cases ha:a≤999999999
   ·have da:decide (a≤999999999)=true:=decide_eq_true ha
    have i1:=ih (n+1) (10*a+c.toNat - 48) (by omega) (by omega) (by omega)
    have e3:w64 (10*a)=10*a:=by rw [w64_id]<;>omega
    have e4:w64 (c.toNat:Int)=c.toNat:=by rw [w64_id]<;>omega
    have e5:w64 (10*a+c.toNat)=10*a+c.toNat:=by rw [w64_id]<;>omega
    have e6:w64 (10*a+c.toNat - 48)=10*a+c.toNat - 48:=by rw [w64_id]<;>omega
    rw [da,Bool.and_self,if_pos rfl,if_pos rfl,show n+(nk (s.drop (n+1)) (10*a+c.toNat - 48)+1)=n+1+nk (s.drop (n+1)) (10*a+c.toNat - 48)by omega]
    simp only [go_sem,Nat.reduceAdd,Nat.reduceSub,Nat.reduceMul,Nat.reduceEqDiff,Nat.reduceLeDiff,Nat.reduceBEq,reduceCtorEq,LB.spec_l05Sign_1,h,ix,w,e1,da,ha,e3,e4,e5,e6]
    exact i1
   ·have da:decide (a≤999999999)=false:=decide_eq_false ha
    rw [da,Bool.and_false,if_neg (by decide),if_neg (by decide)]
    simp only [go_sem,Nat.reduceAdd,Nat.reduceSub,Nat.reduceMul,Nat.reduceEqDiff,Nat.reduceLeDiff,Nat.reduceBEq,reduceCtorEq,LB.spec_l05Sign_1,h,ix,w,e1,da,ha,Nat.add_zero]
  |false=>
   rw [hw]at w
   rw [Bool.false_and,if_neg (by decide),if_neg (by decide)]
   simp only [go_sem,Nat.reduceAdd,Nat.reduceSub,Nat.reduceMul,Nat.reduceEqDiff,Nat.reduceLeDiff,Nat.reduceBEq,reduceCtorEq,LB.spec_l05Sign_1,h,ix,w,e1,Nat.add_zero]
end Go.Vm
set_option autoImplicit false
set_option maxHeartbeats 8000000
set_option maxRecDepth 100000
set_option linter.unusedSimpArgs false
set_option linter.unusedVariables false
namespace Go.Vm
open Go.Lib (indexByte)
theorem subs_one {s:Str} {i:Nat} {c:UInt8} (hc:s[i]? =some c):subs s i (i+1)=[c]:=by
 unfold subs
 rw [List.drop_take,drop_cons' hc,Nat.add_sub_cancel_left]
 rfl
theorem subs_len {s:Str} {i n:Nat} (h:i+n≤s.length):(subs s i (i+n)).length=n:=by
 unfold subs;simp only [List.length_drop,List.length_take];omega
theorem isB_eq {n:Nat} {c:UInt8} (h:isB n c=true):c=UInt8.ofNat n:=by
 unfold isB at h
 have h1:(c.toNat:Int)=n:=of_decide_eq_true h
 have h2:c.toNat=n:=by omega
 rw [← h2];simp
theorem sym_excl {c:UInt8} (h:symB c=true):(inB 97 122 c||greatB c)=false∧inB 48 57 c=false∧isB 39 c=false∧(isB 33 c||isB 59 c)=false∧(isB 40 c||isB 41 c||isB 91 c||isB 93 c||isB 44 c||isB 124 c)=false:=by
 unfold symB at h
 have h1:c ∈ syms:=of_decide_eq_true h
 have h2:syms.all (fun c=> !(inB 97 122 c||greatB c)&& !inB 48 57 c&& !isB 39 c&& !(isB 33 c||isB 59 c)&& !(isB 40 c||isB 41 c||isB 91 c||isB 93 c||isB 44 c||isB 124 c))=true:=by decide
 have h3:=List.all_eq_true.1 h2 c h1
 simp only [Bool.and_eq_true,Bool.not_eq_true']at h3
 exact ⟨h3.1.1.1.1,h3.1.1.1.2,h3.1.1.2,h3.1.2,h3.2⟩
theorem end_sym {s:Str} {i:Nat} {c:UInt8} (h:endB s i c=true):c=46∧symB c=true:=by
 unfold endB at h
 simp only [Bool.and_eq_true]at h
 have:c=46:=isB_eq (n:=46) h.1
 subst this
 exact ⟨rfl,by decide⟩
def sgn2(s:Str) (i:Nat) (c:UInt8):Sg × Nat:=
 if endB s i c=true then (⟨5,[46],0,i,false⟩,i+1)
 else if (inB 97 122 c||greatB c)=true then
  if pre wordB (s.drop i)≤20 then (⟨if greatB c=true then 2 else 1,subs s i (i+pre wordB (s.drop i)),0,i,false⟩,i+pre wordB (s.drop i))else bad s i
 else if inB 48 57 c=true then
  if nf (s.drop i) 0≤999999999 then (⟨3,[],nf (s.drop i) 0,i,false⟩,i+pre (inB 48 57) (s.drop i))else bad s i
 else if symB c=true then
  if pre symB (s.drop i)≤20 then (⟨1,subs s i (i+pre symB (s.drop i)),0,i,false⟩,i+pre symB (s.drop i))else bad s i
 else if (isB 33 c||isB 59 c)=true then (⟨1,subs s i (i+1),0,i,false⟩,i+1)
 else if (isB 40 c||isB 41 c||isB 91 c||isB 93 c||isB 44 c||isB 124 c)=true then (⟨4,subs s i (i+1),0,i,false⟩,i+1)
 else if isB 39 c=true then
  match quoted (s.drop (i+1))with
  |some m=>(⟨1,subs s (i+1) (i+1+m),0,i,false⟩,i+1+m+1)
  |none=>bad s i
 else bad s i
theorem sgn_eq {s:Str} {i:Nat} {c:UInt8} (hc:s[i]? =some c):sgn s i c=sgn2 s i c:=by
 unfold sgn sgn2
 by_cases hE:endB s i c=true
 ·obtain ⟨h46,hs⟩:=end_sym hE
  obtain ⟨h1,h2,h3,h4,h5⟩:=sym_excl hs
  rw [h1,h2,h3,h4,h5,if_pos hE,if_pos hE,subs_one hc,h46]
  rfl
 rw [if_neg hE,if_neg hE]
 by_cases hY:symB c=true
 ·obtain ⟨h1,h2,h3,h4,h5⟩:=sym_excl hY
  rw [h1,h2,h3,h4,h5,if_pos hY,if_pos hY]
  rfl
 rw [if_neg hY,if_neg hY]
 by_cases h1:(inB 97 122 c||greatB c)=true
 ·rw [if_pos h1,if_pos h1]
 rw [if_neg h1,if_neg h1]
 by_cases h2:inB 48 57 c=true
 ·rw [if_pos h2,if_pos h2]
 rw [if_neg h2,if_neg h2]
 by_cases h3:isB 39 c=true
 ·have:=isB_eq (n:=39) h3
  subst this
  rw [if_pos (show isB 39 (UInt8.ofNat 39)=true by decide)]
  rfl
 ·rw [if_neg h3,if_neg h3]
theorem okByte39:okByte 39=false:=by decide
theorem qlen_pre: ∀ (r:Str),r[pre okByte r]? =some 39→qlen r=some (pre okByte r)∧okBytes (r.take (pre okByte r))=true
 |[],h=>by simp at h
 |c::r,h=>by
  simp only [pre]at h ⊢
  by_cases hc:okByte c=true
  ·rw [if_pos hc]at h ⊢
   rw [List.getElem?_cons_succ]at h
   obtain ⟨h1,h2⟩:=qlen_pre r h
   have h3:isB 39 c=false:=by
    cases hi:isB 39 c with
    |false=>rfl
    |true=>have:=isB_eq (n:=39) hi;subst this;cases hc
   refine ⟨by simp only [qlen,h3,h1,Bool.false_eq_true,if_false,Option.map_some], ?_⟩
   unfold okBytes at h2 ⊢
   rw [List.take_succ_cons,List.all_cons,hc,h2];rfl
  ·rw [if_neg hc]at h ⊢
   simp only [List.getElem?_cons_zero,Option.some.injEq]at h
   subst h
   exact ⟨rfl,rfl⟩
theorem pre_qlen: ∀ (r:Str) (k:Nat),qlen r=some k→okBytes (r.take k)=true→pre okByte r=k∧r[k]? =some 39
 |[],k,h,_=>by cases h
 |c::r,k,h,h2=>by
  simp only [qlen]at h
  split at h
  ·rename_i h3
   cases h
   have:=isB_eq (n:=39) h3
   subst this
   exact ⟨rfl,rfl⟩
  ·rw [Option.map_eq_some_iff]at h
   obtain ⟨m,hm,rfl⟩:=h
   unfold okBytes at h2
   rw [List.take_succ_cons,List.all_cons,Bool.and_eq_true]at h2
   obtain ⟨h4,h5⟩:=pre_qlen r m hm h2.2
   refine ⟨by simp only [pre,h2.1,if_true,h4],by rw [List.getElem?_cons_succ];exact h5⟩
theorem quoted_pre(r:Str):quoted r=if r[pre okByte r]? =some 39∧1≤pre okByte r∧pre okByte r≤20 then some (pre okByte r)else none:=by
 have hl: ∀ k,k < r.length→(r.take k).length=k:=fun k h=>by rw [List.length_take];omega
 unfold quoted
 by_cases h:r[pre okByte r]? =some 39
 ·obtain ⟨h1,h2⟩:=qlen_pre r h
  have h3:=hl _ (qlen_lt h1)
  rw [h1]
  simp only [nameOk,h2,Bool.true_and,decide_eq_true_eq,h3,h,true_and]
 ·rw [if_neg fun h'=>h h'.1]
  split
  ·rename_i k hk
   split
   ·rename_i hn
    unfold nameOk at hn
    rw [Bool.and_eq_true]at hn
    obtain ⟨h4,h5⟩:=pre_qlen r k hk hn.1
    rw [h4]at h
    exact absurd h5 h
   ·rfl
  ·rfl
theorem marks_ixb(c:UInt8):decide (0≤indexByte [40,41,91,93,44,124] c)=(isB 40 c||isB 41 c||isB 91 c||isB 93 c||isB 44 c||isB 124 c):=by
 have h:=ixb_mem [40,41,91,93,44,124] c
 have e: ∀ n:Nat,n < 256→(isB n c=true↔c=UInt8.ofNat n):=fun n hn=>⟨isB_eq,by
  rintro rfl
  unfold isB
  refine decide_eq_true ?_
  rw [UInt8.toNat_ofNat']
  omega⟩
 have e40:=e 40 (by decide)
 have e41:=e 41 (by decide)
 have e91:=e 91 (by decide)
 have e93:=e 93 (by decide)
 have e44:=e 44 (by decide)
 have e124:=e 124 (by decide)
 rw [Bool.eq_iff_iff,decide_eq_true_iff,h]
 simp only [Bool.or_eq_true]
 simp only [Int.cast_ofNat_Int]at e40 e41 e91 e93 e44 e124
 rw [e40,e41,e91,e93,e44,e124]
 simp only [List.mem_cons,List.not_mem_nil,or_false,or_assoc]
 rfl
theorem lower_great {c:UInt8} (h:inB 97 122 c=true):greatB c=false:=by
 unfold inB at h
 simp only [Bool.and_eq_true,decide_eq_true_eq]at h
 unfold greatB inB isB
 simp only [Bool.or_eq_false_iff,Bool.and_eq_false_iff,decide_eq_false_iff_not]
 omega
end Go.Vm
set_option autoImplicit false
set_option maxHeartbeats 8000000
set_option maxRecDepth 100000
set_option linter.unusedSimpArgs false
set_option linter.unusedVariables false
namespace Go.Vm
theorem l05Sign_ok(s:Str) (hl:s.length≤2^61) (i:Nat) (c:UInt8) (hc:s[i]? =some c):
 cr progA F.spec_l05Sign [S s,I i]=some (.t [(sgn s i c).1.v,I (sgn s i c).2]):=by
 have hi:i < s.length:=(List.getElem?_eq_some_iff.1 hc).1
 have ix:=ix_S (l:=s) (i:=(i:Int)) (c:=c) (by omega) (by simpa using hc)
 have e1:w64 ((i:Int)+1)=((i+1:Nat):Int):=by rw [w64_id]<;>omega
 have sl:=ssl_sub s i (i+1) (by omega) (by omega)
 have cS:=l05Small_ok c
 have cG:=l05Great_ok c
 have cF:=l05Figure_ok c
 have cY:=spec_SymbolByte_ok c
 have cE:=l05End_ok s hl i c hc
 rw [cr_fn pA_spec_l05Sign rfl]
 by_cases hw:(inB 97 122 c||greatB c)=true
 ·have hr:=l05Run_ok s hl i (by omega)
  have hp:=pre_lt (p:=wordB) (s:=s) (i:=i) (by omega)
  have e2:w64 (((i+pre wordB (s.drop i):Nat):Int) - i)=(pre wordB (s.drop i):Nat):=by rw [w64_id]<;>omega
  have sl2:=ssl_sub s i (i+pre wordB (s.drop i)) (by omega) hp
  unfold sgn
  rw [if_pos hw]
  by_cases h20:pre wordB (s.drop i)≤20
  ·have h20':((pre wordB (s.drop i):Nat):Int)≤20:=by omega
   rw [if_pos h20]
   cases hS:inB 97 122 c<;>cases hG:greatB c<;>rw [hS]at cS<;>rw [hG]at cG<;>rw [hS,hG]at hw
   ·cases hw
   all_goals simp only [go_sem,Nat.reduceAdd,Nat.reduceSub,Nat.reduceMul,Nat.reduceEqDiff,Nat.reduceLeDiff,Nat.reduceBEq,reduceCtorEq,A.spec_l05Sign,ix,e1,sl,cS,cG,hr,e2,h20',sl2,Sg.v]
  ·have h20': ¬ ((pre wordB (s.drop i):Nat):Int)≤20:=by omega
   rw [if_neg h20]
   cases hS:inB 97 122 c<;>cases hG:greatB c<;>rw [hS]at cS<;>rw [hG]at cG<;>rw [hS,hG]at hw
   ·cases hw
   all_goals simp only [go_sem,Nat.reduceAdd,Nat.reduceSub,Nat.reduceMul,Nat.reduceEqDiff,Nat.reduceLeDiff,Nat.reduceBEq,reduceCtorEq,A.spec_l05Sign,ix,e1,sl,cS,cG,hr,e2,h20',sl2,Sg.v,bad]
 have hw':=hw
 simp only [Bool.not_eq_true,Bool.or_eq_false_iff]at hw'
 rw [hw'.1]at cS
 rw [hw'.2]at cG
 unfold sgn
 rw [if_neg hw]
 by_cases hF:inB 48 57 c=true
 ·rw [hF]at cF
  rw [if_pos hF]
  have h:=sgnNum_loop s hl i (i+1) (subs s i (i+1)) (s.length - i) i 0 (by omega) (by decide) (by decide)
  by_cases hn:nf (s.drop i) 0≤999999999
  ·have hk:=nk_pre (s.drop i) 0 (by decide) hn
   rw [if_pos hn]
   rw [hk]at h
   simp only [go_sem,Nat.reduceAdd,Nat.reduceSub,Nat.reduceMul,Nat.reduceEqDiff,Nat.reduceLeDiff,Nat.reduceBEq,reduceCtorEq,A.spec_l05Sign,ix,e1,sl,cS,cG,cF,h,hn,Sg.v]
  ·rw [if_neg hn]
   simp only [go_sem,Nat.reduceAdd,Nat.reduceSub,Nat.reduceMul,Nat.reduceEqDiff,Nat.reduceLeDiff,Nat.reduceBEq,reduceCtorEq,A.spec_l05Sign,ix,e1,sl,cS,cG,cF,h,hn,Sg.v,bad]
 have hF':inB 48 57 c=false:=by simpa using hF
 rw [hF']at cF
 rw [if_neg hF]
 by_cases h39:isB 39 c=true
 ·have d39:decide ((c.toNat:Int)=39)=true:=h39
  rw [if_pos h39]
  have hq:=l05Quoted_ok s hl i hi
  unfold quotedV at hq
  cases hk:quoted (s.drop (i+1))with
  |none=>
   rw [hk]at hq
   simp only [go_sem,Nat.reduceAdd,Nat.reduceSub,Nat.reduceMul,Nat.reduceEqDiff,Nat.reduceLeDiff,Nat.reduceBEq,reduceCtorEq,A.spec_l05Sign,ix,e1,sl,cS,cG,cF,d39,hq,Sg.v,bad]
  |some k=>
   rw [hk]at hq
   have hlt:=(quoted_lt hk).1
   rw [List.length_drop]at hlt
   have e2:w64 (((i+1+k+1:Nat):Int) - 1)=((i+1+k:Nat):Int):=by rw [w64_id]<;>omega
   have sl2:=ssl_sub s (i+1) (i+1+k) (by omega) (by omega)
   have h0:(0:Int) < ((i+1+k+1:Nat):Int):=by omega
   simp only [go_sem,Nat.reduceAdd,Nat.reduceSub,Nat.reduceMul,Nat.reduceEqDiff,Nat.reduceLeDiff,Nat.reduceBEq,reduceCtorEq,A.spec_l05Sign,ix,e1,sl,cS,cG,cF,d39,hq,e2,sl2,h0,Sg.v]
 have d39:decide ((c.toNat:Int)=39)=false:=by simpa [isB]using h39
 rw [if_neg h39]
 by_cases hA:(isB 33 c||isB 59 c)=true
 ·rw [if_pos hA]
  cases h33:decide ((c.toNat:Int)=33)with
  |true=>simp only [go_sem,Nat.reduceAdd,Nat.reduceSub,Nat.reduceMul,Nat.reduceEqDiff,Nat.reduceLeDiff,Nat.reduceBEq,reduceCtorEq,A.spec_l05Sign,ix,e1,sl,cS,cG,cF,d39,h33,Sg.v]
  |false=>
   have h59:decide ((c.toNat:Int)=59)=true:=by unfold isB at hA;rw [h33]at hA;exact hA
   simp only [go_sem,Nat.reduceAdd,Nat.reduceSub,Nat.reduceMul,Nat.reduceEqDiff,Nat.reduceLeDiff,Nat.reduceBEq,reduceCtorEq,A.spec_l05Sign,ix,e1,sl,cS,cG,cF,d39,h33,h59,Sg.v]
 have hA':=hA
 unfold isB at hA'
 simp only [Bool.not_eq_true,Bool.or_eq_false_iff]at hA'
 have h33:=hA'.1
 have h59:=hA'.2
 rw [if_neg hA]
 by_cases hM:(isB 40 c||isB 41 c||isB 91 c||isB 93 c||isB 44 c||isB 124 c)=true
 ·rw [if_pos hM]
  unfold isB at hM
  cases h40:decide ((c.toNat:Int)=40)with
  |true=>simp only [go_sem,Nat.reduceAdd,Nat.reduceSub,Nat.reduceMul,Nat.reduceEqDiff,Nat.reduceLeDiff,Nat.reduceBEq,reduceCtorEq,A.spec_l05Sign,ix,e1,sl,cS,cG,cF,d39,h33,h59,h40,Sg.v]
  |false=>
  cases h41:decide ((c.toNat:Int)=41)with
  |true=>simp only [go_sem,Nat.reduceAdd,Nat.reduceSub,Nat.reduceMul,Nat.reduceEqDiff,Nat.reduceLeDiff,Nat.reduceBEq,reduceCtorEq,A.spec_l05Sign,ix,e1,sl,cS,cG,cF,d39,h33,h59,h40,h41,Sg.v]
  |false=>
  cases h91:decide ((c.toNat:Int)=91)with
  |true=>simp only [go_sem,Nat.reduceAdd,Nat.reduceSub,Nat.reduceMul,Nat.reduceEqDiff,Nat.reduceLeDiff,Nat.reduceBEq,reduceCtorEq,A.spec_l05Sign,ix,e1,sl,cS,cG,cF,d39,h33,h59,h40,h41,h91,Sg.v]
  |false=>
  cases h93:decide ((c.toNat:Int)=93)with
  |true=>simp only [go_sem,Nat.reduceAdd,Nat.reduceSub,Nat.reduceMul,Nat.reduceEqDiff,Nat.reduceLeDiff,Nat.reduceBEq,reduceCtorEq,A.spec_l05Sign,ix,e1,sl,cS,cG,cF,d39,h33,h59,h40,h41,h91,h93,Sg.v]
  |false=>
  cases h44:decide ((c.toNat:Int)=44)with
  |true=>simp only [go_sem,Nat.reduceAdd,Nat.reduceSub,Nat.reduceMul,Nat.reduceEqDiff,Nat.reduceLeDiff,Nat.reduceBEq,reduceCtorEq,A.spec_l05Sign,ix,e1,sl,cS,cG,cF,d39,h33,h59,h40,h41,h91,h93,h44,Sg.v]
  |false=>
   have h124:decide ((c.toNat:Int)=124)=true:=by rw [h40,h41,h91,h93,h44]at hM;exact hM
   simp only [go_sem,Nat.reduceAdd,Nat.reduceSub,Nat.reduceMul,Nat.reduceEqDiff,Nat.reduceLeDiff,Nat.reduceBEq,reduceCtorEq,A.spec_l05Sign,ix,e1,sl,cS,cG,cF,d39,h33,h59,h40,h41,h91,h93,h44,h124,Sg.v]
 have hM':=hM
 unfold isB at hM'
 simp only [Bool.not_eq_true,Bool.or_eq_false_iff]at hM'
 obtain ⟨⟨⟨⟨⟨h40,h41⟩,h91⟩,h93⟩,h44⟩,h124⟩:=hM'
 rw [if_neg hM]
 cases hE:endB s i c with
 |true=>
  rw [hE]at cE
  rw [if_pos rfl]
  simp only [go_sem,Nat.reduceAdd,Nat.reduceSub,Nat.reduceMul,Nat.reduceEqDiff,Nat.reduceLeDiff,Nat.reduceBEq,reduceCtorEq,A.spec_l05Sign,ix,e1,sl,cS,cG,cF,d39,h33,h59,h40,h41,h91,h93,h44,h124,cE,Sg.v]
 |false=>
 rw [hE]at cE
 rw [if_neg (by decide)]
 cases hY:symB c with
 |false=>
  rw [hY]at cY
  rw [if_neg (by decide)]
  simp only [go_sem,Nat.reduceAdd,Nat.reduceSub,Nat.reduceMul,Nat.reduceEqDiff,Nat.reduceLeDiff,Nat.reduceBEq,reduceCtorEq,A.spec_l05Sign,ix,e1,sl,cS,cG,cF,d39,h33,h59,h40,h41,h91,h93,h44,h124,cE,cY,Sg.v,bad]
 |true=>
 rw [hY]at cY
 rw [if_pos rfl]
 have h:=sgnSym_loop s hl i (i+1) (subs s i (i+1)) (s.length - i) i (by omega)
 have hp:=pre_lt (p:=symB) (s:=s) (i:=i) (by omega)
 have e2:w64 (((i+pre symB (s.drop i):Nat):Int) - i)=(pre symB (s.drop i):Nat):=by rw [w64_id]<;>omega
 have sl2:=ssl_sub s i (i+pre symB (s.drop i)) (by omega) hp
 by_cases h20:pre symB (s.drop i)≤20
 ·have h20':((pre symB (s.drop i):Nat):Int)≤20:=by omega
  rw [if_pos h20]
  simp only [go_sem,Nat.reduceAdd,Nat.reduceSub,Nat.reduceMul,Nat.reduceEqDiff,Nat.reduceLeDiff,Nat.reduceBEq,reduceCtorEq,A.spec_l05Sign,ix,e1,sl,cS,cG,cF,d39,h33,h59,h40,h41,h91,h93,h44,h124,cE,cY,h,e2,h20',sl2,Sg.v]
 ·have h20': ¬ ((pre symB (s.drop i):Nat):Int)≤20:=by omega
  rw [if_neg h20]
  simp only [go_sem,Nat.reduceAdd,Nat.reduceSub,Nat.reduceMul,Nat.reduceEqDiff,Nat.reduceLeDiff,Nat.reduceBEq,reduceCtorEq,A.spec_l05Sign,ix,e1,sl,cS,cG,cF,d39,h33,h59,h40,h41,h91,h93,h44,h124,cE,cY,h,e2,h20',sl2,Sg.v,bad]
end Go.Vm
set_option autoImplicit false
set_option maxHeartbeats 8000000
set_option maxRecDepth 100000
set_option linter.unusedSimpArgs false
set_option linter.unusedVariables false
namespace Go.Vm
open Go.Lib (indexByte)
theorem implNum_loop(s:Str) (hl:s.length≤2^61) (i:Nat) (e:Nat) (he:e≤s.length) (m:Nat): ∀ (n:Nat) (a:Int),n+m=e→n+pre (inB 48 57) (s.drop n)=e→0≤a→a≤9999999999→
 lw progA L.impl_nextSign_0 ⟨[(0,S s),(1,I i),(4,.p (100000,0) 0 0),(7,.p (100000,1) 0 0),(8,I e),(9,I a),(10,I n)],[((100000,0),5,[.a [I 0,S [],I 0,I 0,B false]]),((100000,1),5,[.a [I 0,S [],I 0,I i,B false]])]⟩=some (.exit 1,⟨[(0,S s),(1,I i),(4,.p (100000,0) 0 0),(7,.p (100000,1) 0 0),(8,I e),(9,I (nf (s.drop n) a))],[((100000,0),5,[.a [I 0,S [],I 0,I 0,B false]]),((100000,1),5,[.a [I 0,S [],I 0,I i,B false]])]⟩):=by
 induction m with
 |zero=>
  intro n a hn hp h0 h1
  have h: ¬ (n:Int) < e:=by omega
  have hz:pre (inB 48 57) (s.drop n)=0:=by omega
  have hnf:nf (s.drop n) a=a:=by
   cases hd:s.drop n with
   |nil=>rfl
   |cons c r=>
    rw [hd,pre]at hz
    have hc:inB 48 57 c=false:=by
     cases hc:inB 48 57 c with
     |false=>rfl
     |true=>rw [hc,if_pos rfl]at hz;omega
    rw [nf,hc,Bool.false_and,if_neg (by decide)]
  rw [hnf,lw_eq]
  simp only [go_sem,Nat.reduceAdd,Nat.reduceSub,Nat.reduceMul,Nat.reduceEqDiff,Nat.reduceLeDiff,Nat.reduceBEq,reduceCtorEq,LB.impl_nextSign_0,h]
 |succ m ih=>
  intro n a hn hp h0 h1
  have h:(n:Int) < e:=by omega
  obtain ⟨c,hc⟩:=get_some' (l:=s) (i:=n) (by omega)
  have ix:=ix_S (l:=s) (i:=(n:Int)) (c:=c) (by omega) (by simpa using hc)
  have e1:w64 ((n:Int)+1)=((n+1:Nat):Int):=by rw [w64_id]<;>omega
  rw [drop_cons' hc,pre]at hp
  have hw:inB 48 57 c=true:=by
   cases hw:inB 48 57 c with
   |true=>rfl
   |false=>rw [hw,if_neg (by decide)]at hp;omega
  rw [hw,if_pos rfl]at hp
  rw [drop_cons' hc,lw_eq,nf,hw]
  simp only [inB,Bool.and_eq_true,decide_eq_true_eq]at hw
  by_cases ha:a≤999999999
  ·have da:decide (a≤999999999)=true:=decide_eq_true ha
   have i1:=ih (n+1) (10*a+c.toNat - 48) (by omega) (by omega) (by omega) (by omega)
   have e3:w64 (10*a)=10*a:=by rw [w64_id]<;>omega
   have e4:IntKind.u8.wrap ((c.toNat:Int) - 48)=c.toNat - 48:=by
    have:((c.toNat:Int) - 48) % 256=c.toNat - 48:=by omega
    exact this
   have e5:w64 ((c.toNat:Int) - 48)=c.toNat - 48:=by rw [w64_id]<;>omega
   have e6:w64 (10*a+((c.toNat:Int) - 48))=10*a+c.toNat - 48:=by rw [w64_id]<;>omega
   have u8s:binV .sub (U8 c.toNat) (U8 48)=some (U8 (IntKind.u8.wrap ((c.toNat:Int) - 48))):=rfl
   rw [da,Bool.and_self,if_pos rfl]
   simp only [go_sem,Nat.reduceAdd,Nat.reduceSub,Nat.reduceMul,Nat.reduceEqDiff,Nat.reduceLeDiff,Nat.reduceBEq,reduceCtorEq,LB.impl_nextSign_0,h,ix,e1,da,ha,u8s,e3,e4,e5,e6]
   exact i1
  ·have da:decide (a≤999999999)=false:=decide_eq_false ha
   rw [da,Bool.and_false,if_neg (by decide)]
   simp only [go_sem,Nat.reduceAdd,Nat.reduceSub,Nat.reduceMul,Nat.reduceEqDiff,Nat.reduceLeDiff,Nat.reduceBEq,reduceCtorEq,LB.impl_nextSign_0,h,ix,e1,da,ha]
theorem nextSign1_ok(c:UInt8):cr progA F.impl_nextSign_1 [U8 c.toNat]=some (B (okByte c)):=by
 have hc:=UInt8.toNat_lt c
 have hw:w64 (c.toNat:Int)=c.toNat:=by rw [w64_id]<;>omega
 have hin:=within_ok c.toNat 33 126
 rw [cr_fn pA_impl_nextSign_1 rfl]
 rcases okByte_cases c with ⟨h0,h1,h2,h3,h4⟩|⟨h0,h1|⟨h1,h2|⟨h2,h3|⟨h3,h4⟩⟩⟩⟩
 ·rw [decide_eq_true (show (33:Int)≤c.toNat∧(c.toNat:Int)≤126 by omega)]at hin
  simp only [go_sem,Nat.reduceAdd,Nat.reduceSub,Nat.reduceMul,Nat.reduceEqDiff,Nat.reduceLeDiff,Nat.reduceBEq,reduceCtorEq,A.impl_nextSign_1,hw,hin,h3,h4,h0]
 ·rw [decide_eq_false (show ¬ ((33:Int)≤c.toNat∧(c.toNat:Int)≤126)by omega)]at hin
  simp only [go_sem,Nat.reduceAdd,Nat.reduceSub,Nat.reduceMul,Nat.reduceEqDiff,Nat.reduceLeDiff,Nat.reduceBEq,reduceCtorEq,A.impl_nextSign_1,hw,hin,h0]
 ·rw [decide_eq_false (show ¬ ((33:Int)≤c.toNat∧(c.toNat:Int)≤126)by omega)]at hin
  simp only [go_sem,Nat.reduceAdd,Nat.reduceSub,Nat.reduceMul,Nat.reduceEqDiff,Nat.reduceLeDiff,Nat.reduceBEq,reduceCtorEq,A.impl_nextSign_1,hw,hin,h0]
 ·rw [decide_eq_true (show (33:Int)≤c.toNat∧(c.toNat:Int)≤126 by omega)]at hin
  simp only [go_sem,Nat.reduceAdd,Nat.reduceSub,Nat.reduceMul,Nat.reduceEqDiff,Nat.reduceLeDiff,Nat.reduceBEq,reduceCtorEq,A.impl_nextSign_1,hw,hin,h3,h0]
 ·rw [decide_eq_true (show (33:Int)≤c.toNat∧(c.toNat:Int)≤126 by omega)]at hin
  simp only [go_sem,Nat.reduceAdd,Nat.reduceSub,Nat.reduceMul,Nat.reduceEqDiff,Nat.reduceLeDiff,Nat.reduceBEq,reduceCtorEq,A.impl_nextSign_1,hw,hin,h3,h4,h0]
theorem nextSign_ok(s:Str) (hl:s.length≤2^61) (i:Nat) (c:UInt8) (hc:s[i]? =some c):
 cr progA F.impl_nextSign [S s,I i]=some (.t [(sgn s i c).1.v,I (sgn s i c).2]):=by
 have hi:i < s.length:=(List.getElem?_eq_some_iff.1 hc).1
 have ix:=ix_S (l:=s) (i:=(i:Int)) (c:=c) (by omega) (by simpa using hc)
 have e1:w64 ((i:Int)+1)=((i+1:Nat):Int):=by rw [w64_id]<;>omega
 have sl:=ssl_sub s i (i+1) (by omega) (by omega)
 have ln:((subs s i (i+1)).length:Int)=1:=by rw [subs_len (by omega)];rfl
 have cS:=impl_lower_ok c
 have cG:=impl_upper_ok c
 have cF:=impl_figure_ok c
 have cY:=impl_SymbolByte_ok c
 have cE:=endsHere_ok s hl i c hc
 have cX:=cr_ixb8 [40,41,91,93,44,124] c
 have cM:=marks_ixb c
 rw [sgn_eq hc,cr_fn pA_impl_nextSign rfl]
 unfold sgn2
 cases hE:endB s i c with
 |true=>
  rw [hE]at cE
  rw [if_pos rfl]
  simp only [go_sem,Nat.reduceAdd,Nat.reduceSub,Nat.reduceMul,Nat.reduceEqDiff,Nat.reduceLeDiff,Nat.reduceBEq,reduceCtorEq,A.impl_nextSign,ix,e1,cE,Int.reduceEq,Int.reduceLT,Int.reduceNe,decide_true,decide_false,Sg.v]
 |false=>
 rw [hE]at cE
 rw [if_neg (by decide)]
 by_cases hw:(inB 97 122 c||greatB c)=true
 ·have hr:=run_ok wordB F.impl_wordByte impl_wordByte_ok s hl i (by omega)
  have hp:=pre_lt (p:=wordB) (s:=s) (i:=i) (by omega)
  have sl2:=ssl_sub s i (i+pre wordB (s.drop i)) (by omega) hp
  have ln2:=subs_len (s:=s) (i:=i) (n:=pre wordB (s.drop i)) hp
  rw [if_pos hw]
  by_cases h20:pre wordB (s.drop i)≤20
  ·have h20': ¬ (20:Int) < ((pre wordB (s.drop i):Nat):Int):=by omega
   rw [if_pos h20]
   cases hS:inB 97 122 c with
   |true=>
    rw [hS]at cS
    rw [lower_great hS]
    simp only [go_sem,Nat.reduceAdd,Nat.reduceSub,Nat.reduceMul,Nat.reduceEqDiff,Nat.reduceLeDiff,Nat.reduceBEq,reduceCtorEq,A.impl_nextSign,ix,e1,cE,cS,hr,sl2,ln2,h20',Int.reduceEq,Int.reduceLT,Int.reduceNe,decide_true,decide_false,Sg.v]
   |false=>
    rw [hS]at cS
    rw [hS,Bool.false_or]at hw
    rw [hw]
    unfold greatB isB at hw
    cases hU:inB 65 90 c with
    |true=>rw [hU]at cG;simp only [go_sem,Nat.reduceAdd,Nat.reduceSub,Nat.reduceMul,Nat.reduceEqDiff,Nat.reduceLeDiff,Nat.reduceBEq,reduceCtorEq,A.impl_nextSign,ix,e1,cE,cS,cG,hr,sl2,ln2,h20',Int.reduceEq,Int.reduceLT,Int.reduceNe,decide_true,decide_false,Sg.v]
    |false=>
     rw [hU]at cG
     rw [hU,Bool.false_or]at hw
     simp only [go_sem,Nat.reduceAdd,Nat.reduceSub,Nat.reduceMul,Nat.reduceEqDiff,Nat.reduceLeDiff,Nat.reduceBEq,reduceCtorEq,A.impl_nextSign,ix,e1,cE,cS,cG,hw,hr,sl2,ln2,h20',Int.reduceEq,Int.reduceLT,Int.reduceNe,decide_true,decide_false,Sg.v]
  ·have h20':(20:Int) < ((pre wordB (s.drop i):Nat):Int):=by omega
   rw [if_neg h20]
   cases hS:inB 97 122 c with
   |true=>
    rw [hS]at cS
    simp only [go_sem,Nat.reduceAdd,Nat.reduceSub,Nat.reduceMul,Nat.reduceEqDiff,Nat.reduceLeDiff,Nat.reduceBEq,reduceCtorEq,A.impl_nextSign,ix,e1,cE,cS,hr,sl,sl2,ln2,h20',Int.reduceEq,Int.reduceLT,Int.reduceNe,decide_true,decide_false,Sg.v,bad]
   |false=>
    rw [hS]at cS
    rw [hS,Bool.false_or]at hw
    unfold greatB isB at hw
    cases hU:inB 65 90 c with
    |true=>rw [hU]at cG;simp only [go_sem,Nat.reduceAdd,Nat.reduceSub,Nat.reduceMul,Nat.reduceEqDiff,Nat.reduceLeDiff,Nat.reduceBEq,reduceCtorEq,A.impl_nextSign,ix,e1,cE,cS,cG,hr,sl,sl2,ln2,h20',Int.reduceEq,Int.reduceLT,Int.reduceNe,decide_true,decide_false,Sg.v,bad]
    |false=>
     rw [hU]at cG
     rw [hU,Bool.false_or]at hw
     simp only [go_sem,Nat.reduceAdd,Nat.reduceSub,Nat.reduceMul,Nat.reduceEqDiff,Nat.reduceLeDiff,Nat.reduceBEq,reduceCtorEq,A.impl_nextSign,ix,e1,cE,cS,cG,hw,hr,sl,sl2,ln2,h20',Int.reduceEq,Int.reduceLT,Int.reduceNe,decide_true,decide_false,Sg.v,bad]
 have hw':=hw
 unfold greatB isB at hw'
 simp only [Bool.not_eq_true,Bool.or_eq_false_iff]at hw'
 obtain ⟨hS,hU,h95⟩:=hw'
 rw [hS]at cS
 rw [hU]at cG
 rw [if_neg hw]
 by_cases hF:inB 48 57 c=true
 ·rw [hF]at cF
  rw [if_pos hF]
  have hr:=run_ok (inB 48 57) F.impl_figure impl_figure_ok s hl i (by omega)
  have hp:=pre_lt (p:=inB 48 57) (s:=s) (i:=i) (by omega)
  have sl2:=ssl_sub s i (i+pre (inB 48 57) (s.drop i)) (by omega) hp
  have h:=implNum_loop s hl i (i+pre (inB 48 57) (s.drop i)) hp (pre (inB 48 57) (s.drop i)) i 0 (by omega) rfl (by decide) (by decide)
  by_cases hn:nf (s.drop i) 0≤999999999
  ·rw [if_pos hn]
   simp only [go_sem,Nat.reduceAdd,Nat.reduceSub,Nat.reduceMul,Nat.reduceEqDiff,Nat.reduceLeDiff,Nat.reduceBEq,reduceCtorEq,A.impl_nextSign,ix,e1,cE,cS,cG,h95,cF,hr,h,hn,Int.reduceEq,Int.reduceLT,Int.reduceNe,decide_true,decide_false,Sg.v]
  ·rw [if_neg hn]
   simp only [go_sem,Nat.reduceAdd,Nat.reduceSub,Nat.reduceMul,Nat.reduceEqDiff,Nat.reduceLeDiff,Nat.reduceBEq,reduceCtorEq,A.impl_nextSign,ix,e1,sl,cE,cS,cG,h95,cF,hr,h,hn,sl2,Int.reduceEq,Int.reduceLT,Int.reduceNe,decide_true,decide_false,Sg.v,bad]
 have hF':inB 48 57 c=false:=by simpa using hF
 rw [hF']at cF
 rw [if_neg hF]
 cases hY:symB c with
 |true=>
  rw [hY]at cY
  rw [if_pos rfl]
  have hr:=run_ok symB F.impl_SymbolByte impl_SymbolByte_ok s hl i (by omega)
  have hp:=pre_lt (p:=symB) (s:=s) (i:=i) (by omega)
  have sl2:=ssl_sub s i (i+pre symB (s.drop i)) (by omega) hp
  have ln2:=subs_len (s:=s) (i:=i) (n:=pre symB (s.drop i)) hp
  by_cases h20:pre symB (s.drop i)≤20
  ·have h20': ¬ (20:Int) < ((pre symB (s.drop i):Nat):Int):=by omega
   rw [if_pos h20]
   simp only [go_sem,Nat.reduceAdd,Nat.reduceSub,Nat.reduceMul,Nat.reduceEqDiff,Nat.reduceLeDiff,Nat.reduceBEq,reduceCtorEq,A.impl_nextSign,ix,e1,cE,cS,cG,h95,cF,cY,hr,sl2,ln2,h20',Int.reduceEq,Int.reduceLT,Int.reduceNe,decide_true,decide_false,Sg.v]
  ·have h20':(20:Int) < ((pre symB (s.drop i):Nat):Int):=by omega
   rw [if_neg h20]
   simp only [go_sem,Nat.reduceAdd,Nat.reduceSub,Nat.reduceMul,Nat.reduceEqDiff,Nat.reduceLeDiff,Nat.reduceBEq,reduceCtorEq,A.impl_nextSign,ix,e1,cE,cS,cG,h95,cF,cY,hr,sl,sl2,ln2,h20',Int.reduceEq,Int.reduceLT,Int.reduceNe,decide_true,decide_false,Sg.v,bad]
 |false=>
 rw [hY]at cY
 rw [if_neg (by decide)]
 by_cases hA:(isB 33 c||isB 59 c)=true
 ·rw [if_pos hA]
  cases h33:decide ((c.toNat:Int)=33)with
  |true=>simp only [go_sem,Nat.reduceAdd,Nat.reduceSub,Nat.reduceMul,Nat.reduceEqDiff,Nat.reduceLeDiff,Nat.reduceBEq,reduceCtorEq,A.impl_nextSign,ix,e1,cE,cS,cG,h95,cF,cY,h33,sl,ln,Int.reduceEq,Int.reduceLT,Int.reduceNe,decide_true,decide_false,Sg.v]
  |false=>
   have h59:decide ((c.toNat:Int)=59)=true:=by unfold isB at hA;rw [h33]at hA;exact hA
   simp only [go_sem,Nat.reduceAdd,Nat.reduceSub,Nat.reduceMul,Nat.reduceEqDiff,Nat.reduceLeDiff,Nat.reduceBEq,reduceCtorEq,A.impl_nextSign,ix,e1,cE,cS,cG,h95,cF,cY,h33,h59,sl,ln,Int.reduceEq,Int.reduceLT,Int.reduceNe,decide_true,decide_false,Sg.v]
 have hA':=hA
 unfold isB at hA'
 simp only [Bool.not_eq_true,Bool.or_eq_false_iff]at hA'
 have h33:=hA'.1
 have h59:=hA'.2
 rw [if_neg hA]
 cases hM:(isB 40 c||isB 41 c||isB 91 c||isB 93 c||isB 44 c||isB 124 c)with
 |true=>
  rw [hM]at cM
  rw [if_pos rfl]
  simp only [go_sem,Nat.reduceAdd,Nat.reduceSub,Nat.reduceMul,Nat.reduceEqDiff,Nat.reduceLeDiff,Nat.reduceBEq,reduceCtorEq,A.impl_nextSign,ix,e1,cE,cS,cG,h95,cF,cY,h33,h59,cX,cM,sl,ln,Int.reduceEq,Int.reduceLT,Int.reduceNe,decide_true,decide_false,Sg.v]
 |false=>
 rw [hM]at cM
 rw [if_neg (by decide)]
 cases h39:isB 39 c with
 |false=>
  unfold isB at h39
  rw [if_neg (by decide)]
  simp only [go_sem,Nat.reduceAdd,Nat.reduceSub,Nat.reduceMul,Nat.reduceEqDiff,Nat.reduceLeDiff,Nat.reduceBEq,reduceCtorEq,A.impl_nextSign,ix,e1,cE,cS,cG,h95,cF,cY,h33,h59,cX,cM,h39,sl,ln,Int.reduceEq,Int.reduceLT,Int.reduceNe,decide_true,decide_false,Sg.v,bad]
 |true=>
 unfold isB at h39
 rw [if_pos rfl]
 have hr:=run_ok okByte F.impl_nextSign_1 nextSign1_ok s hl (i+1) (by omega)
 have hp:=pre_lt (p:=okByte) (s:=s) (i:=i+1) (by omega)
 have hin:=within_ok (pre okByte (s.drop (i+1)):Nat) 1 20
 have e2:w64 (((i+1+pre okByte (s.drop (i+1)):Nat):Int) - i)=((1+pre okByte (s.drop (i+1)):Nat):Int):=by rw [w64_id]<;>omega
 have e3:w64 (((1+pre okByte (s.drop (i+1)):Nat):Int) - 1)=((pre okByte (s.drop (i+1)):Nat):Int):=by rw [w64_id]<;>omega
 have e4:w64 (((i+1+pre okByte (s.drop (i+1)):Nat):Int)+1)=((i+1+pre okByte (s.drop (i+1))+1:Nat):Int):=by rw [w64_id]<;>omega
 have sl2:=ssl_sub s (i+1) (i+1+pre okByte (s.drop (i+1))) (by omega) hp
 rw [quoted_pre]
 have hget:(s.drop (i+1))[pre okByte (s.drop (i+1))]? =s[i+1+pre okByte (s.drop (i+1))]? :=by rw [List.getElem?_drop]
 rw [hget]
 generalize hm:pre okByte (s.drop (i+1))=m at*
 by_cases hlt:i+1+m < s.length
 ·have hlt':((i+1+m:Nat):Int) < s.length:=by omega
  obtain ⟨d,hd⟩:=get_some' (l:=s) (i:=i+1+m) hlt
  have ix2:=ix_S (l:=s) (i:=((i+1+m:Nat):Int)) (c:=d) (by omega) (by rw [Int.toNat_natCast];exact hd)
  rw [hd]
  cases hd39:isB 39 d with
  |true=>
   have hdd:=isB_eq (n:=39) hd39
   unfold isB at hd39
   have hsm:(some d=some (39:UInt8))=True:=eq_true (by rw [hdd];rfl)
   simp only [hsm,true_and]
   by_cases hk:1≤m∧m≤20
   ·rw [decide_eq_true (show (1:Int)≤(m:Int)∧(m:Int)≤20 by omega)]at hin
    rw [if_pos hk]
    simp only [go_sem,Nat.reduceAdd,Nat.reduceSub,Nat.reduceMul,Nat.reduceEqDiff,Nat.reduceLeDiff,Nat.reduceBEq,reduceCtorEq,A.impl_nextSign,ix,e1,cE,cS,cG,h95,cF,cY,h33,h59,cX,cM,h39,hr,hlt',ix2,hd39,e2,e3,hin,sl2,e4,Int.reduceEq,Int.reduceLT,Int.reduceNe,decide_true,decide_false,Sg.v]
   ·rw [decide_eq_false (show ¬ ((1:Int)≤(m:Int)∧(m:Int)≤20)by omega)]at hin
    rw [if_neg hk]
    simp only [go_sem,Nat.reduceAdd,Nat.reduceSub,Nat.reduceMul,Nat.reduceEqDiff,Nat.reduceLeDiff,Nat.reduceBEq,reduceCtorEq,A.impl_nextSign,ix,e1,cE,cS,cG,h95,cF,cY,h33,h59,cX,cM,h39,hr,hlt',ix2,hd39,e2,e3,hin,sl,ln,Int.reduceEq,Int.reduceLT,Int.reduceNe,decide_true,decide_false,Sg.v,bad]
  |false=>
   have hne: ¬ (some d=some (39:UInt8)):=by
    intro e
    cases e
    cases hd39
   unfold isB at hd39
   rw [if_neg fun h=>hne h.1]
   simp only [go_sem,Nat.reduceAdd,Nat.reduceSub,Nat.reduceMul,Nat.reduceEqDiff,Nat.reduceLeDiff,Nat.reduceBEq,reduceCtorEq,A.impl_nextSign,ix,e1,cE,cS,cG,h95,cF,cY,h33,h59,cX,cM,h39,hr,hlt',ix2,hd39,sl,ln,Int.reduceEq,Int.reduceLT,Int.reduceNe,decide_true,decide_false,Sg.v,bad]
 ·have hlt': ¬ ((i+1+m:Nat):Int) < s.length:=by omega
  have hno:s[i+1+m]? =none:=List.getElem?_eq_none (by omega)
  rw [hno,if_neg (by rintro ⟨h,-⟩;cases h)]
  simp only [go_sem,Nat.reduceAdd,Nat.reduceSub,Nat.reduceMul,Nat.reduceEqDiff,Nat.reduceLeDiff,Nat.reduceBEq,reduceCtorEq,A.impl_nextSign,ix,e1,cE,cS,cG,h95,cF,cY,h33,h59,cX,cM,h39,hr,hlt',sl,ln,Int.reduceEq,Int.reduceLT,Int.reduceNe,decide_true,decide_false,Sg.v,bad]
end Go.Vm
set_option autoImplicit false
set_option maxHeartbeats 8000000
set_option maxRecDepth 100000
set_option linter.unusedSimpArgs false
set_option linter.unusedVariables false
namespace Go.Vm
section
variable {l:List Sg} {τ:Bool}
@[go_sem] theorem clEs_Sg:clEs (l.map Sg.v)=true:=clEs_map (fun _=>rfl) l
@[go_sem] theorem killL_Sg(d:Nat):killL d (l.map Sg.v)=l.map Sg.v:=killL_map (fun _=>rfl) d l
@[go_sem] theorem convL_Sg:convL τ (l.map Sg.v)=l.map Sg.v:=convL_map (fun _=>rfl) l
@[go_sem] theorem noTagL_Sg:noTagL (l.map Sg.v)=true:=noTagL_map (fun _=>rfl) l
@[go_sem] theorem mapE_Sg(m:Nat) (T:Mem):mapT (closeE m) T (l.map Sg.v)=(l.map Sg.v,T):=mapE_cl m T _ clEs_Sg
@[go_sem] theorem repEs_Sg(k:Key) (ob:Ob):repEs k ob (l.map Sg.v)=none:=repEs_closed k ob _ clEs_Sg
@[go_sem] theorem snocSg {a n p:Int} {t:Str} {b:Bool}:l.map Sg.v++[.a [I a,S t,I n,I p,B b]]=(l++[Sg.mk a t n p b]).map Sg.v:=by simp [Sg.v]
end
theorem spec_com_loop(s:Str) (hl:s.length≤3000) (acc:List Sg) (m:Nat): ∀ i,i+m=s.length→
 lw progA L.spec_SignsOf_0 ⟨[(0,S s),(4,.s (100000,0) 0 acc.length),(5,I i)],[((100000,0),5,acc.map Sg.v)]⟩=
  some (.exit 2,⟨[(0,S s),(4,.s (100000,0) 0 acc.length),(5,I ((i+pre (fun d=> !isB 10 d) (s.drop i):Nat):Int))],[((100000,0),5,acc.map Sg.v)]⟩):=by
 induction m with
 |zero=>
  intro i hi
  rw [List.drop_eq_nil_of_le (by omega),lw_eq]
  have h: ¬ (i:Int) < s.length:=by omega
  simp only [go_sem,Nat.reduceAdd,Nat.reduceSub,Nat.reduceMul,Nat.reduceEqDiff,Nat.reduceLeDiff,Nat.reduceBEq,reduceCtorEq,LB.spec_SignsOf_0,h,pre]
 |succ m ih=>
  intro i hi
  have h:(i:Int) < s.length:=by omega
  obtain ⟨c,hc⟩:=get_some' (l:=s) (i:=i) (by omega)
  have ix:=ix_S (l:=s) (i:=(i:Int)) (c:=c) (by omega) (by simpa using hc)
  have e1:w64 ((i:Int)+1)=((i+1:Nat):Int):=by rw [w64_id]<;>omega
  rw [drop_cons' hc,lw_eq,pre]
  cases hw:isB 10 c with
  |false=>
   unfold isB at hw
   have i1:=ih (i+1) (by omega)
   rw [if_pos (by rfl),show i+(pre (fun d=> !isB 10 d) (s.drop (i+1))+1)=i+1+pre (fun d=> !isB 10 d) (s.drop (i+1))by omega]
   simp only [go_sem,Nat.reduceAdd,Nat.reduceSub,Nat.reduceMul,Nat.reduceEqDiff,Nat.reduceLeDiff,Nat.reduceBEq,reduceCtorEq,LB.spec_SignsOf_0,h,ix,hw,e1]
   exact i1
  |true=>
   unfold isB at hw
   rw [if_neg (by decide)]
   simp only [go_sem,Nat.reduceAdd,Nat.reduceSub,Nat.reduceMul,Nat.reduceEqDiff,Nat.reduceLeDiff,Nat.reduceBEq,reduceCtorEq,LB.spec_SignsOf_0,h,ix,hw,e1,Nat.add_zero]
theorem SignsOf1_ok(c:UInt8):cr progA F.impl_SignsOf_1 [U8 c.toNat]=some (B (!isB 10 c)):=by
 rw [cr_fn pA_impl_SignsOf_1 rfl]
 unfold isB
 cases h:decide ((c.toNat:Int)=10)<;>simp only [go_sem,Nat.reduceAdd,Nat.reduceSub,Nat.reduceMul,Nat.reduceEqDiff,Nat.reduceLeDiff,Nat.reduceBEq,reduceCtorEq,A.impl_SignsOf_1,h]
theorem near_ix {s:Str} {e:Nat} (h:e < s.length) (hl:s.length≤3000): ∃ d,ixV (S s) (I e)=some (U8 (d:UInt8).toNat)∧decide ((d.toNat:Int)=40)=decide (s[e]? =some 40):=by
 obtain ⟨d,hd⟩:=get_some' (l:=s) (i:=e) h
 refine ⟨d,ix_S (by omega) (by simpa using hd), ?_⟩
 rw [hd]
 refine decide_eq_decide.2 ?_
 have:=byte_eq (c:=d) (d:=40)
 rw [show (((40:UInt8).toNat:Nat):Int)=40 from rfl]at this
 rw [this]
 simp
theorem spec_SignsOf_loop(s:Str) (hl:s.length≤3000): ∀ n i (acc:List Sg),s.length≤i+n→i≤s.length→acc.length≤i→
 lw progA L.spec_SignsOf_1 ⟨[(0,S s),(4,.s (100000,0) 0 acc.length),(5,I i)],[((100000,0),5,acc.map Sg.v)]⟩=
  some (.exit 0,⟨[(4,.s (100000,0) 0 (acc.length+(sgs s n i).length))],[((100000,0),5,(acc++sgs s n i).map Sg.v)]⟩):=by
 intro n
 induction n with
 |zero=>
  intro i acc h1 h2 h3
  have h: ¬ (i:Int) < s.length:=by omega
  rw [sgs,List.append_nil,List.length_nil,Nat.add_zero,lw_eq]
  simp only [go_sem,Nat.reduceAdd,Nat.reduceSub,Nat.reduceMul,Nat.reduceEqDiff,Nat.reduceLeDiff,Nat.reduceBEq,reduceCtorEq,LB.spec_SignsOf_1,h]
 |succ n ih=>
  intro i acc h1 h2 h3
  rw [lw_eq]
  by_cases hlt:i < s.length
  ·have h:(i:Int) < s.length:=by omega
   obtain ⟨c,hc⟩:=get_some' (l:=s) (i:=i) hlt
   have ix:=ix_S (l:=s) (i:=(i:Int)) (c:=c) (by omega) (by simpa using hc)
   have e1:w64 ((i:Int)+1)=((i+1:Nat):Int):=by rw [w64_id]<;>omega
   have bl:=l05Blank_ok c
   simp only [sgs,hc]
   cases hb:blankB c with
   |true=>
    rw [hb]at bl
    have i1:=ih (i+1) acc (by omega) (by omega) (by omega)
    rw [if_pos rfl]
    simp only [go_sem,Nat.reduceAdd,Nat.reduceSub,Nat.reduceMul,Nat.reduceEqDiff,Nat.reduceLeDiff,Nat.reduceBEq,reduceCtorEq,LB.spec_SignsOf_1,h,ix,bl,e1]
    exact i1
   |false=>
   rw [hb]at bl
   rw [if_neg (by decide)]
   cases h37:isB 37 c with
   |true=>
    have hp:=pre_lt (p:=fun d=> !isB 10 d) (s:=s) (i:=i) (by omega)
    have hp1:1≤pre (fun d=> !isB 10 d) (s.drop i):=pre_pos hc (by have:=isB_eq (n:=37) h37;subst this;rfl)
    have i1:=ih (i+pre (fun d=> !isB 10 d) (s.drop i)) acc (by omega) (by omega) (by omega)
    have cm:=spec_com_loop s hl acc (s.length - i) i (by omega)
    unfold isB at h37
    rw [if_pos rfl]
    simp only [go_sem,Nat.reduceAdd,Nat.reduceSub,Nat.reduceMul,Nat.reduceEqDiff,Nat.reduceLeDiff,Nat.reduceBEq,reduceCtorEq,LB.spec_SignsOf_1,h,ix,bl,h37,cm]
    exact i1
   |false=>
   unfold isB at h37
   rw [if_neg (by decide)]
   have sg:=l05Sign_ok s (by omega) i c hc
   obtain ⟨g1,g2⟩:=sgn_end s i c hc
   have i1:=ih (sgn s i c).2 (acc++[(sgn s i c).1.near' (decide (s[(sgn s i c).2]? =some 40))]) (by omega) g2 (by simp only [List.length_append,List.length_cons,List.length_nil];omega)
   have l1:decide ((acc.length+1)*48≤lim)=true:=decide_eq_true (by rw [lim_val];omega)
   have l2:decide (acc.length+1≤lim)=true:=decide_eq_true (by rw [lim_val];omega)
   have ea:acc.length+((sgs s n (sgn s i c).2).length+1)=acc.length+1+(sgs s n (sgn s i c).2).length:=by omega
   rw [List.append_assoc,List.singleton_append]at i1
   unfold Sg.near' at i1
   rw [Sg.v]at sg
   by_cases hn:(sgn s i c).2 < s.length
   ·have hn':(((sgn s i c).2:Nat):Int) < s.length:=by omega
    obtain ⟨d,ix2,hd⟩:=near_ix hn hl
    rw [← hd]at i1 ⊢
    simp only [go_sem,Nat.reduceAdd,Nat.reduceSub,Nat.reduceMul,Nat.reduceEqDiff,Nat.reduceLeDiff,Nat.reduceBEq,reduceCtorEq,LB.spec_SignsOf_1,h,ix,bl,h37,sg,hn',ix2,l1,l2,List.length_cons,List.length_nil,ea,Sg.near']at i1 ⊢
    exact i1
   ·have hn': ¬ (((sgn s i c).2:Nat):Int) < s.length:=by omega
    have hno:s[(sgn s i c).2]? =none:=List.getElem?_eq_none (by omega)
    have hf:decide (s[(sgn s i c).2]? =some 40)=false:=by rw [hno];rfl
    rw [hf]at i1 ⊢
    simp only [go_sem,Nat.reduceAdd,Nat.reduceSub,Nat.reduceMul,Nat.reduceEqDiff,Nat.reduceLeDiff,Nat.reduceBEq,reduceCtorEq,LB.spec_SignsOf_1,h,ix,bl,h37,sg,hn',l1,l2,List.length_cons,List.length_nil,ea,Sg.near']at i1 ⊢
    exact i1
  ·have h: ¬ (i:Int) < s.length:=by omega
   rw [sgs_end s _ i (by omega),List.append_nil,List.length_nil,Nat.add_zero]
   simp only [go_sem,Nat.reduceAdd,Nat.reduceSub,Nat.reduceMul,Nat.reduceEqDiff,Nat.reduceLeDiff,Nat.reduceBEq,reduceCtorEq,LB.spec_SignsOf_1,h]
theorem impl_SignsOf_loop(s:Str) (hl:s.length≤3000): ∀ n i (acc:List Sg),s.length≤i+n→i≤s.length→acc.length≤i→
 lw progA L.impl_SignsOf_0 ⟨[(0,S s),(4,.s (100000,0) 0 acc.length),(5,I i)],[((100000,0),5,acc.map Sg.v)]⟩=
  some (.exit 0,⟨[(4,.s (100000,0) 0 (acc.length+(sgs s n i).length))],[((100000,0),5,(acc++sgs s n i).map Sg.v)]⟩):=by
 intro n
 induction n with
 |zero=>
  intro i acc h1 h2 h3
  have h: ¬ (i:Int) < s.length:=by omega
  rw [sgs,List.append_nil,List.length_nil,Nat.add_zero,lw_eq]
  simp only [go_sem,Nat.reduceAdd,Nat.reduceSub,Nat.reduceMul,Nat.reduceEqDiff,Nat.reduceLeDiff,Nat.reduceBEq,reduceCtorEq,LB.impl_SignsOf_0,h]
 |succ n ih=>
  intro i acc h1 h2 h3
  rw [lw_eq]
  by_cases hlt:i < s.length
  ·have h:(i:Int) < s.length:=by omega
   obtain ⟨c,hc⟩:=get_some' (l:=s) (i:=i) hlt
   have ix:=ix_S (l:=s) (i:=(i:Int)) (c:=c) (by omega) (by simpa using hc)
   have e1:w64 ((i:Int)+1)=((i+1:Nat):Int):=by rw [w64_id]<;>omega
   simp only [sgs,hc]
   by_cases hb:blankB c=true
   ·have i1:=ih (i+1) acc (by omega) (by omega) (by omega)
    rw [if_pos hb]
    unfold blankB isB at hb
    cases d32:decide ((c.toNat:Int)=32)with
    |true=>simp only [go_sem,Nat.reduceAdd,Nat.reduceSub,Nat.reduceMul,Nat.reduceEqDiff,Nat.reduceLeDiff,Nat.reduceBEq,reduceCtorEq,LB.impl_SignsOf_0,h,ix,d32,e1];exact i1
    |false=>
    cases d9:decide ((c.toNat:Int)=9)with
    |true=>simp only [go_sem,Nat.reduceAdd,Nat.reduceSub,Nat.reduceMul,Nat.reduceEqDiff,Nat.reduceLeDiff,Nat.reduceBEq,reduceCtorEq,LB.impl_SignsOf_0,h,ix,d32,d9,e1];exact i1
    |false=>
    rw [d32,d9]at hb
    have d10:decide ((c.toNat:Int)=10)=true:=hb
    simp only [go_sem,Nat.reduceAdd,Nat.reduceSub,Nat.reduceMul,Nat.reduceEqDiff,Nat.reduceLeDiff,Nat.reduceBEq,reduceCtorEq,LB.impl_SignsOf_0,h,ix,d32,d9,d10,e1];exact i1
   rw [if_neg hb]
   unfold blankB isB at hb
   simp only [Bool.not_eq_true,Bool.or_eq_false_iff]at hb
   obtain ⟨⟨d32,d9⟩,d10⟩:=hb
   cases h37:isB 37 c with
   |true=>
    have hp:=pre_lt (p:=fun d=> !isB 10 d) (s:=s) (i:=i) (by omega)
    have hp1:1≤pre (fun d=> !isB 10 d) (s.drop i):=pre_pos hc (by have:=isB_eq (n:=37) h37;subst this;rfl)
    have i1:=ih (i+pre (fun d=> !isB 10 d) (s.drop i)) acc (by omega) (by omega) (by omega)
    have cm:=run_ok (fun d=> !isB 10 d) F.impl_SignsOf_1 SignsOf1_ok s (by omega) i (by omega)
    unfold isB at h37
    rw [if_pos rfl]
    simp only [go_sem,Nat.reduceAdd,Nat.reduceSub,Nat.reduceMul,Nat.reduceEqDiff,Nat.reduceLeDiff,Nat.reduceBEq,reduceCtorEq,LB.impl_SignsOf_0,h,ix,d32,d9,d10,h37,cm]
    exact i1
   |false=>
   unfold isB at h37
   rw [if_neg (by decide)]
   have sg:=nextSign_ok s (by omega) i c hc
   obtain ⟨g1,g2⟩:=sgn_end s i c hc
   have i1:=ih (sgn s i c).2 (acc++[(sgn s i c).1.near' (decide (s[(sgn s i c).2]? =some 40))]) (by omega) g2 (by simp only [List.length_append,List.length_cons,List.length_nil];omega)
   have l1:decide ((acc.length+1)*48≤lim)=true:=decide_eq_true (by rw [lim_val];omega)
   have l2:decide (acc.length+1≤lim)=true:=decide_eq_true (by rw [lim_val];omega)
   have ea:acc.length+((sgs s n (sgn s i c).2).length+1)=acc.length+1+(sgs s n (sgn s i c).2).length:=by omega
   rw [List.append_assoc,List.singleton_append]at i1
   unfold Sg.near' at i1
   rw [Sg.v]at sg
   by_cases hn:(sgn s i c).2 < s.length
   ·have hn':(((sgn s i c).2:Nat):Int) < s.length:=by omega
    obtain ⟨d,ix2,hd⟩:=near_ix hn hl
    rw [← hd]at i1 ⊢
    simp only [go_sem,Nat.reduceAdd,Nat.reduceSub,Nat.reduceMul,Nat.reduceEqDiff,Nat.reduceLeDiff,Nat.reduceBEq,reduceCtorEq,LB.impl_SignsOf_0,h,ix,d32,d9,d10,h37,sg,hn',ix2,l1,l2,List.length_cons,List.length_nil,ea,Sg.near']at i1 ⊢
    exact i1
   ·have hn': ¬ (((sgn s i c).2:Nat):Int) < s.length:=by omega
    have hno:s[(sgn s i c).2]? =none:=List.getElem?_eq_none (by omega)
    have hf:decide (s[(sgn s i c).2]? =some 40)=false:=by rw [hno];rfl
    rw [hf]at i1 ⊢
    simp only [go_sem,Nat.reduceAdd,Nat.reduceSub,Nat.reduceMul,Nat.reduceEqDiff,Nat.reduceLeDiff,Nat.reduceBEq,reduceCtorEq,LB.impl_SignsOf_0,h,ix,d32,d9,d10,h37,sg,hn',l1,l2,List.length_cons,List.length_nil,ea,Sg.near']at i1 ⊢
    exact i1
  ·have h: ¬ (i:Int) < s.length:=by omega
   rw [sgs_end s _ i (by omega),List.append_nil,List.length_nil,Nat.add_zero]
   simp only [go_sem,Nat.reduceAdd,Nat.reduceSub,Nat.reduceMul,Nat.reduceEqDiff,Nat.reduceLeDiff,Nat.reduceBEq,reduceCtorEq,LB.impl_SignsOf_0,h]
def signsV(s:Str):V:=if s.length≤3000 then .t [.o 5 ((signs s).map Sg.v),B true]else .t [.o 5 [],B false]
theorem spec_SignsOf_ok(s:Str):cr progA F.spec_SignsOf [S s]=some (signsV s):=by
 rw [cr_fn pA_spec_SignsOf rfl]
 unfold signsV
 by_cases h:s.length≤3000
 ·have h': ¬ (3000:Int) < s.length:=by omega
  have hlp:=spec_SignsOf_loop s h s.length 0 [] (by omega) (by omega) (Nat.le_refl _)
  simp only [List.nil_append,List.length_nil,List.map_nil,Int.natCast_zero,Nat.zero_add]at hlp
  rw [if_pos h]
  unfold signs
  simp only [go_sem,Nat.reduceAdd,Nat.reduceSub,Nat.reduceMul,Nat.reduceEqDiff,Nat.reduceLeDiff,Nat.reduceBEq,reduceCtorEq,A.spec_SignsOf,h',hlp]
 ·have h':(3000:Int) < s.length:=by omega
  rw [if_neg h]
  simp only [go_sem,Nat.reduceAdd,Nat.reduceSub,Nat.reduceMul,Nat.reduceEqDiff,Nat.reduceLeDiff,Nat.reduceBEq,reduceCtorEq,A.spec_SignsOf,h']
theorem impl_SignsOf_ok(s:Str):cr progA F.impl_SignsOf [S s]=some (signsV s):=by
 rw [cr_fn pA_impl_SignsOf rfl]
 unfold signsV
 by_cases h:s.length≤3000
 ·have h': ¬ (3000:Int) < s.length:=by omega
  have hlp:=impl_SignsOf_loop s h s.length 0 [] (by omega) (by omega) (Nat.le_refl _)
  simp only [List.nil_append,List.length_nil,List.map_nil,Int.natCast_zero,Nat.zero_add]at hlp
  rw [if_pos h]
  unfold signs
  simp only [go_sem,Nat.reduceAdd,Nat.reduceSub,Nat.reduceMul,Nat.reduceEqDiff,Nat.reduceLeDiff,Nat.reduceBEq,reduceCtorEq,A.impl_SignsOf,h',hlp]
 ·have h':(3000:Int) < s.length:=by omega
  rw [if_neg h]
  simp only [go_sem,Nat.reduceAdd,Nat.reduceSub,Nat.reduceMul,Nat.reduceEqDiff,Nat.reduceLeDiff,Nat.reduceBEq,reduceCtorEq,A.impl_SignsOf,h']
end Go.Vm
set_option autoImplicit false
set_option maxHeartbeats 8000000
set_option maxRecDepth 100000
set_option linter.unusedSimpArgs false
set_option linter.unusedVariables false
namespace Go.Vm
@[go_sem] theorem noTag_Sgv(x:Sg):noTag x.v=true:=(rfl)
@[go_sem] theorem conv_Sgv(τ:Bool) (x:Sg):conv τ x.v=x.v:=(rfl)
theorem one_one:((1:Nat):Int)=1:=rfl
theorem qText_eq(s:Str) (h:s.length≤2^40):binV .add (S [39]) (S s)=some (S (39::s))∧binV .add (S (39::s)) (S [39])=some (S (qText s)):=
 ⟨binS_add (by simp only [List.length_cons,List.length_nil];omega),binS_add (by simp only [List.length_cons,List.length_nil];omega)⟩
theorem impl_PrefixOf_ok(s:Str):cr progA F.impl_PrefixOf [S s]=some (preV s):=by
 rw [cr_fn pA_impl_PrefixOf rfl]
 by_cases h1:s=[58,45]
 ·subst h1;simp (decide:=true) only [go_sem,Nat.reduceAdd,Nat.reduceSub,Nat.reduceMul,Nat.reduceEqDiff,Nat.reduceLeDiff,Nat.reduceBEq,reduceCtorEq,A.impl_PrefixOf];rfl
 by_cases h2:s=[92,43]
 ·subst h2;simp (decide:=true) only [go_sem,Nat.reduceAdd,Nat.reduceSub,Nat.reduceMul,Nat.reduceEqDiff,Nat.reduceLeDiff,Nat.reduceBEq,reduceCtorEq,A.impl_PrefixOf];rfl
 by_cases h3:s=[45]
 ·subst h3;simp (decide:=true) only [go_sem,Nat.reduceAdd,Nat.reduceSub,Nat.reduceMul,Nat.reduceEqDiff,Nat.reduceLeDiff,Nat.reduceBEq,reduceCtorEq,A.impl_PrefixOf];rfl
 simp only [go_sem,Nat.reduceAdd,Nat.reduceSub,Nat.reduceMul,Nat.reduceEqDiff,Nat.reduceLeDiff,Nat.reduceBEq,reduceCtorEq,A.impl_PrefixOf,h1,h2,h3]
 simp [preV,prefixOf,h1,h2,h3]
theorem spec_PrefixOf_ok(s:Str):cr progA F.spec_PrefixOf [S s]=some (preV s):=by
 rw [cr_fn pA_spec_PrefixOf rfl]
 by_cases h1:s=[58,45]
 ·subst h1;simp (decide:=true) only [go_sem,Nat.reduceAdd,Nat.reduceSub,Nat.reduceMul,Nat.reduceEqDiff,Nat.reduceLeDiff,Nat.reduceBEq,reduceCtorEq,A.spec_PrefixOf];rfl
 by_cases h2:s=[92,43]
 ·subst h2;simp (decide:=true) only [go_sem,Nat.reduceAdd,Nat.reduceSub,Nat.reduceMul,Nat.reduceEqDiff,Nat.reduceLeDiff,Nat.reduceBEq,reduceCtorEq,A.spec_PrefixOf];rfl
 by_cases h3:s=[45]
 ·subst h3;simp (decide:=true) only [go_sem,Nat.reduceAdd,Nat.reduceSub,Nat.reduceMul,Nat.reduceEqDiff,Nat.reduceLeDiff,Nat.reduceBEq,reduceCtorEq,A.spec_PrefixOf];rfl
 simp only [go_sem,Nat.reduceAdd,Nat.reduceSub,Nat.reduceMul,Nat.reduceEqDiff,Nat.reduceLeDiff,Nat.reduceBEq,reduceCtorEq,A.spec_PrefixOf,h1,h2,h3]
 simp [preV,prefixOf,h1,h2,h3]
def isStr(t:Tm) (s:Str) (n:Int):Bool:=decide (t.kind=4)&&(decide (t.name=s)&&decide ((t.kids.length:Int)=n))
def isAt(t:Tm) (s:Str):Bool:=decide (t.kind=2)&&decide (t.name=s)
theorem impl_isStruct_ok(t:Tm) (v:V) (hb:BT t v) (s:Str) (n:Int):cr progA F.impl_isStruct [v,S s,I n]=some (B (isStr t s n)):=by
 obtain ⟨τ,vs,rfl,hv⟩:=BT_shape hb
 have hl:=RL_length hv
 rw [cr_fn pA_impl_isStruct rfl]
 unfold isStr
 cases h1:decide (t.kind=4)<;>cases h2:decide (t.name=s)<;>simp only [go_sem,Nat.reduceAdd,Nat.reduceSub,Nat.reduceMul,Nat.reduceEqDiff,Nat.reduceLeDiff,Nat.reduceBEq,reduceCtorEq,A.impl_isStruct,h1,h2,hl,Bool.true_and,Bool.false_and]
theorem l03Is_ok(t:Tm) (v:V) (hb:BT t v) (s:Str) (n:Int):cr progA F.spec_l03Is [v,S s,I n]=some (B (isStr t s n)):=by
 obtain ⟨τ,vs,rfl,hv⟩:=BT_shape hb
 have hl:=RL_length hv
 rw [cr_fn pA_spec_l03Is rfl]
 unfold isStr
 cases h1:decide (t.kind=4)<;>cases h2:decide (t.name=s)<;>simp only [go_sem,Nat.reduceAdd,Nat.reduceSub,Nat.reduceMul,Nat.reduceEqDiff,Nat.reduceLeDiff,Nat.reduceBEq,reduceCtorEq,A.spec_l03Is,h1,h2,hl,Bool.true_and,Bool.false_and]
end Go.Vm
set_option autoImplicit false
set_option maxHeartbeats 8000000
set_option maxRecDepth 100000
set_option linter.unusedSimpArgs false
set_option linter.unusedVariables false
namespace Go.Vm
def sg0:Sg:=⟨0,[],0,0,false⟩
def sgD(l:List Sg) (i:Nat):Sg:=l.getD i sg0
def isM(l:List Sg) (i:Nat) (t:Str):Bool:=decide ((sgD l i).kind=4)&&decide ((sgD l i).text=t)
def nilTm:Tm:= .mk 2 [91,93] 0 []
def mkList:List Tm→Tm→Tm
 |[],r=>r
 |t::ts,r=> .mk 4 [46] 0 [t,mkList ts r]
def varAt(nm:List Str) (s:Str):Tm × List Str:=
 if s ∈ nm∧s ≠ [95]then (.mk 1 [] (idxS s 0 nm) [],nm)else (.mk 1 [] nm.length [],nm++[s])
def goOn(s:Sg) (most q:Int):Bool:=
 decide ((infixOf s.text).prio ≠ 0)&&((decide (s.kind=4)||(decide (s.kind=1)&& !s.near))&&(decide ((infixOf s.text).prio≤most)&&decide (q≤(infixOf s.text).left)))
mutual
def pT(l:List Sg):Nat→Nat→List Str→Nat→Int→Option (Tm × Nat × List Str)
 |0,_,_,_,_=>none
 |n+1,i,nm,d,most=>if 130≤d then none else match pP l n i nm (d+1) most with
  |none=>none
  |some (t,q,i',nm')=>pL l n i' nm' (d+1) most t q
def pL(l:List Sg):Nat→Nat→List Str→Nat→Int→Tm→Int→Option (Tm × Nat × List Str)
 |0,_,_,_,_,_,_=>none
 |n+1,i,nm,d,most,t,q=>if goOn (sgD l i) most q=true then
  match pT l n (i+1) nm d (infixOf (sgD l i).text).right with
  |none=>none
  |some (y,i',nm')=>pL l n i' nm' d most (.mk 4 (sgD l i).text 0 [t,y]) (infixOf (sgD l i).text).prio
  else some (t,i,nm)
def pP(l:List Sg):Nat→Nat→List Str→Nat→Int→Option (Tm × Int × Nat × List Str)
 |0,_,_,_,_=>none
 |n+1,i,nm,d,most=>
  if (sgD l i).kind=1∧(sgD l i).near=true then
   match pA l n (i+2) nm d with
   |none=>none
   |some (ks,i',nm')=>if isM l i' [41]=true∧ks.length≤5 then some (.mk 4 (sgD l i).text 0 ks,0,i'+1,nm')else none
  else if isM l i [40]=true then
   if (sgD l (i+1)).kind=1∧isM l (i+2) [41]=true then some (.mk 2 (sgD l (i+1)).text 0 [],0,i+3,nm)
   else match pT l n (i+1) nm d 1200 with
    |none=>none
    |some (t,i',nm')=>if isM l i' [41]=true then some (t,0,i'+1,nm')else none
  else if isM l i [91]=true then
   if isM l (i+1) [93]=true then some (nilTm,0,i+2,nm)
   else match pA l n (i+1) nm d with
    |none=>none
    |some (ks,i',nm')=>
     if isM l i' [124]=true then
      match pT l n (i'+1) nm' d 999 with
      |none=>none
      |some (r,i2,nm2)=>if isM l i2 [93]=true then some (mkList ks r,0,i2+1,nm2)else none
     else if isM l i' [93]=true then some (mkList ks nilTm,0,i'+1,nm')else none
  else if (sgD l i).kind=3 then some (.mk 3 [] (sgD l i).num [],0,i+1,nm)
  else if (sgD l i).kind=2 then some ((varAt nm (sgD l i).text).1,0,i+1,(varAt nm (sgD l i).text).2)
  else if (sgD l i).kind=1∧(sgD l i).text=[45]∧(sgD l (i+1)).kind=3∧(sgD l (i+1)).at_=(sgD l i).at_+1 then some (.mk 3 [] (0 - (sgD l (i+1)).num) [],0,i+2,nm)
  else if (sgD l i).kind=1∧(prefixOf (sgD l i).text).prio ≠ 0∧(prefixOf (sgD l i).text).prio≤most then
   match pT l n (i+1) nm d (prefixOf (sgD l i).text).right with
   |none=>none
   |some (x,i',nm')=>some (.mk 4 (sgD l i).text 0 [x],(prefixOf (sgD l i).text).prio,i',nm')
  else if (sgD l i).kind=1∧(prefixOf (sgD l i).text).prio=0∧(infixOf (sgD l i).text).prio=0 then some (.mk 2 (sgD l i).text 0 [],0,i+1,nm)
  else none
def pA(l:List Sg):Nat→Nat→List Str→Nat→Option (List Tm × Nat × List Str)
 |0,_,_,_=>none
 |n+1,i,nm,d=>match pT l n i nm d 999 with
  |none=>none
  |some (t,i',nm')=>pB l n i' nm' d [t]
def pB(l:List Sg):Nat→Nat→List Str→Nat→List Tm→Option (List Tm × Nat × List Str)
 |0,_,_,_,_=>none
 |n+1,i,nm,d,acc=>if isM l i [44]=true then
  match pT l n (i+1) nm d 999 with
  |none=>none
  |some (t,i',nm')=>pB l n i' nm' d (acc++[t])
  else some (acc,i,nm)
end
structure GoodL (l:List Sg):Prop where
 len:l.length≤3000
 mark: ∀ i,(sgD l i).kind=4→(sgD l i).text=[40]∨(sgD l i).text=[41]∨(sgD l i).text=[91]∨(sgD l i).text=[93]∨(sgD l i).text=[44]∨(sgD l i).text=[124]
 near: ∀ i,(sgD l i).near=true→isM l (i+1) [40]=true
 text: ∀ i,(sgD l i).text.length≤3000
 num: ∀ i,0≤(sgD l i).num∧(sgD l i).num≤9999999999
 at_: ∀ i,0≤(sgD l i).at_∧(sgD l i).at_≤3000
theorem sgD_lt {l:List Sg} {i:Nat} (h:(sgD l i).kind ≠ 0):i < l.length:=by
 by_cases hl:i < l.length
 ·exact hl
 ·exfalso;apply h
  unfold sgD
  rw [List.getD_eq_getElem?_getD,List.getElem?_eq_none (by omega)]
  rfl
theorem isM_lt {l:List Sg} {i:Nat} {t:Str} (h:isM l i t=true):i < l.length∧(sgD l i).kind=4∧(sgD l i).text=t:=by
 unfold isM at h
 simp only [Bool.and_eq_true,decide_eq_true_eq]at h
 exact ⟨sgD_lt (by rw [h.1];decide),h.1,h.2⟩
theorem goOn_lt {l:List Sg} {i:Nat} {m q:Int} (h:goOn (sgD l i) m q=true):i < l.length:=by
 unfold goOn at h
 simp only [Bool.and_eq_true,Bool.or_eq_true,decide_eq_true_eq]at h
 rcases h.2.1 with h1|h1
 ·exact sgD_lt (by rw [h1];decide)
 ·exact sgD_lt (by rw [h1.1];decide)
theorem p_adv(l:List Sg): ∀ n:Nat,
 (∀ i nm d most t i' nm',pT l n i nm d most=some (t,i',nm')→i < i'∧i'≤l.length)∧
 (∀ i nm d most t q t' i' nm',i≤l.length→pL l n i nm d most t q=some (t',i',nm')→i≤i'∧i'≤l.length)∧
 (∀ i nm d most t q i' nm',pP l n i nm d most=some (t,q,i',nm')→i < i'∧i'≤l.length)∧
 (∀ i nm d ks i' nm',pA l n i nm d=some (ks,i',nm')→i < i'∧i'≤l.length)∧
 (∀ i nm d acc ks i' nm',i≤l.length→pB l n i nm d acc=some (ks,i',nm')→i≤i'∧i'≤l.length):=by
 intro n
 induction n with
 |zero=>refine ⟨?_, ?_, ?_, ?_, ?_⟩<;>intros<;>simp_all [pT,pL,pP,pA,pB]
 |succ n ih=>
  obtain ⟨hT,hL,hP,hA,hB⟩:=ih
  refine ⟨?_, ?_, ?_, ?_, ?_⟩
  ·intro i nm d most t i' nm' h
   simp only [pT]at h
   split at h
   ·cases h
   split at h
   ·cases h
   ·rename_i t1 q1 i1 nm1 h1
    have a:=hP _ _ _ _ _ _ _ _ h1
    have b:=hL _ _ _ _ _ _ _ _ _ a.2 h
    omega
  ·intro i nm d most t q t' i' nm' hi h
   simp only [pL]at h
   split at h
   ·rename_i hg
    have:=goOn_lt hg
    split at h
    ·cases h
    ·rename_i y i1 nm1 h1
     have a:=hT _ _ _ _ _ _ _ h1
     have b:=hL _ _ _ _ _ _ _ _ _ a.2 h
     omega
   ·cases h;omega
  ·intro i nm d most t q i' nm' h
   simp only [pP]at h
   split at h
   ·rename_i hk
    split at h
    ·cases h
    ·rename_i ks i1 nm1 h1
     have a:=hA _ _ _ _ _ _ h1
     split at h
     ·rename_i hm
      have:=isM_lt hm.1
      cases h;omega
     ·cases h
   split at h
   ·rename_i hk
    have:=isM_lt hk
    split at h
    ·rename_i hk2
     have:=isM_lt hk2.2
     cases h;omega
    ·split at h
     ·cases h
     ·rename_i t1 i1 nm1 h1
      have a:=hT _ _ _ _ _ _ _ h1
      split at h
      ·rename_i hm
       have:=isM_lt hm
       cases h;omega
      ·cases h
   split at h
   ·rename_i hk
    have:=isM_lt hk
    split at h
    ·rename_i hk2
     have:=isM_lt hk2
     cases h;omega
    ·split at h
     ·cases h
     ·rename_i ks i1 nm1 h1
      have a:=hA _ _ _ _ _ _ h1
      split at h
      ·split at h
       ·cases h
       ·rename_i r i2 nm2 h2
        have b:=hT _ _ _ _ _ _ _ h2
        split at h
        ·rename_i hm
         have:=isM_lt hm
         cases h;omega
        ·cases h
      ·split at h
       ·rename_i hm
        have:=isM_lt hm
        cases h;omega
       ·cases h
   split at h
   ·rename_i hk
    have:=sgD_lt (l:=l) (i:=i) (by rw [hk];decide)
    cases h;omega
   split at h
   ·rename_i hk
    have:=sgD_lt (l:=l) (i:=i) (by rw [hk];decide)
    cases h;omega
   split at h
   ·rename_i hk
    have:=sgD_lt (l:=l) (i:=i+1) (by rw [hk.2.2.1];decide)
    cases h;omega
   split at h
   ·rename_i hk
    split at h
    ·cases h
    ·rename_i x i1 nm1 h1
     have a:=hT _ _ _ _ _ _ _ h1
     cases h;omega
   split at h
   ·rename_i hk
    have:=sgD_lt (l:=l) (i:=i) (by rw [hk.1];decide)
    cases h;omega
   ·cases h
  ·intro i nm d ks i' nm' h
   simp only [pA]at h
   split at h
   ·cases h
   ·rename_i t i1 nm1 h1
    have a:=hT _ _ _ _ _ _ _ h1
    have b:=hB _ _ _ _ _ _ _ a.2 h
    omega
  ·intro i nm d acc ks i' nm' hi h
   simp only [pB]at h
   split at h
   ·rename_i hm
    have:=isM_lt hm
    split at h
    ·cases h
    ·rename_i t i1 nm1 h1
     have a:=hT _ _ _ _ _ _ _ h1
     have b:=hB _ _ _ _ _ _ _ a.2 h
     omega
   ·cases h;omega
theorem p_nlen(l:List Sg): ∀ n:Nat,
 (∀ i nm d most t i' nm',pT l n i nm d most=some (t,i',nm')→nm'.length+i≤nm.length+i')∧
 (∀ i nm d most t q t' i' nm',pL l n i nm d most t q=some (t',i',nm')→nm'.length+i≤nm.length+i')∧
 (∀ i nm d most t q i' nm',pP l n i nm d most=some (t,q,i',nm')→nm'.length+i≤nm.length+i')∧
 (∀ i nm d ks i' nm',pA l n i nm d=some (ks,i',nm')→nm'.length+i≤nm.length+i')∧
 (∀ i nm d acc ks i' nm',pB l n i nm d acc=some (ks,i',nm')→nm'.length+i≤nm.length+i'):=by
 intro n
 induction n with
 |zero=>refine ⟨?_, ?_, ?_, ?_, ?_⟩<;>intros<;>simp_all [pT,pL,pP,pA,pB]
 |succ n ih=>
  obtain ⟨hT,hL,hP,hA,hB⟩:=ih
  refine ⟨?_, ?_, ?_, ?_, ?_⟩
  ·intro i nm d most t i' nm' h
   simp only [pT]at h
   split at h
   ·cases h
   split at h
   ·cases h
   ·rename_i t1 q1 i1 nm1 h1
    have a:=hP _ _ _ _ _ _ _ _ h1
    have b:=hL _ _ _ _ _ _ _ _ _ h
    omega
  ·intro i nm d most t q t' i' nm' h
   simp only [pL]at h
   split at h
   ·split at h
    ·cases h
    ·rename_i y i1 nm1 h1
     have a:=hT _ _ _ _ _ _ _ h1
     have b:=hL _ _ _ _ _ _ _ _ _ h
     omega
   ·cases h;omega
  ·intro i nm d most t q i' nm' h
   simp only [pP]at h
   split at h
   ·split at h
    ·cases h
    ·rename_i ks i1 nm1 h1
     have a:=hA _ _ _ _ _ _ h1
     split at h
     ·cases h;omega
     ·cases h
   split at h
   ·split at h
    ·cases h;omega
    ·split at h
     ·cases h
     ·rename_i t1 i1 nm1 h1
      have a:=hT _ _ _ _ _ _ _ h1
      split at h
      ·cases h;omega
      ·cases h
   split at h
   ·split at h
    ·cases h;omega
    ·split at h
     ·cases h
     ·rename_i ks i1 nm1 h1
      have a:=hA _ _ _ _ _ _ h1
      split at h
      ·split at h
       ·cases h
       ·rename_i r i2 nm2 h2
        have b:=hT _ _ _ _ _ _ _ h2
        split at h
        ·cases h;omega
        ·cases h
      ·split at h
       ·cases h;omega
       ·cases h
   split at h
   ·cases h;omega
   split at h
   ·cases h
    unfold varAt
    split
    ·simp only;omega
    ·simp only [List.length_append,List.length_cons,List.length_nil];omega
   split at h
   ·cases h;omega
   split at h
   ·split at h
    ·cases h
    ·rename_i x i1 nm1 h1
     have a:=hT _ _ _ _ _ _ _ h1
     cases h;omega
   split at h
   ·cases h;omega
   ·cases h
  ·intro i nm d ks i' nm' h
   simp only [pA]at h
   split at h
   ·cases h
   ·rename_i t i1 nm1 h1
    have a:=hT _ _ _ _ _ _ _ h1
    have b:=hB _ _ _ _ _ _ _ h
    omega
  ·intro i nm d acc ks i' nm' h
   simp only [pB]at h
   split at h
   ·split at h
    ·cases h
    ·rename_i t i1 nm1 h1
     have a:=hT _ _ _ _ _ _ _ h1
     have b:=hB _ _ _ _ _ _ _ h
     omega
   ·cases h;omega
end Go.Vm
set_option autoImplicit false
set_option maxHeartbeats 8000000
set_option maxRecDepth 100000
set_option linter.unusedSimpArgs false
set_option linter.unusedVariables false
namespace Go.Vm
structure SgP (x:Sg):Prop where
 mark:x.kind=4→x.text=[40]∨x.text=[41]∨x.text=[91]∨x.text=[93]∨x.text=[44]∨x.text=[124]
 text:x.text.length≤3000
 num:0≤x.num∧x.num≤9999999999
 at_:0≤x.at_∧x.at_≤3000
theorem subs_le(s:Str) (i j:Nat):(subs s i j).length≤s.length:=by
 unfold subs;simp only [List.length_drop,List.length_take];omega
theorem sgn_P {s:Str} (hl:s.length≤3000) {i:Nat} {c:UInt8} (hc:s[i]? =some c):SgP (sgn s i c).1∧(sgn s i c).1.near=false:=by
 have hi:i < s.length:=(List.getElem?_eq_some_iff.1 hc).1
 have hs: ∀ a b,(subs s a b).length≤3000:=fun a b=>Nat.le_trans (subs_le s a b) hl
 have mk: ∀ (k:Int) (t:Str) (n:Int),k ≠ 4→t.length≤3000→0≤n→n≤9999999999→SgP ⟨k,t,n,i,false⟩:=fun k t n h1 h2 h3 h4=>
  ⟨fun e=>absurd e h1,h2,⟨h3,h4⟩,by show 0≤(i:Int)∧(i:Int)≤3000;omega⟩
 have hb:SgP (bad s i).1∧(bad s i).1.near=false:=⟨mk 6 _ 0 (by decide) (hs _ _) (by decide) (by decide),rfl⟩
 unfold sgn
 split
 ·split
  ·refine ⟨mk _ _ 0 ?_ (hs _ _) (by decide) (by decide),rfl⟩
   split<;>decide
  ·exact hb
 split
 ·split
  ·have:=nf_bd (s.drop i) 0 (by decide) (by decide)
   exact ⟨mk 3 [] _ (by decide) (by simp) this.1 this.2,rfl⟩
  ·exact hb
 split
 ·split
  ·exact ⟨mk 1 _ 0 (by decide) (hs _ _) (by decide) (by decide),rfl⟩
  ·exact hb
 split
 ·exact ⟨mk 1 _ 0 (by decide) (hs _ _) (by decide) (by decide),rfl⟩
 split
 ·rename_i h
  refine ⟨⟨fun _=> ?_,hs _ _,⟨Int.le_refl 0,by show (0:Int)≤9999999999;decide⟩,by show 0≤(i:Int)∧(i:Int)≤3000;omega⟩,rfl⟩
  show subs s i (i+1)=[40]∨subs s i (i+1)=[41]∨subs s i (i+1)=[91]∨subs s i (i+1)=[93]∨subs s i (i+1)=[44]∨subs s i (i+1)=[124]
  rw [subs_one hc]
  simp only [Bool.or_eq_true]at h
  rcases h with ((((h|h)|h)|h)|h)|h
  ·rw [isB_eq (n:=40) h];left;rfl
  ·rw [isB_eq (n:=41) h];right;left;rfl
  ·rw [isB_eq (n:=91) h];right;right;left;rfl
  ·rw [isB_eq (n:=93) h];right;right;right;left;rfl
  ·rw [isB_eq (n:=44) h];right;right;right;right;left;rfl
  ·rw [isB_eq (n:=124) h];right;right;right;right;right;rfl
 split
 ·exact ⟨mk 5 _ 0 (by decide) (hs _ _) (by decide) (by decide),rfl⟩
 split
 ·split
  ·exact ⟨mk 1 _ 0 (by decide) (hs _ _) (by decide) (by decide),rfl⟩
  ·exact hb
 ·exact hb
theorem sgD_cons_succ(x:Sg) (l:List Sg) (k:Nat):sgD (x::l) (k+1)=sgD l k:=by
 unfold sgD;simp [List.getD_eq_getElem?_getD]
theorem sgD_cons_zero(x:Sg) (l:List Sg):sgD (x::l) 0=x:=rfl
theorem sgs_P {s:Str} (hl:s.length≤3000): ∀ (n i:Nat),∀ x ∈ sgs s n i,SgP x
 |0,i,x,h=>by simp [sgs]at h
 |n+1,i,x,h=>by
  simp only [sgs]at h
  split at h
  ·cases h
  ·rename_i c hc
   split at h
   ·exact sgs_P hl n _ x h
   split at h
   ·exact sgs_P hl n _ x h
   ·rcases List.mem_cons.1 h with h|h
    ·subst h
     have:=(sgn_P hl hc).1
     exact ⟨this.mark,this.text,this.num,this.at_⟩
    ·exact sgs_P hl n _ x h
theorem sgn_40 {s:Str} {e:Nat} (h:s[e]? =some 40):(sgn s e 40).1=⟨4,[40],0,e,false⟩:=by
 have h1:(inB 97 122 40||greatB 40)=false:=by decide
 have h2:inB 48 57 40=false:=by decide
 have h3:isB 39 40=false:=by decide
 have h4:(isB 33 40||isB 59 40)=false:=by decide
 have h5:(isB 40 40||isB 41 40||isB 91 40||isB 93 40||isB 44 40||isB 124 40)=true:=by decide
 unfold sgn
 rw [h1,h2,h3,h4,h5,subs_one h]
 rfl
theorem sgs_near {s:Str} (hl:s.length≤3000): ∀ (n i:Nat),s.length≤i+n→i≤s.length→ ∀ k,(sgD (sgs s n i) k).near=true→isM (sgs s n i) (k+1) [40]=true
 |0,i,hn,hi,k,h=>by simp [sgs,sgD,sg0]at h
 |n+1,i,hn,hi,k,h=>by
  simp only [sgs]at h ⊢
  split at h
  ·simp [sgD,sg0]at h
  ·rename_i c hc
   have hlt:i < s.length:=(List.getElem?_eq_some_iff.1 hc).1
   split at h
   ·rename_i hb
    rw [if_pos hb]
    exact sgs_near hl n (i+1) (by omega) (by omega) k h
   rename_i hb
   rw [if_neg hb]
   split at h
   ·rename_i h37
    have hp:=pre_lt (p:=fun d=> !isB 10 d) (s:=s) (i:=i) (by omega)
    have hp1:1≤pre (fun d=> !isB 10 d) (s.drop i):=pre_pos hc (by have:=isB_eq (n:=37) h37;subst this;rfl)
    rw [if_pos h37]
    exact sgs_near hl n _ (by omega) hp k h
   ·rename_i h37
    rw [if_neg h37]
    obtain ⟨g1,g2⟩:=sgn_end s i c hc
    cases k with
    |zero=>
     rw [sgD_cons_zero]at h
     have h40:s[(sgn s i c).2]? =some 40:=of_decide_eq_true h
     have hlt2:(sgn s i c).2 < s.length:=(List.getElem?_eq_some_iff.1 h40).1
     cases n with
     |zero=>omega
     |succ n=>
      unfold isM
      rw [sgD_cons_succ]
      have b1:blankB 40=false:=by decide
      have b2:isB 37 40=false:=by decide
      simp only [sgs,h40,b1,b2,Bool.false_eq_true,if_false,sgD_cons_zero,Sg.near',sgn_40 h40]
      decide
    |succ k=>
     rw [sgD_cons_succ]at h
     have:=sgs_near hl n (sgn s i c).2 (by omega) g2 k h
     unfold isM at this ⊢
     rw [sgD_cons_succ]
     exact this
theorem good_signs {s:Str} (hl:s.length≤3000):GoodL (signs s):=by
 have hP: ∀ i,SgP (sgD (signs s) i):=by
  intro i
  unfold sgD
  rw [List.getD_eq_getElem?_getD]
  cases h:(signs s)[i]? with
  |none=>exact ⟨fun e=>absurd e (by decide),by simp [sg0],⟨by decide,by decide⟩,⟨by decide,by decide⟩⟩
  |some x=>exact sgs_P hl _ _ x (List.mem_of_getElem? h)
 exact ⟨Nat.le_trans (sgs_len s _ _) hl,fun i=>(hP i).mark,fun i h=>sgs_near hl s.length 0 (by omega) (by omega) i h,fun i=>(hP i).text,fun i=>(hP i).num,fun i=>(hP i).at_⟩
end Go.Vm
