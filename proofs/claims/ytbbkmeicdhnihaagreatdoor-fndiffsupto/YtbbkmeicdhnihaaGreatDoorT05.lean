import Derived.Test.YtbbkmeicdhnihaaGreatDoorT03
import Derived.Test.YtbbkmeicdhnihaaGreatDoorT04
import Derived.Lib.ItoaNum
open Nat renaming reduceAdd → qa, reduceSub → qb, reduceMul → qc, reduceEqDiff → qd, reduceLeDiff → qe, reduceBEq → qf
set_option autoImplicit false
set_option maxRecDepth 100000
set_option linter.unusedSimpArgs false
set_option linter.unusedVariables false
namespace Go.Vm
end Go.Vm
namespace Go.Vm
end Go.Vm
namespace Go.Vm
theorem zu {α:Type} {f:α→V} {l:List α} {i:Nat} {x:α} (h:l[i]? =some x):(l.map f)[i]? =some (f x):=by simp [h]
end Go.Vm
namespace Go.Vm
end Go.Vm
namespace Go.Vm
def kT(n:Int):Nat→List Int→Int
 |_,[]=> -1
 |i,x::xs=>if n=x then (i:Int)else kT n (i+1) xs
theorem qiA(n:Int): ∀ (l:List Int) (i:Nat),(n ∈ l→(i:Int)≤kT n i l∧kT n i l < i+l.length)∧(n ∉ l→kT n i l= -1)
 |[],i=>⟨fun h=>(by cases h),fun _=>rfl⟩
 |x::xs,i=>by
  obtain ⟨h1,h2⟩:=qiA n xs (i+1)
  by_cases h:n=x
  ·subst h;simp [kT];omega
  ·simp only [kT,if_neg h,List.mem_cons,h,false_or,List.length_cons]
   exact ⟨fun hm=>by have:=h1 hm;omega,h2⟩
theorem qsA(n:Int) (l:List Int):0≤kT n 0 l↔n ∈ l:=by
 obtain ⟨h1,h2⟩:=qiA n l 0
 by_cases h:n ∈ l
 ·simp only [h,iff_true];have:=h1 h;omega
 ·simp only [h,iff_false,h2 h];omega
theorem qqU(τ:Bool) (l:List Int) (n:Int) (hlim:l.length≤2^40):
 lw qg Jy ⟨[(0,.i τ (l.map I)),(1,I n),(7,I l.length),(8,I (0:Nat))],[]⟩=if n ∈ l then some (.ret,⟨[(4,I (kT n 0 l))],[]⟩)else some (.exit 0,⟨[],[]⟩):=by
 refine ZN l (fun i r=>lw qg Jy ⟨[(0,.i τ (l.map I)),(1,I n),(7,I l.length),(8,I i)],[]⟩=if n ∈ r then some (.ret,⟨[(4,I (kT n i r))],[]⟩)else some (.exit 0,⟨[],[]⟩)) (by omega) ?_ ?_
 ·rw [ql]
  simp only [go_sem,qa,qb,qc,qd,qe,qf,reduceCtorEq,qcd,List.not_mem_nil]
 ·intro i t r ht hi hlt e1 hir hm hr ih
  have g:=zu (f:=I) ht
  have a1:=qZ (τ:=τ) (T:=[]) (e:=1) g rfl
  rw [ql]
  by_cases he:n=t
  ·subst he
   simp only [go_sem,qa,qb,qc,qd,qe,qf,reduceCtorEq,qcd,hlt,a1,g,e1,List.mem_cons,true_or,kT]
  ·have he': ¬ t=n:=fun h=>he h.symm
   simp only [go_sem,qa,qb,qc,qd,qe,qf,reduceCtorEq,qcd,hlt,a1,g,e1,he,he',List.mem_cons,false_or,kT]
   exact ih
theorem qqV(τ:Bool) (l:List Int) (n:Int) (hlim:l.length≤2^40):cr qg qey [.i τ (l.map I),I n]=some (I (kT n 0 l)):=by
 rw [qo qyN rfl]
 have h:=qqU τ l n hlim
 simp only [Int.natCast_zero]at h
 by_cases hm:n ∈ l
 ·rw [if_pos hm]at h
  simp only [go_sem,qa,qb,qc,qd,qe,qf,reduceCtorEq,Y6,h]
 ·rw [if_neg hm]at h
  simp only [go_sem,qa,qb,qc,qd,qe,qf,reduceCtorEq,Y6,h,(qiA n l 0).2 hm]
theorem qko(τ:Bool) (l:List Int) (n:Int) (hlim:l.length≤2^40):cr qg qha [.i τ (l.map I),I n]=some (B (decide (n ∈ l))):=by
 rw [qo qyJ rfl]
 have h:=qqV τ l n hlim
 have hm:decide (0≤kT n 0 l)=decide (n ∈ l):=decide_eq_decide.2 (qsA n l)
 simp only [go_sem,qa,qb,qc,qd,qe,qf,reduceCtorEq,KK,h,hm]
end Go.Vm
namespace Go.Vm
mutual
def jh(l:List Int):Tm→List Int
 | .mk k _ n ks=>jI (if k=1∧n ∉ l then l++[n]else l) ks
def jI(l:List Int):List Tm→List Int
 |[]=>l
 |t::ts=>jI (jh l t) ts
end
def qG(t:Tm):List Int:=jh [] t
mutual
theorem qhY: ∀ (t:Tm) (l:List Int),(jh l t).length≤l.length+nT t
 | .mk k s n ks,l=>by
   simp only [jh,nT]
   have:=qlc ks (if k=1∧n ∉ l then l++[n]else l)
   have h2:(if k=1∧n ∉ l then l++[n]else l).length≤l.length+1:=by split<;>simp
   omega
theorem qlc: ∀ (ts:List Tm) (l:List Int),(jI l ts).length≤l.length+nTs ts
 |[],l=>by simp [jI,nTs]
 |t::ts,l=>by
  simp only [jI,nTs]
  have:=qhY t l
  have:=qlc ts (jh l t)
  omega
end
theorem qrb(τ:Bool) (vs:List V) (ts:List Tm) (n:Nat) (hl:ts.length=n) (hv:RL BT ts vs) (hlim:n≤Lm)
 (hc: ∀ t ∈ ts,∀ (l:List Int) v,l.length+nT t≤2^32→BT t v→cw qg qbd [.o 1 (l.map I),v]=some (.o 1 ((jh l t).map I),[.d,v])) (m:Nat): ∀ i (l:List Int),i+m=n→
 l.length+nTs (ts.drop i)≤2^32→
 lw qg qbE ⟨[(0,.s (100000,0) 0 l.length),(23,.i τ vs),(24,I n),(25,I i)],[((100000,0),1,l.map I)]⟩=
  some (.exit 0,⟨[(0,.s (100000,0) 0 (jI l (ts.drop i)).length)],[((100000,0),1,(jI l (ts.drop i)).map I)]⟩):=by
 have hn:=qS hv
 rw [hl]at hn
 induction m with
 |zero=>
  intro i l hi hb
  obtain rfl:i=n:=by omega
  rw [ql]
  have h1: ¬ (i:Int) < (i:Int):=by omega
  rw [List.drop_eq_nil_of_le (by omega),jI]
  simp only [go_sem,qa,qb,qc,qd,qe,qf,reduceCtorEq,qfe,h1]
 |succ m ih=>
  intro i l hi hb
  rw [ql]
  have hlt:(i:Int) < (n:Int):=by omega
  obtain ⟨t,ht⟩:=qV (l:=ts) (i:=i) (by omega)
  obtain ⟨v,g,hbt⟩:=yJ hv ht
  rw [zP ht,jI]
  rw [zP ht,nTs]at hb
  have hcc:=hc t (List.mem_of_getElem? ht) l v (by omega) hbt
  have hlen:=qhY t l
  have a1:=fun T=>qZ (τ:=τ) (T:=T) g (Qd hbt)
  unfold Lm at hlim
  have e1:w64 ((i:Int)+1)=((i+1:Nat):Int):=by rw [qm]<;>omega
  have i1:=ih (i+1) (jh l t) (by omega) (by omega)
  obtain ⟨σ1,ks,rfl,-⟩:=qR hbt
  simp only [go_sem,qa,qb,qc,qd,qe,qf,reduceCtorEq,qfe,hlt,a1,g,hcc,e1]
  exact i1
theorem qsQ: ∀ (t:Tm),WT t→ ∀ (l:List Int) v,l.length+nT t≤2^32→BT t v→cw qg qbd [.o 1 (l.map I),v]=some (.o 1 ((jh l t).map I),[.d,v]):=by
 refine jH ?_
 intro k s n ks ih hw l v hb hbt
 obtain ⟨τ,vs,rfl,hv⟩:=qR hbt
 rw [qI qx6 rfl]
 simp only [nT]at hb
 have hlp:=fun l hb=>qrb τ vs ks ks.length rfl hv (km hw) (fun t ht=>ih t ht (yt hw t ht)) ks.length 0 l (by omega) hb
 simp only [List.drop_zero,Int.natCast_zero]at hlp
 rw [jh]
 by_cases h1:k=1
 ·subst h1
  by_cases h2:n ∈ l
  ·have h:=hlp l (by omega)
   have hco:=qko true l n (by omega)
   rw [if_neg (fun h=>h.2 h2)]
   simp only [go_sem,qa,qb,qc,qd,qe,qf,reduceCtorEq,Z6,hco,h2,qw,qS hv,h]
  ·have h:=hlp (l++[n]) (by simp only [List.length_append,List.length_cons,List.length_nil];omega)
   have hco:=qko true l n (by omega)
   rw [if_pos ⟨rfl,h2⟩]
   have b1:(l.length+1)*8≤lim:=by rw [qM];omega
   have b2:l.length+1≤lim:=by rw [qM];omega
   simp only [List.length_append,List.length_cons,List.length_nil,Nat.zero_add]at h
   simp only [go_sem,qa,qb,qc,qd,qe,qf,reduceCtorEq,Z6,hco,h2,qw,qS hv,b1,b2,h]
 ·have h:=hlp l (by omega)
  rw [if_neg (fun h=>h1 h.1)]
  simp only [go_sem,qa,qb,qc,qd,qe,qf,reduceCtorEq,Z6,h1,qw,qS hv,h]
theorem qmI(t:Tm) (hw:WT t) (hn:nT t≤2^32) (v:V) (hb:BT t v):cr qg qbc [v]=some (.o 1 ((qG t).map I)):=by
 have h:=qsQ t hw [] v (by simpa using hn) hb
 obtain ⟨τ,vs,rfl,-⟩:=qR hb
 simp only [List.map_nil]at h
 rw [qo qx4 rfl,qG]
 simp only [go_sem,qa,qb,qc,qd,qe,qf,reduceCtorEq,Kn,h]
end Go.Vm
namespace Go.Vm
def Qj(caps:List V):Prop:= ∀ c ∈ caps,∃ xs i o,c= .q true xs i o
theorem qjX {caps:List V} (h:Qj caps) (m:Nat) (T:Mem):qy (qz (m+1)) T caps=(caps,T):=by
 induction caps with
 |nil=>rfl
 |cons c cs ih=>
  obtain ⟨xs,i,o,rfl⟩:=h c (by simp)
  simp only [qy,qlR,ih fun u hu=>h u (by simp [hu])]
theorem qjY {caps:List V} (h:Qj caps) (τ:Bool):qT τ caps=caps:=by
 induction caps with
 |nil=>rfl
 |cons c cs ih=>
  obtain ⟨xs,i,o,rfl⟩:=h c (by simp)
  simp only [qT,zb,ih fun u hu=>h u (by simp [hu])]
theorem qj4 {caps:List V} (h:Qj caps):ya caps=true:=by
 induction caps with
 |nil=>rfl
 |cons c cs ih=>
  obtain ⟨xs,i,o,rfl⟩:=h c (by simp)
  simp only [ya,zk,ih fun u hu=>h u (by simp [hu]),Bool.and_self]
theorem qj0 {caps:List V} (h:Qj caps) (d:Nat):qB d caps=caps:=by
 induction caps with
 |nil=>rfl
 |cons c cs ih=>
  obtain ⟨xs,i,o,rfl⟩:=h c (by simp)
  simp only [qB,qN,ih fun u hu=>h u (by simp [hu])]
theorem qjZ {caps:List V} (h:Qj caps):YD caps=[]:=by
 induction caps with
 |nil=>rfl
 |cons c cs ih=>
  obtain ⟨xs,i,o,rfl⟩:=h c (by simp)
  simp only [YD,xd,ih fun u hu=>h u (by simp [hu]),List.append_nil]
theorem qj1 {caps:List V} (h:Qj caps) (d i:Nat) (nm:Bool):zV d i nm caps=caps:=by
 induction caps generalizing i with
 |nil=>rfl
 |cons c cs ih=>
  obtain ⟨xs,a,o,rfl⟩:=h c (by simp)
  simp only [zV,qxu,ih (fun u hu=>h u (by simp [hu]))]
theorem qj3 {caps:List V} (h:Qj caps) (tb:List Key):z8 tb caps=caps:=by
 induction caps with
 |nil=>rfl
 |cons c cs ih=>
  obtain ⟨xs,i,o,rfl⟩:=h c (by simp)
  simp only [z8,qAu,ih fun u hu=>h u (by simp [hu])]
theorem qj2 {caps:List V} (h:Qj caps) (d j:Nat):zx d j caps=(caps,j,[]):=by
 induction caps generalizing j with
 |nil=>rfl
 |cons c cs ih=>
  obtain ⟨xs,i,o,rfl⟩:=h c (by simp)
  simp only [zx,qxH,ih (fun u hu=>h u (by simp [hu])),List.append_nil]
theorem qpz {caps:List V} (h:Qj caps) (T:Mem):jd T caps=caps:=by
 induction caps with
 |nil=>rfl
 |cons c cs ih=>
  obtain ⟨xs,i,o,rfl⟩:=h c (by simp)
  simp only [jd,qlR,zb,ih fun u hu=>h u (by simp [hu])]
@[go_sem] theorem qU8 {α β:Type} {f:α→β} {g:β→V} {l:List α}:((l.map f).map g).take l.length=(l.map f).map g:=by
 apply List.take_of_length_le;simp
mutual
def rnm(φ:Int→Int):Tm→Tm
 | .mk k s n ks=> .mk k s (if k=1 then φ n else n) (xA φ ks)
def xA(φ:Int→Int):List Tm→List Tm
 |[]=>[]
 |t::ts=>rnm φ t::xA φ ts
end
theorem qjH(φ:Int→Int): ∀ (ts:List Tm),xA φ ts=ts.map (rnm φ)
 |[]=>rfl
 |t::ts=>by simp only [xA,List.map_cons,qjH φ ts]
theorem qo4(φ:Int→Int) (t:Tm):rnm φ t= .mk t.kind t.name (if t.kind=1 then φ t.num else t.num) (t.kids.map (rnm φ)):=by
 cases t;simp only [rnm,qjH];rfl
theorem qnf {α β:Type} (f:α→β) {ts:List α} {i:Nat} {t:α} (h:ts[i]? =some t):(ts.take i).map f++[f t]=(ts.take (i+1)).map f:=by
 rw [List.take_succ_eq_append_getElem (List.getElem?_eq_some_iff.1 h).1]
 simp [(List.getElem?_eq_some_iff.1 h).2]
theorem qAv(g:Nat) (caps:List V) (hs:Qj caps) (φ:Int→Int) (τ:Bool) (vs:List V) (ts:List Tm) (hv:RL BT ts vs) (hlim:ts.length≤Lm) (k num:Int) (s:Str)
 (hc: ∀ t ∈ ts,∀ v,BT t v→cr qg Ym [v,.f (.func g) [] caps]=some (oT (rnm φ t))):
 lw qg Jv ⟨[(1,.f (.func g) [] caps),(4,.p (100000,0) 0 0),(5,.p (100000,1) 0 0),(19,.i τ vs),(20,I ts.length),(21,I 0)],
  [((100000,0),4,[.a [I 0,S [],I 0,.s (100000,2) 0 0]]),((100000,1),4,[.a [I k,S s,I num,.s (100000,3) 0 0]]),((100000,2),4,[]),((100000,3),4,[])]⟩=
  some (.exit 0,⟨[(4,.p (100000,0) 0 0),(5,.p (100000,1) 0 0)],
   [((100000,0),4,[.a [I 0,S [],I 0,.s (100000,2) 0 0]]),((100000,1),4,[.a [I k,S s,I num,.s (100000,3) 0 ts.length]]),((100000,2),4,[]),((100000,3),4,(ts.map (rnm φ)).map oT)]⟩):=by
 unfold Lm at hlim
 refine ZN ts (fun i r=> ∀ acc:List Tm,acc.length=i→lw qg Jv ⟨[(1,.f (.func g) [] caps),(4,.p (100000,0) 0 0),(5,.p (100000,1) 0 0),(19,.i τ vs),(20,I ts.length),(21,I i)],
  [((100000,0),4,[.a [I 0,S [],I 0,.s (100000,2) 0 0]]),((100000,1),4,[.a [I k,S s,I num,.s (100000,3) 0 acc.length]]),((100000,2),4,[]),((100000,3),4,acc.map oT)]⟩=
  some (.exit 0,⟨[(4,.p (100000,0) 0 0),(5,.p (100000,1) 0 0)],
   [((100000,0),4,[.a [I 0,S [],I 0,.s (100000,2) 0 0]]),((100000,1),4,[.a [I k,S s,I num,.s (100000,3) 0 ts.length]]),((100000,2),4,[]),((100000,3),4,(acc++r.map (rnm φ)).map oT)]⟩)) (by omega) ?_ ?_ [] rfl
 ·intro acc ha
  rw [ql]
  simp only [go_sem,qa,qb,qc,qd,qe,qf,reduceCtorEq,qfg,ha,List.map_nil]
 ·intro i t r ht hi hlt e1 hir hm hr ih acc ha
  obtain ⟨v,gv,hbt⟩:=yJ hv ht
  have hcc:=hc t hm v hbt
  have a1:=fun T=>qZ (τ:=τ) (T:=T) gv (Qd hbt)
  have i1:=ih (acc++[rnm φ t]) (by simp;omega)
  obtain ⟨σ1,ks,rfl,-⟩:=qR hbt
  rw [qv]at hcc
  have b1:(acc.length+1)*56≤lim:=by rw [qM];omega
  have b2:acc.length+1≤lim:=by rw [qM];omega
  have rp:=fun k ob (y:V) (ys:List V)=>QA k ob (acc.map oT) (y::ys) (Q1 _)
  simp only [List.length_append,List.length_cons,List.length_nil,Nat.zero_add]at i1
  rw [ql]
  simp only [go_sem,qa,qb,qc,qd,qe,qf,reduceCtorEq,qfg,hlt,a1,gv,rp,hcc,e1,qjX hs,qjY hs,qj4 hs,qj0 hs,qjZ hs,qj1 hs,qj3 hs,qj2 hs,b1,b2,List.map_cons]
  rw [i1]
  simp
theorem qoZ(g:Nat) (caps:List V) (hs:Qj caps) (φ:Int→Int) (hg: ∀ n,cr qg g ([I n]++caps)=some (I (φ n))):
 ∀ (t:Tm),WT t→ ∀ v,BT t v→cr qg Ym [v,.f (.func g) [] caps]=some (oT (rnm φ t)):=by
 refine jH ?_
 intro k s n ks ih hw v hbt
 obtain ⟨τ,vs,rfl,hv⟩:=qR hbt
 rw [qo qyr rfl,qo4,qv]
 have hlp:=fun num=>qAv g caps hs φ τ vs ks hv (km hw) k num s (fun t ht v hb=>ih t ht (yt hw t ht) v hb)
 have hg':=hg n
 simp only [List.cons_append,List.nil_append]at hg'
 by_cases h1:k=1
 ·subst h1
  have h:=hlp (φ n)
  simp only [go_sem,qa,qb,qc,qd,qe,qf,reduceCtorEq,Y2,qS hv,h,hg',qjX hs,qjY hs,qj4 hs,qj0 hs,qjZ hs,qj1 hs,qj3 hs,qj2 hs,qpz hs]
 ·have h:=hlp n
  simp only [go_sem,qa,qb,qc,qd,qe,qf,reduceCtorEq,Y2,qS hv,h,h1,qjX hs,qjY hs,qj4 hs,qj0 hs,qjZ hs,qj1 hs,qj3 hs,qj2 hs,qpz hs]
end Go.Vm
namespace Go.Vm
theorem qni {α:Type} {f:α→α}: ∀ {l:List α},(∀ x ∈ l,f x=x)→l.map f=l
 |[],_=>rfl
 |x::l,h=>by rw [List.map_cons,h x (by simp),qni fun u hu=>h u (by simp [hu])]
theorem qAx: ∀ (t:Tm),rnm (fun n=>n) t=t:=by
 refine jH ?_
 intro k s n ks ih
 simp only [rnm,qjH,qni ih,ite_self]
theorem qrW(n:Int):cr qg qbh [I n]=some (I n):=by
 rw [qo qyc rfl]
 simp only [go_sem,qa,qb,qc,qd,qe,qf,reduceCtorEq,Ks]
theorem qfD(t:Tm) (hw:WT t) (v:V) (hb:BT t v):cr qg Jo [v]=some (oT t):=by
 have h:=qoZ qbh [] (fun _ h=>by cases h) (fun n=>n) (fun n=>qrW n) t hw v hb
 rw [qAx]at h
 have h':cr qg Ym [v,Fc qbh]=some (oT t):=h
 obtain ⟨τ,vs,rfl,hv⟩:=qR hb
 rw [qo qyb rfl,qv]
 rw [qv]at h'
 simp only [go_sem,qa,qb,qc,qd,qe,qf,reduceCtorEq,Kr,h']
def qsq(fr:Int) (l:List Int):Int→Int:=fun n=>w64 (fr+kT n 0 l)
def zH(c:Cl):Tm:= .mk 4 [58,45] 0 [c.head,c.body]
theorem qB6(s:Str) (xs:List V) (hc:qC xs=true):cw qg qg1 [S s,.o 4 xs]=some (.a [I 4,S s,I 0,.o 4 xs],[S s,.d]):=by
 rw [qI qyv rfl]
 have hk: ∀ d,qB d xs=xs:=fun d=>ZR d xs hc
 simp only [go_sem,qa,qb,qc,qd,qe,qf,reduceCtorEq,KA,qw,hc,hk]
theorem qfL(c:Cl) (hw:wCl c) (v:V) (h:bCl c v):cr qg Yk [v]=some (oT (zH c)):=by
 obtain ⟨τ0,vs0,τ1,vs1,rfl,h0,h1⟩:=h
 have e1:=qfD c.head hw.1.1 _ (kJ (τ:=τ0) h0)
 have e2:=qfD c.body hw.2.1.1 _ (kJ (τ:=τ1) h1)
 rw [qv]at e1 e2
 rw [qo qxO rfl]
 have e3:=qB6 [58,45] [oT c.head,oT c.body] (by simp only [qC,JT,Bool.and_self])
 rw [qv c.head,qv c.body]at e3
 simp only [go_sem,qa,qb,qc,qd,qe,qf,reduceCtorEq,Kf,e1,e2,e3]
 rw [qv (zH c)]
 simp only [zH,yq,yr,yB,zU,List.map_cons,List.map_nil,qv c.head,qv c.body]
def qxo(φ:Int→Int) (c:Cl):Cl:=⟨rnm φ c.head,rnm φ c.body,c.file⟩
def qQG(c:Cl):Cl:=qxo (qsq 0 (qG (zH c))) c
theorem JU(c:Cl) (hw:wCl c):WT (zH c)∧nT (zH c)≤2^32:=by
 refine ⟨xS ⟨by decide,by decide⟩ (by decide) ⟨by decide,by decide⟩ (by show 2≤Lm;decide) ?_, ?_⟩
 ·intro u hu
  simp only [List.mem_cons,List.not_mem_nil,or_false]at hu
  rcases hu with rfl|rfl
  ·exact hw.1.1
  ·exact hw.2.1.1
 ·have h1:=hw.1.2
  have h2:=hw.2.1.2
  unfold Lm at h1 h2
  simp only [zH,nT,nTs]
  omega
end Go.Vm
namespace Go.Vm
theorem qwX(τ:Bool) (vs:List V) (ts:List Tm) (n:Nat) (hl:ts.length=n) (hv:RL BT ts vs) (hlim:n≤Lm)
 (hc: ∀ t ∈ ts,∀ v,BT t v→cr qg Yr [v]=some (oT t)) (m:Nat): ∀ i,i+m=n→
 lw qg qb6 ⟨[(0,.i τ vs),(3,.s (100000,0) 0 i),(4,I i)],[((100000,0),4,(ts.take i).map oT)]⟩=
  some (.exit 0,⟨[(3,.s (100000,0) 0 n)],[((100000,0),4,ts.map oT)]⟩):=by
 unfold Lm at hlim
 have hn:=qS hv
 rw [hl]at hn
 induction m with
 |zero=>
  intro i hi
  obtain rfl:i=n:=by omega
  rw [ql]
  have h1: ¬ (i:Int) < (i:Int):=by omega
  rw [List.take_of_length_le (Nat.le_of_eq hl)]
  simp only [go_sem,qa,qb,qc,qd,qe,qf,reduceCtorEq,qfp,hn,h1]
 |succ m ih=>
  intro i hi
  rw [ql]
  have hlt:(i:Int) < (n:Int):=by omega
  obtain ⟨t,ht⟩:=qV (l:=ts) (i:=i) (by omega)
  obtain ⟨v,gv,hbt⟩:=yJ hv ht
  have hcc:=hc t (List.mem_of_getElem? ht) v hbt
  have a1:=fun T=>qZ (τ:=τ) (T:=T) gv (Qd hbt)
  have e1:w64 ((i:Int)+1)=((i+1:Nat):Int):=by rw [qm]<;>omega
  have i1:=ih (i+1) (by omega)
  obtain ⟨σ1,ks,rfl,-⟩:=qR hbt
  rw [qv]at hcc
  have b1:(i+1)*56≤lim:=by rw [qM];omega
  have b2:i+1≤lim:=by rw [qM];omega
  have ln:(ts.take i).length=i:=by simp;omega
  have tk:(ts.take i).map oT=((ts.take i).map oT).take i:=
   (List.take_of_length_le (l:=(ts.take i).map oT) (by rw [List.length_map,ln];exact Nat.le_refl _)).symm
  have r4:(ts.take i).map oT++[oT t]=(ts.take (i+1)).map oT:=qnf oT ht
  rw [qv t]at r4
  simp only [go_sem,qa,qb,qc,qd,qe,qf,reduceCtorEq,qfp,hn,hlt,a1,gv,hcc,e1, ← tk,r4,b1,b2,ln]
  exact i1
theorem qwY(τ:Bool) (vs:List V) (ts:List Tm) (hv:RL BT ts vs) (hlim:ts.length≤Lm)
 (hc: ∀ t ∈ ts,∀ v,BT t v→cr qg Yr [v]=some (oT t)):cr qg qhJ [.i τ vs]=some (.o 4 (ts.map oT)):=by
 rw [qo qzN rfl]
 have h:=qwX τ vs ts ts.length rfl hv hlim hc ts.length 0 (by omega)
 simp only [Int.natCast_zero,List.take_zero,List.map_nil]at h
 simp only [go_sem,qa,qb,qc,qd,qe,qf,reduceCtorEq,Jf,h]
theorem qiO: ∀ (t:Tm),WT t→ ∀ v,BT t v→cr qg Yr [v]=some (oT t):=by
 refine jH ?_
 intro k s n ks ih hw v hb
 obtain ⟨τ,vs,rfl,hv⟩:=qR hb
 have h:=qwY τ vs ks hv (km hw) (fun t ht=>ih t ht (yt hw t ht))
 rw [qo qzM rfl,qv]
 simp only [go_sem,qa,qb,qc,qd,qe,qf,reduceCtorEq,Je,h]
theorem qwA(s:Str) (a b:Tm) (va vb:List V) (ha:RL BT a.kids va) (hb:RL BT b.kids vb) (na:qH va=true) (nb:qH vb=true):
 cr qg Yq [S s,.a [I a.kind,S a.name,I a.num,.i false va],.a [I b.kind,S b.name,I b.num,.i false vb]]=
  some (.a [I 4,S s,I 0,.o 4 [.a [I a.kind,S a.name,I a.num,.i false va],.a [I b.kind,S b.name,I b.num,.i false vb]]]):=by
 rw [qo qnV rfl]
 simp only [go_sem,qa,qb,qc,qd,qe,qf,reduceCtorEq,Xf,na,nb]
theorem qBF(c:Cl) (va vb:List V) (ha:RL BT c.head.kids va) (hb:RL BT c.body.kids vb) (na:qH va=true) (nb:qH vb=true):
 cr qg qhA [.a [I c.head.kind,S c.head.name,I c.head.num,.i false va,I c.body.kind,S c.body.name,I c.body.num,.i false vb,S c.file]]=
  some (.a [I 4,S [58,45],I 0,.o 4 [.a [I c.head.kind,S c.head.name,I c.head.num,.i false va],.a [I c.body.kind,S c.body.name,I c.body.num,.i false vb]]]):=by
 have h:=qwA [58,45] c.head c.body va vb ha hb na nb
 rw [qo qzB rfl]
 simp only [go_sem,qa,qb,qc,qd,qe,qf,reduceCtorEq,K5,h,na,nb]
end Go.Vm
namespace Go.Vm
theorem qpD(c:Cl) (hw:wCl c) (v:V) (h:bCl c v) (hn:zd v=true):cr qg qbl [v]=some (oT (zH c)):=by
 obtain ⟨w1,w2⟩:=JU c hw
 obtain ⟨τ0,va,τ1,vb,rfl,h0,h1⟩:=h
 simp only [zd,qH,qfV,qfW,Bool.true_and,Bool.and_true,Bool.and_eq_true,Bool.not_eq_true']at hn
 obtain ⟨⟨rfl,na⟩,⟨rfl,nb⟩⟩:=hn
 have e1:=qBF c va vb h0 h1 na nb
 have e2:=qiO (zH c) w1 (.a [I 4,S [58,45],I 0,.i true [.a [I c.head.kind,S c.head.name,I c.head.num,.i false va],.a [I c.body.kind,S c.body.name,I c.body.num,.i false vb]]])
  (qa9.2 ⟨true,_,rfl,_,_,rfl,kJ h0,_,_,rfl,kJ h1,rfl⟩)
 rw [qv (zH c)]at e2 ⊢
 rw [qo qyR rfl]
 simp only [go_sem,qa,qb,qc,qd,qe,qf,reduceCtorEq,KM,e1,e2,na,nb]
end Go.Vm
namespace Go.Vm
theorem ZS(x lo hi:Int):cr qg Xs [I x,I lo,I hi]=some (B (decide (lo≤x∧x≤hi))):=by
 rw [qo qy7 rfl]
 by_cases h1:lo≤x<;>by_cases h2:x≤hi<;>simp only [go_sem,qa,qb,qc,qd,qe,qf,reduceCtorEq,KR,h1,h2]
theorem X9(x lo hi:Int):cr qg ZC [I x,I lo,I hi]=some (B (decide (lo≤x∧x≤hi))):=by
 rw [qo qyy rfl]
 by_cases h1:lo≤x<;>by_cases h2:x≤hi<;>simp only [go_sem,qa,qb,qc,qd,qe,qf,reduceCtorEq,KC,h1,h2]
def z7(c:UInt8):Bool:=decide (33≤c.toNat∧c.toNat≤126∧c.toNat ≠ 39∧c.toNat ≠ 34)
def kz(s:Str):Bool:=s.all z7
def xf(s:Str):Bool:=kz s&&decide (1≤s.length∧s.length≤20)
theorem qi7(c:UInt8):(z7 c=true∧ ¬ (c.toNat:Int) < 33∧ ¬ (126:Int) < c.toNat∧decide ((c.toNat:Int)=39)=false∧decide ((c.toNat:Int)=34)=false)∨(z7 c=false∧((c.toNat:Int) < 33∨ ¬ (c.toNat:Int) < 33∧((126:Int) < c.toNat∨ ¬ (126:Int) < c.toNat∧(decide ((c.toNat:Int)=39)=true∨decide ((c.toNat:Int)=39)=false∧decide ((c.toNat:Int)=34)=true)))):=by
 unfold z7
 by_cases h:33≤c.toNat∧c.toNat≤126∧c.toNat ≠ 39∧c.toNat ≠ 34
 ·left;exact ⟨decide_eq_true h,by omega,by omega,decide_eq_false (by omega),decide_eq_false (by omega)⟩
 ·right;refine ⟨decide_eq_false h, ?_⟩
  simp only [decide_eq_true_eq,decide_eq_false_iff_not]
  omega
theorem qww(s:Str) (hl:s.length≤2^61):
 lw qg JC ⟨[(0,S s),(3,I 0)],[]⟩=if kz s=true then some (.exit 0,⟨[(0,S s)],[]⟩)else some (.ret,⟨[(2,B false)],[]⟩):=by
 refine ZN s (fun i r=>lw qg JC ⟨[(0,S s),(3,I i)],[]⟩=if kz r=true then some (.exit 0,⟨[(0,S s)],[]⟩)else some (.ret,⟨[(2,B false)],[]⟩)) (by omega) ?_ ?_
 ·rw [ql]
  simp only [go_sem,qa,qb,qc,qd,qe,qf,reduceCtorEq,Yu,kz,List.all_nil]
 ·intro i c r ht hi hlt e1 hir hm hr ih
  have ix:=yw (l:=s) (i:=(i:Int)) (c:=c) (by omega) (by simpa using ht)
  rw [ql]
  unfold kz at ih ⊢
  rcases qi7 c with ⟨h0,h1,h2,h3,h4⟩|⟨h0,h1|⟨h1,h2|⟨h2,h3|⟨h3,h4⟩⟩⟩⟩
  ·rw [List.all_cons,h0,Bool.true_and, ← ih]
   simp only [go_sem,qa,qb,qc,qd,qe,qf,reduceCtorEq,Yu,hlt,ix,e1,h1,h2,h3,h4]
  ·simp only [go_sem,qa,qb,qc,qd,qe,qf,reduceCtorEq,Yu,hlt,ix,e1,h1,List.all_cons,h0]
  ·simp only [go_sem,qa,qb,qc,qd,qe,qf,reduceCtorEq,Yu,hlt,ix,e1,h1,h2,List.all_cons,h0]
  ·simp only [go_sem,qa,qb,qc,qd,qe,qf,reduceCtorEq,Yu,hlt,ix,e1,h1,h2,h3,List.all_cons,h0]
  ·simp only [go_sem,qa,qb,qc,qd,qe,qf,reduceCtorEq,Yu,hlt,ix,e1,h1,h2,h3,h4,List.all_cons,h0]
theorem qm2(s:Str) (hl:s.length≤2^61):cr qg qbr [S s]=some (B (xf s)):=by
 rw [qo qzf rfl]
 have h:=qww s hl
 have h2:=ZS s.length 1 20
 have h3:decide ((1:Int)≤s.length∧(s.length:Int)≤20)=decide (1≤s.length∧s.length≤20):=decide_eq_decide.2 (by omega)
 rw [h3]at h2
 unfold xf
 cases hb:kz s with
 |true=>rw [hb,if_pos rfl]at h;simp only [go_sem,qa,qb,qc,qd,qe,qf,reduceCtorEq,Xe,h,h2]
 |false=>rw [hb]at h;simp only [go_sem,qa,qb,qc,qd,qe,qf,reduceCtorEq,Xe,h]
theorem qsV(s:Str) (hl:s.length≤2^61):
 lw qg Ju ⟨[(0,S s),(3,I 0)],[]⟩=if kz s=true then some (.exit 0,⟨[(0,S s)],[]⟩)else some (.ret,⟨[(2,B false)],[]⟩):=by
 refine ZN s (fun i r=>lw qg Ju ⟨[(0,S s),(3,I i)],[]⟩=if kz r=true then some (.exit 0,⟨[(0,S s)],[]⟩)else some (.ret,⟨[(2,B false)],[]⟩)) (by omega) ?_ ?_
 ·rw [ql]
  simp only [go_sem,qa,qb,qc,qd,qe,qf,reduceCtorEq,Ys,kz,List.all_nil]
 ·intro i c r ht hi hlt e1 hir hm hr ih
  have ix:=yw (l:=s) (i:=(i:Int)) (c:=c) (by omega) (by simpa using ht)
  have hc:=UInt8.toNat_lt c
  have hw:w64 (c.toNat:Int)=c.toNat:=by rw [qm]<;>omega
  have hin:=X9 c.toNat 33 126
  rw [ql]
  unfold kz at ih ⊢
  rcases qi7 c with ⟨h0,h1,h2,h3,h4⟩|⟨h0,h1|⟨h1,h2|⟨h2,h3|⟨h3,h4⟩⟩⟩⟩
  ·rw [decide_eq_true (show (33:Int)≤c.toNat∧(c.toNat:Int)≤126 by first|omega|(simp only [decide_eq_true_eq,decide_eq_false_iff_not]at*;omega))]at hin
   rw [List.all_cons,h0,Bool.true_and, ← ih]
   simp only [go_sem,qa,qb,qc,qd,qe,qf,reduceCtorEq,Ys,hlt,ix,e1,hw,hin,h1,h2,h3,h4]
  ·rw [decide_eq_false (show ¬ ((33:Int)≤c.toNat∧(c.toNat:Int)≤126)by omega)]at hin
   simp only [go_sem,qa,qb,qc,qd,qe,qf,reduceCtorEq,Ys,hlt,ix,e1,hw,hin,List.all_cons,h0]
  ·rw [decide_eq_false (show ¬ ((33:Int)≤c.toNat∧(c.toNat:Int)≤126)by omega)]at hin
   simp only [go_sem,qa,qb,qc,qd,qe,qf,reduceCtorEq,Ys,hlt,ix,e1,hw,hin,List.all_cons,h0]
  ·rw [decide_eq_true (show (33:Int)≤c.toNat∧(c.toNat:Int)≤126 by first|omega|(simp only [decide_eq_true_eq,decide_eq_false_iff_not]at*;omega))]at hin
   simp only [go_sem,qa,qb,qc,qd,qe,qf,reduceCtorEq,Ys,hlt,ix,e1,hw,hin,h3,List.all_cons,h0]
  ·rw [decide_eq_true (show (33:Int)≤c.toNat∧(c.toNat:Int)≤126 by first|omega|(simp only [decide_eq_true_eq,decide_eq_false_iff_not]at*;omega))]at hin
   simp only [go_sem,qa,qb,qc,qd,qe,qf,reduceCtorEq,Ys,hlt,ix,e1,hw,hin,h3,h4,List.all_cons,h0]
theorem qsW(s:Str) (hl:s.length≤2^61):cr qg qeq [S s]=some (B (xf s)):=by
 rw [qo qyo rfl]
 have h:=qsV s hl
 have h2:=X9 s.length 1 20
 have h3:decide ((1:Int)≤s.length∧(s.length:Int)≤20)=decide (1≤s.length∧s.length≤20):=decide_eq_decide.2 (by omega)
 rw [h3]at h2
 unfold xf
 cases hb:kz s with
 |true=>rw [hb,if_pos rfl]at h;simp only [go_sem,qa,qb,qc,qd,qe,qf,reduceCtorEq,Y1,h,h2]
 |false=>rw [hb]at h;simp only [go_sem,qa,qb,qc,qd,qe,qf,reduceCtorEq,Y1,h]
end Go.Vm
namespace Go.Vm
def bkP(k:Key) (i o n:Nat) (x:V) (ob:Option Ob):Mem:=
 match ob with
 |some ob=>if i=0∧o=0∧ob.1=n then [(k,n,[x])]else []
 |none=>[]
@[go_sem] theorem qJH {T:Mem} {k:Key} {i o:Nat} {x:V}:xG T (.p k i o) (.b x)=bkP k i o x.cells.length x (qt T k):=by simp only [xG,bkP];cases qt T k<;>rfl
@[go_sem] theorem qKG {k:Key} {i o n:Nat} {x:V} {e:Nat} {zs:List V}:bkP k i o n x (some (e,zs))=if i=0∧o=0∧e=n then [(k,n,[x])]else []:=(rfl)
end Go.Vm
set_option maxHeartbeats 16000000
namespace Go.Vm
theorem qlv(a n:Int) (hn:0≤n): ∃ x,qD .shr (I a) (.v (.int .u64 n))=some (I x):=by
 refine ⟨a.fdiv (2 ^ (min n.toNat IntKind.i64.bits)), ?_⟩
 have:(Op.shift .shr .i64 a .u64 n).val? =some (.int .i64 (a.fdiv (2 ^ (min n.toNat IntKind.i64.bits)))):=by
  simp only [Op.shift,if_neg (show ¬ n < 0 by omega)];rfl
 exact congrArg (Option.map V.v) this
theorem qrs(a b:Int): ∃ x,qD .xor (I a) (I b)=some (I x):=⟨_,rfl⟩
theorem qrr(a b:Int): ∃ x,qD .and (I a) (I b)=some (I x):=⟨_,rfl⟩
theorem qlt(a:Int): ∃ x:Int,qD .and (I a) (I 255)=some (I x)∧0≤x∧x≤255:=by
 refine ⟨_,rfl, ?_⟩
 have h:(BitVec.ofInt 64 a&&& BitVec.ofInt 64 255).toNat≤255:=by
  rw [BitVec.toNat_and]
  exact Nat.le_trans Nat.and_le_right (by decide)
 show 0≤IntKind.i64.wrap ((BitVec.ofInt 64 a&&& BitVec.ofInt 64 255).toNat:Int)∧IntKind.i64.wrap ((BitVec.ofInt 64 a&&& BitVec.ofInt 64 255).toNat:Int)≤255
 generalize (BitVec.ofInt 64 a&&& BitVec.ofInt 64 255).toNat=m at h
 have:IntKind.i64.wrap (m:Int)=m:=qm (by omega) (by omega)
 rw [this];omega
@[go_sem] theorem qLF(l:List UInt8):qC (l.map zm)=true:=jr (fun _=>rfl) l
@[go_sem] theorem qPz(d:Nat) (l:List UInt8):qB d (l.map zm)=l.map zm:=ZQ (fun _=>rfl) d l
@[go_sem] theorem qMw(τ:Bool) (l:List UInt8):qT τ (l.map zm)=l.map zm:=jK (fun _=>rfl) l
@[go_sem] theorem qRN(l:List UInt8):qH (l.map zm)=true:=x7 (fun _=>rfl) l
def CU(bs:List UInt8) (i:Nat) (h:Int):V:= .b (.a [.i false (bs.map zm),I i,I h])
theorem qmz {bs:List UInt8} {i:Nat} {c:UInt8} (h:bs[i]? =some c):(bs.map zm)[i]? =some (U8 c.toNat):=by
 rw [List.getElem?_map,h];rfl
theorem qwo(bs:List UInt8) (hl:bs.length≤2^40) (m:Nat): ∀ (i:Nat) (h:Int),i+m=min bs.length 4000→
 ∃ h',lw qg qbV ⟨[(0,.i false (bs.map zm)),(3,I h),(4,I i)],[]⟩=some (.exit 0,⟨[(0,.i false (bs.map zm)),(3,I h')],[]⟩):=by
 induction m with
 |zero=>
  intro i h hi
  refine ⟨h, ?_⟩
  rw [ql]
  by_cases h1:(i:Int) < (bs.length:Int)
  ·have h2: ¬ (i:Int) < 4000:=by omega
   simp only [go_sem,qa,qb,qc,qd,qe,qf,reduceCtorEq,qcj,h1,h2,List.length_map]
  ·simp only [go_sem,qa,qb,qc,qd,qe,qf,reduceCtorEq,qcj,h1,List.length_map]
 |succ m ih=>
  intro i h hi
  have h1:(i:Int) < (bs.length:Int):=by omega
  have h2:(i:Int) < 4000:=by omega
  obtain ⟨c,hc⟩:=qV (l:=bs) (i:=i) (by omega)
  have g:=qmz hc
  have a1:=fun T=>qZ (τ:=false) (T:=T) (e:=1) g rfl
  have e1:w64 ((i:Int)+1)=((i+1:Nat):Int):=by rw [qm]<;>omega
  obtain ⟨x,hx⟩:=qrr (w64 (w64 (w64 (h*131)+w64 c.toNat)+7)) 1073741823
  obtain ⟨h',hh⟩:=ih (i+1) x (by omega)
  refine ⟨h', ?_⟩
  rw [← hh,ql]
  simp only [go_sem,qa,qb,qc,qd,qe,qf,reduceCtorEq,qcj,h1,h2,g,a1,e1,hx,List.length_map]
theorem qwp(bs:List UInt8) (hl:bs.length≤2^40): ∃ h,cr qg qhl [.i false (bs.map zm)]=some (CU bs 0 h):=by
 obtain ⟨h',lp⟩:=qwo bs hl (min bs.length 4000) 0 (w64 (95101+(bs.length:Int))) (by omega)
 simp only [Int.natCast_zero]at lp
 refine ⟨h', ?_⟩
 rw [qo qy8 rfl]
 unfold CU
 simp only [go_sem,qa,qb,qc,qd,qe,qf,reduceCtorEq,KS,lp,List.length_map]
theorem qwm(bs:List UInt8) (hl:bs.length≤2^40) (i:Nat) (h:Int) (hi:i≤bs.length):
 ∃ (i':Nat) (h' x:Int),cw qg Xr [CU bs i h]=some (I x,[CU bs i' h'])∧i'≤bs.length∧0≤x∧x≤255:=by
 obtain ⟨s1,h1⟩:=qlv (w64 (w64 (h*6364136223846793005)+1442695040888963407)) 33 (by decide)
 obtain ⟨s2,h2⟩:=qlv (w64 (w64 (h*6364136223846793005)+1442695040888963407)) 45 (by decide)
 obtain ⟨s3,h3⟩:=qrs s1 s2
 obtain ⟨x,h4,h5,h6⟩:=qlt s3
 by_cases hlt:(i:Int) < (bs.length:Int)
 ·obtain ⟨c,hc⟩:=qV (l:=bs) (i:=i) (by omega)
  have g:=qmz hc
  have a1:=fun T=>qZ (τ:=false) (T:=T) (e:=1) g rfl
  have e1:w64 ((i:Int)+1)=((i+1:Nat):Int):=by rw [qm]<;>omega
  obtain ⟨y,k1,k2,k3⟩:=qlt (w64 (x+w64 c.toNat))
  refine ⟨i+1,w64 (w64 (h*6364136223846793005)+1442695040888963407),y, ?_,by omega,k2,k3⟩
  rw [qI qnU rfl]
  unfold CU
  simp only [go_sem,qa,qb,qc,qd,qe,qf,reduceCtorEq,Xd,qw,h1,h2,h3,h4,hlt,g,a1,e1,k1,List.length_map]
 ·refine ⟨i,w64 (w64 (h*6364136223846793005)+1442695040888963407),x, ?_,hi,h5,h6⟩
  rw [qI qnU rfl]
  unfold CU
  simp only [go_sem,qa,qb,qc,qd,qe,qf,reduceCtorEq,Xd,qw,h1,h2,h3,h4,hlt,List.length_map]
end Go.Vm
namespace Go.Vm
theorem qkf(a n:Int) (ha:0≤a) (hn:0 < n):0≤a.tmod n∧a.tmod n < n:=⟨Int.tmod_nonneg n ha,Int.tmod_lt_of_pos a hn⟩
theorem xK(bs:List UInt8) (hl:bs.length≤2^40) (i:Nat) (h:Int) (hi:i≤bs.length) (n:Int) (hn:0 < n) (hn2:n≤256):
 ∃ (i':Nat) (h' x:Int),cw qg kK [CU bs i h,I n]=some (I x,[CU bs i' h',I n])∧i'≤bs.length∧0≤x∧x < n:=by
 obtain ⟨i1,h1,x1,b1,hi1,p1,q1⟩:=qwm bs hl i h hi
 obtain ⟨m1,m2⟩:=qkf x1 n p1 hn
 have br:=ZK (a:=x1) (b:=n) (by omega)
 have n0: ¬ n≤0:=by omega
 refine ⟨i1,h1,x1.tmod n, ?_,hi1,m1,m2⟩
 rw [qI qy5 rfl]
 unfold CU at b1 ⊢
 simp only [go_sem,qa,qb,qc,qd,qe,qf,reduceCtorEq,KP,qw,n0,hn2,b1,br]
theorem qfQ(bs:List UInt8) (hl:bs.length≤2^40) (i:Nat) (h:Int) (hi:i≤bs.length) (n:Int) (hn:0 < n) (hn2:n≤256):
 ∃ (i':Nat) (h':Int) (b:Bool),cw qg Js [CU bs i h,I n]=some (B b,[CU bs i' h',I n])∧i'≤bs.length:=by
 obtain ⟨i1,h1,x1,b1,hi1,p1,q1⟩:=xK bs hl i h hi n hn hn2
 refine ⟨i1,h1,decide (x1=0), ?_,hi1⟩
 rw [qI qy9 rfl]
 unfold CU at b1 ⊢
 simp only [go_sem,qa,qb,qc,qd,qe,qf,reduceCtorEq,KT,qw,b1]
theorem J8(bs:List UInt8) (hl:bs.length≤2^40) (i:Nat) (h:Int) (hi:i≤bs.length) (e:Nat) (ls:List Str) (h0:0 < ls.length) (h1:ls.length≤256):
 ∃ (i':Nat) (h':Int) (s:Str),cw qg Jt [CU bs i h,.o 1 (ls.map S)]=some (S s,[CU bs i' h',.o 1 (ls.map S)])∧i'≤bs.length∧s ∈ ls:=by
 obtain ⟨i1,h1',x1,b1,hi1,p1,q1⟩:=xK bs hl i h hi ls.length (by omega) (by omega)
 obtain ⟨k,rfl⟩: ∃ k:Nat,x1=k:=⟨x1.toNat,by omega⟩
 obtain ⟨s,hs⟩:=qV (l:=ls) (i:=k) (by omega)
 have g:=zu (f:=S) hs
 have ix:=x3 (k:=(1,0)) (e:=1) (xs:=ls.map S) (i:=k) (len:=ls.length) (by omega) (by simp)
 have tk:(ls.map S).take ls.length=ls.map S:=List.take_of_length_le (by simp)
 refine ⟨i1,h1',s, ?_,hi1,List.mem_of_getElem? hs⟩
 rw [qI qza rfl]
 unfold CU at b1 ⊢
 simp only [go_sem,qa,qb,qc,qd,qe,qf,reduceCtorEq,KU,qw,b1,ix,g,tk,List.length_map]
end Go.Vm
namespace Go.Vm
def yR:List Str:=[[112,40,97,41],[112,40,98,41],[112,40,99,41],[113,40,88,41,32,58,45,32,112,40,88,41],[113,40,122,41],[114,40,88,44,32,89,41,32,58,45,32,112,40,88,41,44,32,113,40,89,41],[97,112,112,40,91,93,44,32,76,44,32,76,41],[97,112,112,40,91,72,124,84,93,44,32,76,44,32,91,72,124,82,93,41,32,58,45,32,97,112,112,40,84,44,32,76,44,32,82,41],[108,101,110,40,91,93,44,32,48,41],[108,101,110,40,91,95,124,84,93,44,32,78,41,32,58,45,32,108,101,110,40,84,44,32,77,41,44,32,78,32,105,115,32,77,32,43,32,49],[115,40,88,41,32,58,45,32,112,40,88,41,44,32,33],[115,40,122,41],[116,40,88,41,32,58,45,32,40,112,40,88,41,32,45,62,32,116,114,117,101,32,59,32,88,32,61,32,110,111,110,101,41],[117,40,88,41,32,58,45,32,92,43,32,112,40,88,41],[119,40,88,41,32,58,45,32,112,40,88,41,44,32,119,114,105,116,101,40,88,41],[99,40,88,41,32,58,45,32,99,97,116,99,104,40,112,40,88,41,44,32,95,44,32,116,114,117,101,41],[101,40,88,41,32,58,45,32,99,97,116,99,104,40,116,104,114,111,119,40,88,41,44,32,89,44,32,119,114,105,116,101,40,89,41,41],[110,40,88,41,32,58,45,32,88,32,105,115,32,51,32,47,47,32,48],[109,40,88,41,32,58,45,32,99,97,116,99,104,40,110,40,88,41,44,32,101,114,114,111,114,40,69,44,32,95,41,44,32,40,88,32,61,32,69,41,41],[97,100,100,40,88,41,32,58,45,32,97,115,115,101,114,116,122,40,112,40,88,41,41],[100,101,108,40,88,41,32,58,45,32,114,101,116,114,97,99,116,40,112,40,88,41,41],[108,111,111,112,32,58,45,32,108,111,111,112],[118,40,88,41,32,58,45,32,99,97,108,108,40,112,44,32,88,41],[100,40,88,44,32,89,41,32,58,45,32,88,32,61,32,89,32,59,32,89,32,61,32,98],[103,40,102,40,88,41,44,32,88,41],[103,40,104,40,88,41,44,32,88,41],[103,40,49,44,32,111,110,101,41],[107,40,88,41,32,58,45,32,117,110,107,110,111,119,110,40,88,41],[121,40,88,41,32,58,45,32,112,40,88,41,44,32,97,115,115,101,114,116,122,40,112,40,100,41,41,44,32,88,32,61,32,98]]
def qJB:List Str:=[[112,40,88,41],[113,40,88,41],[114,40,88,44,32,89,41],[97,112,112,40,88,44,32,89,44,32,91,97,44,32,98,93,41],[108,101,110,40,91,97,44,32,98,93,44,32,78,41],[115,40,88,41],[116,40,88,41],[117,40,122,41],[119,40,88,41,44,32,102,97,105,108],[99,40,88,41],[101,40,98,97,108,108,41],[110,40,88,41],[109,40,88,41],[97,100,100,40,101,41,44,32,112,40,88,41],[100,101,108,40,88,41,44,32,112,40,89,41],[108,111,111,112],[118,40,88,41],[100,40,88,44,32,89,41],[103,40,104,40,97,41,44,32,89,41],[103,40,88,44,32,89,41],[107,40,49,41],[121,40,88,41],[88,32,61,32,102,40,88,41],[99,97,116,99,104,40,102,97,105,108,44,32,95,44,32,116,114,117,101,41],[40,112,40,88,41,44,32,33,32,59,32,113,40,88,41,41],[92,43,32,112,40,122,41],[119,114,105,116,101,40,88,41,44,32,88,32,61,32,49],[88],[51],[116,104,114,111,119,40,102,40,88,41,41],[99,97,116,99,104,40,112,40,88,41,44,32,95,44,32,116,114,117,101,41,44,32,116,104,114,111,119,40,120,41],[40,112,40,88,41,32,45,62,32,113,40,89,41,32,59,32,116,114,117,101,41],[99,97,108,108,40,97,112,112,40,91,97,93,41,44,32,88,44,32,89,41],[112,40,88,41,44,32,97,115,115,101,114,116,122,40,40,112,50,40,89,41,32,58,45,32,112,40,89,41,41,41,44,32,112,50,40,90,41],[97,116,111,109,40,88,41],[114,101,116,114,97,99,116,40,40,113,40,88,41,32,58,45,32,112,40,88,41,41,41],[88,32,61,61,32,88,44,32,88,32,92,61,32,97],[112,40,88,41,44,32,88,32,61,61,32,98],[97,112,112,40,88,44,32,91,99,124,89,93,44,32,90,41]]
theorem qm5:cr qg qeK []=some (.o 1 (yR.map S)):=by
 rw [qo qzE rfl]
 simp only [go_sem,qa,qb,qc,qd,qe,qf,reduceCtorEq,K7]
 rfl
theorem qw9: ∀ s ∈ yR,s.length≤60:=by decide
end Go.Vm
set_option maxHeartbeats 8000000
namespace Go.Vm
theorem zj(k:Int) (s:Str) (n:Int):oT (.mk k s n [])= .a [I k,S s,I n,.o 4 []]:=rfl
theorem qdh(n:Int):cr qg qbu [I n]=some (oT (.mk 1 [] n [])):=by
 rw [qo qzj rfl,zj]
 simp only [go_sem,qa,qb,qc,qd,qe,qf,reduceCtorEq,K0]
theorem qgA(n:Int):cr qg qbs [I n]=some (oT (.mk 3 [] n [])):=by
 rw [qo qzg rfl,zj]
 simp only [go_sem,qa,qb,qc,qd,qe,qf,reduceCtorEq,KZ]
theorem X3(s:Str):cr qg ZE [S s]=some (oT (.mk 2 s 0 [])):=by
 rw [qo qzc rfl,zj]
 simp only [go_sem,qa,qb,qc,qd,qe,qf,reduceCtorEq,KW]
theorem YJ(s:Str) (ks:List Tm):oT (.mk 4 s 0 ks)= .a [I 4,S s,I 0,.o 4 (ks.map oT)]:=by rw [qv];rfl
def dT(t:Tm):V:= .a [I t.kind,S t.name,I t.num,.d]
theorem qfR(s:Str) (a b:Tm):cw qg Yq [S s,oT a,oT b]=some (oT (.mk 4 s 0 [a,b]),[S s,dT a,dT b]):=by
 rw [qI qnV rfl,YJ,List.map_cons,List.map_cons,List.map_nil,qv a,qv b,dT,dT]
 simp only [go_sem,qa,qb,qc,qd,qe,qf,reduceCtorEq,Xf,qw]
end Go.Vm
namespace Go.Vm
def Qw(t:Tm):Bool:=
 if t.kind=1 then decide (0≤t.num∧t.num≤99999)&&(decide (t.name=[])&&decide ((t.kids.length:Int)=0))
 else if t.kind=2 then xf t.name&&(decide (t.num=0)&&decide ((t.kids.length:Int)=0))
 else if t.kind=3 then decide (-999999999≤t.num∧t.num≤999999999)&&(decide (t.name=[])&&decide ((t.kids.length:Int)=0))
 else if t.kind=4 then xf t.name&&(decide (t.num=0)&&decide (1≤(t.kids.length:Int)∧(t.kids.length:Int)≤5))
 else false
mutual
def xz:Int→Tm→Bool
 |d,.mk k s n ks=>decide (d≤40)&&(Qw (.mk k s n ks)&&yG (d+1) ks)
def yG:Int→List Tm→Bool
 |_,[]=>true
 |d,t::ts=>xz d t&&yG d ts
end
def zA(t:Tm):Bool:=decide (nT t≤400)&&xz 1 t
theorem qwx(t:Tm) (hn:t.name.length≤2^61) (v:V) (hb:BT t v):cr qg qhn [v]=some (B (Qw t)):=by
 obtain ⟨τ,vs,rfl,hv⟩:=qR hb
 have hl:=qS hv
 rw [qo qzh rfl]
 have i1:=ZS t.num 0 99999
 have i2:=ZS t.num (-999999999) 999999999
 have i3:=ZS t.kids.length 1 5
 have nm:=qm2 t.name hn
 unfold Qw
 by_cases k1:t.kind=1
 ·have d1:decide (t.kind=1)=true:=decide_eq_true k1
  rw [if_pos k1]
  cases c1:decide (0≤t.num∧t.num≤99999)with
  |false=>rw [c1]at i1;simp only [go_sem,qa,qb,qc,qd,qe,qf,reduceCtorEq,xk,d1,i1]
  |true=>
   rw [c1]at i1
   cases c2:decide (t.name=[])with
   |false=>simp only [go_sem,qa,qb,qc,qd,qe,qf,reduceCtorEq,xk,d1,i1,c2]
   |true=>simp only [go_sem,qa,qb,qc,qd,qe,qf,reduceCtorEq,xk,d1,i1,c2,hl]
 rw [if_neg k1]
 have d1:decide (t.kind=1)=false:=decide_eq_false k1
 by_cases k2:t.kind=2
 ·have d2:decide (t.kind=2)=true:=decide_eq_true k2
  rw [if_pos k2]
  cases c1:xf t.name with
  |false=>rw [c1]at nm;simp only [go_sem,qa,qb,qc,qd,qe,qf,reduceCtorEq,xk,d1,d2,nm]
  |true=>
   rw [c1]at nm
   cases c2:decide (t.num=0)with
   |false=>simp only [go_sem,qa,qb,qc,qd,qe,qf,reduceCtorEq,xk,d1,d2,nm,c2]
   |true=>simp only [go_sem,qa,qb,qc,qd,qe,qf,reduceCtorEq,xk,d1,d2,nm,c2,hl]
 rw [if_neg k2]
 have d2:decide (t.kind=2)=false:=decide_eq_false k2
 by_cases k3:t.kind=3
 ·have d3:decide (t.kind=3)=true:=decide_eq_true k3
  rw [if_pos k3]
  cases c1:decide (-999999999≤t.num∧t.num≤999999999)with
  |false=>rw [c1]at i2;simp only [go_sem,qa,qb,qc,qd,qe,qf,reduceCtorEq,xk,d1,d2,d3,i2]
  |true=>
   rw [c1]at i2
   cases c2:decide (t.name=[])with
   |false=>simp only [go_sem,qa,qb,qc,qd,qe,qf,reduceCtorEq,xk,d1,d2,d3,i2,c2]
   |true=>simp only [go_sem,qa,qb,qc,qd,qe,qf,reduceCtorEq,xk,d1,d2,d3,i2,c2,hl]
 rw [if_neg k3]
 have d3:decide (t.kind=3)=false:=decide_eq_false k3
 by_cases k4:t.kind=4
 ·have d4:decide (t.kind=4)=true:=decide_eq_true k4
  rw [if_pos k4]
  cases c1:xf t.name with
  |false=>rw [c1]at nm;simp only [go_sem,qa,qb,qc,qd,qe,qf,reduceCtorEq,xk,d1,d2,d3,d4,nm]
  |true=>
   rw [c1]at nm
   cases c2:decide (t.num=0)with
   |false=>simp only [go_sem,qa,qb,qc,qd,qe,qf,reduceCtorEq,xk,d1,d2,d3,d4,nm,c2]
   |true=>simp only [go_sem,qa,qb,qc,qd,qe,qf,reduceCtorEq,xk,d1,d2,d3,d4,nm,c2,hl,i3]
 rw [if_neg k4]
 have d4:decide (t.kind=4)=false:=decide_eq_false k4
 simp only [go_sem,qa,qb,qc,qd,qe,qf,reduceCtorEq,xk,d1,d2,d3,d4]
mutual
def kO:Tm→Int→Int
 | .mk _ _ _ ks,r=>Qo ks (r - 1)
def Qo:List Tm→Int→Int
 |[],r=>r
 |t::ts,r=>if 0≤r then Qo ts (kO t r)else r
end
mutual
theorem qid: ∀ (t:Tm) (r:Int),0≤r→(nT t≤r→kO t r=r - nT t)∧(¬ (nT t:Int)≤r→kO t r < 0∧ -1≤kO t r)
 | .mk k s n ks,r,h=>by
   have:=qie ks (r - 1) (by omega)
   simp only [kO,nT]
   refine ⟨fun h1=> ?_,fun h1=> ?_⟩
   ·rw [this.1 (by omega)];omega
   ·exact this.2 (by omega)
theorem qie: ∀ (ts:List Tm) (r:Int),-1≤r→(nTs ts≤r→Qo ts r=r - nTs ts)∧(¬ (nTs ts:Int)≤r→Qo ts r < 0∧ -1≤Qo ts r)
 |[],r,h=>by simp only [Qo,nTs];omega
 |t::ts,r,h=>by
  simp only [Qo,nTs]
  by_cases h0:0≤r
  ·rw [if_pos h0]
   have h1:=qid t r h0
   have hp:=jS t
   by_cases h2:(nT t:Int)≤r
   ·rw [h1.1 h2]
    have h3:=qie ts (r - nT t) (by omega)
    refine ⟨fun h4=> ?_,fun h4=> ?_⟩
    ·rw [h3.1 (by omega)];omega
    ·exact h3.2 (by omega)
   ·have h3:=h1.2 h2
    have h4:=qie ts (kO t r) h3.2
    refine ⟨fun h5=>by omega,fun h5=> ?_⟩
    exact h4.2 (by omega)
  ·rw [if_neg h0]
   have:=jS t
   omega
end
theorem qrN(t:Tm) (r:Int) (h:0≤r): -1≤kO t r∧kO t r≤r:=by
 have h1:=qid t r h
 have:=jS t
 by_cases h2:(nT t:Int)≤r
 ·rw [h1.1 h2];omega
 ·have:=h1.2 h2;omega
theorem qwr(t:Tm) (τ:Bool) (vs:List V) (hv:RL BT t.kids vs) (hlim:t.kids.length≤Lm)
 (hc: ∀ u ∈ t.kids,∀ v r,BT u v→0≤r→r≤2^40→cr qg qbp [v,I r]=some (I (kO u r))): ∀ r:Int,-1≤r→r≤2^40→
 lw qg JB ⟨[(1,I r),(2,.p (100000,0) 0 0),(5,I 0)],[((100000,0),4,[.a [I t.kind,S t.name,I t.num,.i τ vs]])]⟩=some (.exit 0,⟨[(1,I (Qo t.kids r))],[((100000,0),4,[.a [I t.kind,S t.name,I t.num,.i τ vs]])]⟩):=by
 unfold Lm at hlim
 have hn:=qS hv
 refine ZN t.kids (fun i ks=> ∀ r:Int,-1≤r→r≤2^40→lw qg JB ⟨[(1,I r),(2,.p (100000,0) 0 0),(5,I i)],[((100000,0),4,[.a [I t.kind,S t.name,I t.num,.i τ vs]])]⟩=some (.exit 0,⟨[(1,I (Qo ks r))],[((100000,0),4,[.a [I t.kind,S t.name,I t.num,.i τ vs]])]⟩)) (by omega) ?_ ?_
 ·intro r h1 h2
  rw [ql]
  simp only [go_sem,qa,qb,qc,qd,qe,qf,reduceCtorEq,qck,hn,Qo]
 ·intro i u ks ht hi hlt e1 hir hm hr ih r h1 h2
  obtain ⟨v,gv,hbt⟩:=yJ hv ht
  have a1:=fun T=>qZ (τ:=τ) (T:=T) gv (Qd hbt)
  rw [ql,Qo]
  by_cases h0:0≤r
  ·have hcc:=hc u hm v r hbt h0 h2
   have hb:=qrN u r h0
   have i1:=ih (kO u r) hb.1 (by omega)
   obtain ⟨σ1,ws,rfl,-⟩:=qR hbt
   simp only [go_sem,qa,qb,qc,qd,qe,qf,reduceCtorEq,qck,hn,hlt,h0,a1,gv,hcc,e1]
   exact i1
  ·simp only [go_sem,qa,qb,qc,qd,qe,qf,reduceCtorEq,qck,hn,hlt,h0]
theorem qws: ∀ (t:Tm),WT t→ ∀ v r,BT t v→0≤r→r≤2^40→cr qg qbp [v,I r]=some (I (kO t r)):=by
 refine jH ?_
 intro k s n ks ih hw v r hb h0 h1
 obtain ⟨τ,vs,rfl,hv⟩:=qR hb
 have e1:w64 (r - 1)=r - 1:=by rw [qm]<;>omega
 have h:=qwr (.mk k s n ks) τ vs hv (km hw) (fun u hu=>ih u hu (yt hw u hu)) (r - 1) (by omega) (by omega)
 simp only [yq,yr,yB,zU]at h
 rw [qo qzd rfl,kO]
 simp only [go_sem,qa,qb,qc,qd,qe,qf,reduceCtorEq,KX,e1,h]
theorem qwy(t:Tm) (τ:Bool) (vs:List V) (hv:RL BT t.kids vs) (hlim:t.kids.length≤Lm) (d:Int) (hd0:0≤d) (hd:d≤40)
 (hc: ∀ u ∈ t.kids,∀ v,BT u v→cr qg qbt [v,I (d+1)]=some (B (xz (d+1) u))):
 lw qg JD ⟨[(1,I d),(2,.p (100000,0) 0 0),(5,I 0)],[((100000,0),4,[.a [I t.kind,S t.name,I t.num,.i τ vs]])]⟩=if yG (d+1) t.kids=true then some (.exit 0,⟨[],[((100000,0),4,[.a [I t.kind,S t.name,I t.num,.i τ vs]])]⟩)else some (.ret,⟨[(4,B false)],[((100000,0),4,[.a [I t.kind,S t.name,I t.num,.i τ vs]])]⟩):=by
 unfold Lm at hlim
 have hn:=qS hv
 refine ZN t.kids (fun i ks=>lw qg JD ⟨[(1,I d),(2,.p (100000,0) 0 0),(5,I i)],[((100000,0),4,[.a [I t.kind,S t.name,I t.num,.i τ vs]])]⟩=if yG (d+1) ks=true then some (.exit 0,⟨[],[((100000,0),4,[.a [I t.kind,S t.name,I t.num,.i τ vs]])]⟩)else some (.ret,⟨[(4,B false)],[((100000,0),4,[.a [I t.kind,S t.name,I t.num,.i τ vs]])]⟩)) (by omega) ?_ ?_
 ·rw [ql]
  simp only [go_sem,qa,qb,qc,qd,qe,qf,reduceCtorEq,qcm,hn,yG]
 ·intro i u ks ht hi hlt e1 hir hm hr ih
  obtain ⟨v,gv,hbt⟩:=yJ hv ht
  have a1:=fun T=>qZ (τ:=τ) (T:=T) gv (Qd hbt)
  have hcc:=hc u hm v hbt
  have e2:w64 (d+1)=d+1:=by rw [qm]<;>omega
  obtain ⟨σ1,ws,rfl,-⟩:=qR hbt
  rw [ql,yG]
  cases hr:xz (d+1) u with
  |true=>
   rw [hr]at hcc
   rw [Bool.true_and, ← ih]
   simp only [go_sem,qa,qb,qc,qd,qe,qf,reduceCtorEq,qcm,hn,hlt,a1,gv,hcc,e1,e2]
  |false=>
   rw [hr]at hcc
   simp only [go_sem,qa,qb,qc,qd,qe,qf,reduceCtorEq,qcm,hn,hlt,a1,gv,hcc,e1,e2]
theorem qwz: ∀ (t:Tm),WT t→ ∀ (d:Int) v,0≤d→d≤41→BT t v→cr qg qbt [v,I d]=some (B (xz d t)):=by
 refine jH ?_
 intro k s n ks ih hw d v h0 h1 hb
 have ho:=qwx (.mk k s n ks) (by have:=XB hw;unfold Lm at this;omega) v hb
 obtain ⟨τ,vs,rfl,hv⟩:=qR hb
 simp only [yq,yr,yB,zU]at ho
 rw [qo qzi rfl,xz]
 by_cases hd:40 < d
 ·have:decide (d≤40)=false:=decide_eq_false (by omega)
  simp only [go_sem,qa,qb,qc,qd,qe,qf,reduceCtorEq,Zu,hd,this]
 ·have hdt:decide (d≤40)=true:=decide_eq_true (by omega)
  cases h2:Qw (.mk k s n ks)with
  |false=>
   rw [h2]at ho
   simp only [go_sem,qa,qb,qc,qd,qe,qf,reduceCtorEq,Zu,hd,hdt,ho]
  |true=>
   rw [h2]at ho
   have h:=qwy (.mk k s n ks) τ vs hv (km hw) d h0 (by omega) (fun u hu v hb=>ih u hu (yt hw u hu) (d+1) v (by omega) (by omega) hb)
   simp only [yq,yr,yB,zU]at h
   cases h3:yG (d+1) ks with
   |true=>rw [h3,if_pos rfl]at h;simp only [go_sem,qa,qb,qc,qd,qe,qf,reduceCtorEq,Zu,hd,hdt,ho,h]
   |false=>rw [h3]at h;simp only [go_sem,qa,qb,qc,qd,qe,qf,reduceCtorEq,Zu,hd,hdt,ho,h]
theorem YP(t:Tm) (hw:WT t) (v:V) (hb:BT t v):cr qg ZD [v]=some (B (zA t)):=by
 have h1:=qws t hw v 400 hb (by decide) (by decide)
 have h2:=qwz t hw 1 v (by decide) (by decide) hb
 have hc:=qid t 400 (by decide)
 obtain ⟨τ,vs,rfl,hv⟩:=qR hb
 rw [qo qy4 rfl]
 unfold zA
 by_cases h:nT t≤400
 ·have h3:0≤kO t 400:=by rw [hc.1 (by omega)];omega
  have h4:decide (nT t≤400)=true:=decide_eq_true h
  simp only [go_sem,qa,qb,qc,qd,qe,qf,reduceCtorEq,Xc,h1,h2,h3,h4]
 ·have h3: ¬ 0≤kO t 400:=by have:=(hc.2 (by omega)).1;omega
  have h4:decide (nT t≤400)=false:=decide_eq_false h
  simp only [go_sem,qa,qb,qc,qd,qe,qf,reduceCtorEq,Xc,h1,h3,h4]
end Go.Vm
set_option maxHeartbeats 4000000
namespace Go.Vm
def szI(d:Int) (t:Tm):Int:=if xz d t=true∧nT t≤400 then nT t else 401
theorem qpN(d:Int) (t:Tm):1≤szI d t∧szI d t≤401:=by
 have:=jS t
 unfold szI
 split<;>omega
theorem qBy(t:Tm) (τ:Bool) (vs:List V) (hv:RL BT t.kids vs) (hlim:t.kids.length≤Lm) (d:Int) (hd0:0≤d) (hd:d≤40)
 (hc: ∀ u ∈ t.kids,∀ v,BT u v→cr qg qbk [v,I (d+1)]=some (I (szI (d+1) u))): ∀ n:Int,0≤n→n≤400→
 (yG (d+1) t.kids=true∧n+(nTs t.kids:Int)≤400→lw qg QQ ⟨[(1,I d),(5,I n),(82,.i τ vs),(83,I t.kids.length),(84,I 0)],[]⟩=some (.exit 1,⟨[(5,I (n+(nTs t.kids:Int)))],[]⟩))∧(¬ (yG (d+1) t.kids=true∧n+(nTs t.kids:Int)≤400)→ ∃ T,lw qg QQ ⟨[(1,I d),(5,I n),(82,.i τ vs),(83,I t.kids.length),(84,I 0)],[]⟩=some (.ret,⟨[(4,I 401)],T⟩)):=by
 unfold Lm at hlim
 have hn:=qS hv
 refine ZN t.kids (fun i ks=> ∀ n:Int,0≤n→n≤400→(yG (d+1) ks=true∧n+(nTs ks:Int)≤400→lw qg QQ ⟨[(1,I d),(5,I n),(82,.i τ vs),(83,I t.kids.length),(84,I i)],[]⟩=some (.exit 1,⟨[(5,I (n+(nTs ks:Int)))],[]⟩))∧(¬ (yG (d+1) ks=true∧n+(nTs ks:Int)≤400)→ ∃ T,lw qg QQ ⟨[(1,I d),(5,I n),(82,.i τ vs),(83,I t.kids.length),(84,I i)],[]⟩=some (.ret,⟨[(4,I 401)],T⟩))) (by omega) ?_ ?_
 ·intro n h0 h1
  have e0:n+((nTs []:Nat):Int)=n:=by simp only [nTs];omega
  refine ⟨fun _=> ?_,fun hx=>absurd ⟨rfl,by rw [e0];exact h1⟩ hx⟩
  rw [ql,e0]
  simp only [go_sem,qa,qb,qc,qd,qe,qf,reduceCtorEq,qcb,hn]
 ·intro i u ks ht hi hlt e1 hir hm hr ih n h0 h1
  obtain ⟨v,gv,hbt⟩:=yJ hv ht
  have a1:=fun T=>qZ (τ:=τ) (T:=T) gv (Qd hbt)
  have hcc:=hc u hm v hbt
  have hb:=qpN (d+1) u
  have e2:w64 (d+1)=d+1:=by rw [qm]<;>omega
  have e3:w64 (n+szI (d+1) u)=n+szI (d+1) u:=by rw [qm]<;>omega
  obtain ⟨σ1,ws,rfl,-⟩:=qR hbt
  have hp:=jS u
  have e4:((nTs (u::ks):Nat):Int)=(nT u:Int)+nTs ks:=by simp only [nTs];omega
  rw [e4]
  by_cases hbad:400 < n+szI (d+1) u
  ·refine ⟨fun hy=> ?_,fun _=>⟨[((7,0),4,[.a [I u.kind,S u.name,I u.num,.i σ1 ws]])], ?_⟩⟩
   ·simp only [yG,Bool.and_eq_true]at hy
    unfold szI at hbad
    rw [if_pos ⟨hy.1.1,by omega⟩]at hbad
    omega
   rw [ql]
   simp only [go_sem,qa,qb,qc,qd,qe,qf,reduceCtorEq,qcb,hn,hlt,a1,gv,hcc,e1,e2,e3,hbad]
  ·have hr:xz (d+1) u=true∧nT u≤400:=by
    apply Classical.byContradiction
    intro hx
    unfold szI at hbad
    rw [if_neg hx]at hbad
    omega
   have hs:szI (d+1) u=nT u:=by unfold szI;rw [if_pos hr]
   rw [hs]at hcc e3 hbad
   have i1:=ih (n+nT u) (by omega) (by omega)
   have e5:n+((nT u:Int)+nTs ks)=n+nT u+nTs ks:=by omega
   have e6:lw qg QQ ⟨[(1,I d),(5,I n),(82,.i τ vs),(83,I t.kids.length),(84,I i)],[]⟩=lw qg QQ ⟨[(1,I d),(5,I (n+nT u)),(82,.i τ vs),(83,I t.kids.length),(84,I (↑(i+1)))],[]⟩:=by
    rw [ql]
    simp only [go_sem,qa,qb,qc,qd,qe,qf,reduceCtorEq,qcb,hn,hlt,a1,gv,hcc,e1,e2,e3,hbad]
   rw [yG,hr.1,Bool.true_and,e5,e6]
   exact i1
theorem qsY: ∀ (t:Tm),WT t→ ∀ (d:Int) v,0≤d→d≤41→BT t v→cr qg qbk [v,I d]=some (I (szI d t)):=by
 refine jH ?_
 intro k s n ks ih hw d v h0 h1 hb
 have hnm:=qsW s (by have:=XB hw;unfold Lm at this;exact Nat.le_trans this (by decide))
 have i1:=X9 n 0 99999
 have i2:=X9 n (-999999999) 999999999
 have i3:=X9 ks.length 1 5
 have hlen:=km hw
 unfold Lm at hlen
 simp only [zU]at hlen
 obtain ⟨τ,vs,rfl,hv⟩:=qR hb
 have hn:=qS hv
 simp only [zU]at hn hv
 rw [qo qyu rfl]
 have hbad:Qw (.mk k s n ks)=false∨ ¬ d≤40→szI d (.mk k s n ks)=401:=by
  intro h
  unfold szI
  rw [if_neg]
  simp only [xz,Bool.and_eq_true,decide_eq_true_eq]
  rcases h with h|h
  ·rw [h];simp
  ·omega
 by_cases hd:40 < d
 ·rw [hbad (.inr (by omega))]
  simp only [go_sem,qa,qb,qc,qd,qe,qf,reduceCtorEq,yb,hd]
 have h:=qBy (.mk k s n ks) τ vs hv (km hw) d h0 (by omega) (fun u hu v hb=>ih u hu (yt hw u hu) (d+1) v (by omega) (by omega) hb) 1 (by decide) (by decide)
 simp only [yq,yr,yB,zU]at h
 have hgood:Qw (.mk k s n ks)=true→szI d (.mk k s n ks)=if yG (d+1) ks=true∧(1:Int)+(nTs ks:Int)≤400 then 1+(nTs ks:Int)else 401:=by
  intro ho
  unfold szI
  have hdt:decide (d≤40)=true:=decide_eq_true (by omega)
  rw [xz,ho,hdt,Bool.true_and,Bool.true_and]
  have e:nT (.mk k s n ks)=nTs ks+1:=by simp only [nT]
  by_cases hx:yG (d+1) ks=true∧nT (.mk k s n ks)≤400
  ·rw [if_pos (show yG (d+1) ks=true∧(1:Int)+(nTs ks:Int)≤400 from ⟨hx.1,by omega⟩),if_pos hx];omega
  ·rw [if_neg (show ¬ (yG (d+1) ks=true∧(1:Int)+(nTs ks:Int)≤400)from fun hy=>hx ⟨hy.1,by omega⟩),if_neg hx]
 have hz: ¬ (0:Int) < ks.length→ks.length=0:=by omega
 have p0:(0:Int) < ks.length∨ ¬ (0:Int) < ks.length:=by omega
 unfold Qw at hbad hgood
 simp only [yq,yr,yB,zU]at hbad hgood
 by_cases k1:k=1
 ·have d1:decide (k=1)=true:=decide_eq_true k1
  rw [if_pos k1]at hbad hgood
  cases c2:decide (s=[])with
  |false=>rw [hbad (.inl (by rw [c2];simp))];simp only [go_sem,qa,qb,qc,qd,qe,qf,reduceCtorEq,yb,hd,d1,c2]
  |true=>
  cases c1:decide (0≤n∧n≤99999)with
  |false=>rw [hbad (.inl (by rw [c1];simp))];rw [c1]at i1;simp only [go_sem,qa,qb,qc,qd,qe,qf,reduceCtorEq,yb,hd,d1,c2,i1]
  |true=>
  rw [c1]at i1
  by_cases c3:(0:Int) < ks.length
  ·rw [hbad (.inl (by rw [decide_eq_false (show ¬ (ks.length:Int)=0 by omega)];simp))];simp only [go_sem,qa,qb,qc,qd,qe,qf,reduceCtorEq,yb,hd,d1,c2,i1,hn,c3]
  ·rw [hgood (by rw [c1,c2,decide_eq_true (show (ks.length:Int)=0 by omega)];rfl)]
   by_cases hx:yG (d+1) ks=true∧(1:Int)+(nTs ks:Int)≤400
   ·have h:=h.1 hx;rw [if_pos hx];simp only [go_sem,qa,qb,qc,qd,qe,qf,reduceCtorEq,yb,hd,d1,c2,i1,hn,c3,h]
   ·obtain ⟨T,h⟩:=h.2 hx;rw [if_neg hx];simp only [go_sem,qa,qb,qc,qd,qe,qf,reduceCtorEq,yb,hd,d1,c2,i1,hn,c3,h]
 rw [if_neg k1]at hbad hgood
 have d1:decide (k=1)=false:=decide_eq_false k1
 by_cases k2:k=2
 ·have d2:decide (k=2)=true:=decide_eq_true k2
  rw [if_pos k2]at hbad hgood
  cases c1:xf s with
  |false=>rw [hbad (.inl (by rw [c1];simp))];rw [c1]at hnm;simp only [go_sem,qa,qb,qc,qd,qe,qf,reduceCtorEq,yb,hd,d1,d2,hnm]
  |true=>
  rw [c1]at hnm
  cases c2:decide (n=0)with
  |false=>rw [hbad (.inl (by rw [c2];simp))];simp only [go_sem,qa,qb,qc,qd,qe,qf,reduceCtorEq,yb,hd,d1,d2,hnm,c2]
  |true=>
  by_cases c3:(0:Int) < ks.length
  ·rw [hbad (.inl (by rw [decide_eq_false (show ¬ (ks.length:Int)=0 by omega)];simp))];simp only [go_sem,qa,qb,qc,qd,qe,qf,reduceCtorEq,yb,hd,d1,d2,hnm,c2,hn,c3]
  ·rw [hgood (by rw [c1,c2,decide_eq_true (show (ks.length:Int)=0 by omega)];rfl)]
   by_cases hx:yG (d+1) ks=true∧(1:Int)+(nTs ks:Int)≤400
   ·have h:=h.1 hx;rw [if_pos hx];simp only [go_sem,qa,qb,qc,qd,qe,qf,reduceCtorEq,yb,hd,d1,d2,hnm,c2,hn,c3,h]
   ·obtain ⟨T,h⟩:=h.2 hx;rw [if_neg hx];simp only [go_sem,qa,qb,qc,qd,qe,qf,reduceCtorEq,yb,hd,d1,d2,hnm,c2,hn,c3,h]
 rw [if_neg k2]at hbad hgood
 have d2:decide (k=2)=false:=decide_eq_false k2
 by_cases k3:k=3
 ·have d3:decide (k=3)=true:=decide_eq_true k3
  rw [if_pos k3]at hbad hgood
  cases c2:decide (s=[])with
  |false=>rw [hbad (.inl (by rw [c2];simp))];simp only [go_sem,qa,qb,qc,qd,qe,qf,reduceCtorEq,yb,hd,d1,d2,d3,c2]
  |true=>
  cases c1:decide (-999999999≤n∧n≤999999999)with
  |false=>rw [hbad (.inl (by rw [c1];simp))];rw [c1]at i2;simp only [go_sem,qa,qb,qc,qd,qe,qf,reduceCtorEq,yb,hd,d1,d2,d3,c2,i2]
  |true=>
  rw [c1]at i2
  by_cases c3:(0:Int) < ks.length
  ·rw [hbad (.inl (by rw [decide_eq_false (show ¬ (ks.length:Int)=0 by omega)];simp))];simp only [go_sem,qa,qb,qc,qd,qe,qf,reduceCtorEq,yb,hd,d1,d2,d3,c2,i2,hn,c3]
  ·rw [hgood (by rw [c1,c2,decide_eq_true (show (ks.length:Int)=0 by omega)];rfl)]
   by_cases hx:yG (d+1) ks=true∧(1:Int)+(nTs ks:Int)≤400
   ·have h:=h.1 hx;rw [if_pos hx];simp only [go_sem,qa,qb,qc,qd,qe,qf,reduceCtorEq,yb,hd,d1,d2,d3,c2,i2,hn,c3,h]
   ·obtain ⟨T,h⟩:=h.2 hx;rw [if_neg hx];simp only [go_sem,qa,qb,qc,qd,qe,qf,reduceCtorEq,yb,hd,d1,d2,d3,c2,i2,hn,c3,h]
 rw [if_neg k3]at hbad hgood
 have d3:decide (k=3)=false:=decide_eq_false k3
 by_cases k4:k=4
 ·have d4:decide (k=4)=true:=decide_eq_true k4
  rw [if_pos k4]at hbad hgood
  cases c1:xf s with
  |false=>rw [hbad (.inl (by rw [c1];simp))];rw [c1]at hnm;simp only [go_sem,qa,qb,qc,qd,qe,qf,reduceCtorEq,yb,hd,d1,d2,d3,d4,hnm]
  |true=>
  rw [c1]at hnm
  cases c2:decide (n=0)with
  |false=>rw [hbad (.inl (by rw [c2];simp))];simp only [go_sem,qa,qb,qc,qd,qe,qf,reduceCtorEq,yb,hd,d1,d2,d3,d4,hnm,c2]
  |true=>
  cases c3:decide (1≤(ks.length:Int)∧(ks.length:Int)≤5)with
  |false=>rw [hbad (.inl (by rw [c3];simp))];rw [c3]at i3;simp only [go_sem,qa,qb,qc,qd,qe,qf,reduceCtorEq,yb,hd,d1,d2,d3,d4,hnm,c2,hn,i3]
  |true=>
   rw [c3]at i3
   rw [hgood (by rw [c1,c2,c3];rfl)]
   by_cases hx:yG (d+1) ks=true∧(1:Int)+(nTs ks:Int)≤400
   ·have h:=h.1 hx;rw [if_pos hx];simp only [go_sem,qa,qb,qc,qd,qe,qf,reduceCtorEq,yb,hd,d1,d2,d3,d4,hnm,c2,hn,i3,h]
   ·obtain ⟨T,h⟩:=h.2 hx;rw [if_neg hx];simp only [go_sem,qa,qb,qc,qd,qe,qf,reduceCtorEq,yb,hd,d1,d2,d3,d4,hnm,c2,hn,i3,h]
 rw [if_neg k4]at hbad
 have d4:decide (k=4)=false:=decide_eq_false k4
 rw [hbad (.inl rfl)]
 simp only [go_sem,qa,qb,qc,qd,qe,qf,reduceCtorEq,yb,hd,d1,d2,d3,d4]
theorem qiD(t:Tm) (hw:WT t) (v:V) (hb:BT t v):cr qg Yl [v]=some (B (zA t)):=by
 have h1:=qsY t hw 1 v (by decide) (by decide) hb
 have hbd:=qpN 1 t
 obtain ⟨τ,vs,rfl,hv⟩:=qR hb
 rw [qo qx1 rfl]
 by_cases h:xz 1 t=true∧nT t≤400
 ·have h2:szI 1 t≤400:=by unfold szI;rw [if_pos h];omega
  have h3:zA t=true:=by unfold zA;rw [h.1,decide_eq_true h.2];rfl
  rw [h3]
  simp only [go_sem,qa,qb,qc,qd,qe,qf,reduceCtorEq,YW,h1,h2]
 ·have h2: ¬ szI 1 t≤400:=by unfold szI;rw [if_neg h];omega
  have h3:zA t=false:=by
   unfold zA
   cases e1:xz 1 t with
   |false=>rw [Bool.and_false]
   |true=>rw [decide_eq_false (fun hx=>h ⟨e1,hx⟩)];rfl
  rw [h3]
  simp only [go_sem,qa,qb,qc,qd,qe,qf,reduceCtorEq,YW,h1,h2]
end Go.Vm
namespace Go.Vm
theorem qm0(bs:List UInt8) (hl:bs.length≤2^40) (i:Nat) (h:Int) (hi:i≤bs.length) (e:Nat) (ls:List Int) (h0:0 < ls.length) (h1:ls.length≤256):
 ∃ (i':Nat) (h':Int) (s:Int),cw qg qhm [CU bs i h,.o 1 (ls.map I)]=some (I s,[CU bs i' h',.o 1 (ls.map I)])∧i'≤bs.length∧s ∈ ls:=by
 obtain ⟨i1,h1',x1,b1,hi1,p1,q1⟩:=xK bs hl i h hi ls.length (by omega) (by omega)
 obtain ⟨k,rfl⟩: ∃ k:Nat,x1=k:=⟨x1.toNat,by omega⟩
 obtain ⟨s,hs⟩:=qV (l:=ls) (i:=k) (by omega)
 have g:=zu (f:=I) hs
 have ix:=x3 (k:=(1,0)) (e:=1) (xs:=ls.map I) (i:=k) (len:=ls.length) (by omega) (by simp)
 have tk:(ls.map I).take ls.length=ls.map I:=List.take_of_length_le (by simp)
 refine ⟨i1,h1',s, ?_,hi1,List.mem_of_getElem? hs⟩
 rw [qI qzb rfl]
 unfold CU at b1 ⊢
 simp only [go_sem,qa,qb,qc,qd,qe,qf,reduceCtorEq,KV,qw,b1,ix,g,tk,List.length_map]
def Dr(m:Nat) (t:Tm):Prop:=WT t∧nT t≤m
theorem yA {m k:Nat} {t:Tm} (h:Dr m t) (hk:m≤k):Dr k t:=⟨h.1,Nat.le_trans h.2 hk⟩
theorem qnt {m:Nat}: ∀ (ts:List Tm),(∀ t ∈ ts,Dr m t)→nTs ts≤ts.length*m
 |[],_=>by simp [nTs]
 |t::ts,h=>by
  have h1:=(h t (by simp)).2
  have h2:=qnt ts fun u hu=>h u (by simp [hu])
  simp only [nTs,List.length_cons,Nat.succ_mul];omega
theorem qed {m:Nat} {k n:Int} {s:Str} {ks:List Tm} (hk: -1000≤k∧k≤1000) (hs:s.length≤1000) (hn: -2000000000≤n∧n≤2000000000) (hl:ks.length≤5) (h: ∀ t ∈ ks,Dr m t):Dr (5*m+1) (.mk k s n ks):=by
 refine ⟨xS ⟨by omega,by omega⟩ (by unfold Lm;omega) ⟨by omega,by omega⟩ (by unfold Lm;omega) fun u hu=>(h u hu).1, ?_⟩
 have:=qnt ks h
 have h5:ks.length*m≤5*m:=Nat.mul_le_mul_right _ hl
 simp only [nT];omega
theorem ZA {k n:Int} {s:Str} (hk: -1000≤k∧k≤1000) (hs:s.length≤1000) (hn: -2000000000≤n∧n≤2000000000):Dr 1 (.mk k s n []):=
 qed (m:=0) hk hs hn (by simp) (fun t ht=>by cases ht)
def szD:Nat→Nat
 |0=>1
 |d+1=>5*szD d+1
theorem qaz(d:Nat):1≤szD d:=by cases d<;>simp [szD]
theorem qwu(bs:List UInt8) (hl:bs.length≤2^40) (d:Nat) (hd:d+1≤100) (nm:Str) (ih: ∀ (i:Nat) (h:Int) (hi:i≤bs.length),d≤100→
 ∃ (i':Nat) (h':Int) (t:Tm),cw qg Qf [CU bs i h,I d]=some (oT t,[CU bs i' h',I d])∧i'≤bs.length∧Dr (szD d) t) (m:Nat):
 ∀ (ts:List Tm) (ci:Nat) (ch:Int),ts.length+m=3→ci≤bs.length→(∀ t ∈ ts,Dr (szD d) t)→
 ∃ (ci':Nat) (ch':Int) (us:List Tm),lw qg qbX ⟨[(0,.p (0,0) 0 0),(1,I ((d+1:Nat):Int)),(4,.p (100000,0) 0 0),(6,.p (100000,1) 0 0),(7,I (ts.length:Int))],[((0,0),3,[.a [.i false (bs.map zm),I ci,I ch]]),((100000,0),4,[.a [I 0,S [],I 0,.s (100000,2) 0 0]]),((100000,1),4,[.a [I 4,S nm,I 0,.s (100000,3) 0 ts.length]]),((100000,2),4,[]),((100000,3),4,ts.map oT)]⟩=some (.exit 1,⟨[(0,.p (0,0) 0 0),(4,.p (100000,0) 0 0),(6,.p (100000,1) 0 0)],[((0,0),3,[.a [.i false (bs.map zm),I ci',I ch']]),((100000,0),4,[.a [I 0,S [],I 0,.s (100000,2) 0 0]]),((100000,1),4,[.a [I 4,S nm,I 0,.s (100000,3) 0 us.length]]),((100000,2),4,[]),((100000,3),4,us.map oT)]⟩)∧ci'≤bs.length∧us.length≤3∧ ∀ t ∈ us,Dr (szD d) t:=by
 have ed:w64 (((d+1:Nat):Int) - 1)=(d:Int):=by rw [qm]<;>omega
 induction m with
 |zero=>
  intro ts ci ch hi hc hs
  obtain ⟨c1,d1,x1,b1,q1,q2,q3⟩:=xK bs hl ci ch hc 3 (by decide) (by decide)
  have e1:w64 (1+x1)=1+x1:=by rw [qm]<;>omega
  have hlt: ¬ (ts.length:Int) < 1+x1:=by omega
  refine ⟨c1,d1,ts, ?_,q1,by omega,hs⟩
  unfold CU at b1
  rw [ql]
  simp only [go_sem,qa,qb,qc,qd,qe,qf,reduceCtorEq,qcl,b1,e1,hlt]
 |succ m ihm=>
  intro ts ci ch hi hc hs
  obtain ⟨c1,d1,x1,b1,q1,q2,q3⟩:=xK bs hl ci ch hc 3 (by decide) (by decide)
  have e1:w64 (1+x1)=1+x1:=by rw [qm]<;>omega
  by_cases hlt:(ts.length:Int) < 1+x1
  case neg=>
   refine ⟨c1,d1,ts, ?_,q1,by omega,hs⟩
   unfold CU at b1
   rw [ql]
   simp only [go_sem,qa,qb,qc,qd,qe,qf,reduceCtorEq,qcl,b1,e1,hlt]
  obtain ⟨c2,d2,t2,b2,q4,q5⟩:=ih c1 d1 q1 (by omega)
  obtain ⟨c3,d3,us,h3,q6,q7,q8⟩:=ihm (ts++[t2]) c2 d2 (by simp only [List.length_append,List.length_cons,List.length_nil];omega) q4 (fun t ht=>by
   rcases List.mem_append.1 ht with ht|ht
   ·exact hs t ht
   ·rcases List.mem_cons.1 ht with rfl|ht
    ·exact q5
    ·cases ht)
  refine ⟨c3,d3,us, ?_,q6,q7,q8⟩
  rw [← h3]
  have h5:(ts.length:Int) < 5:=by omega
  have e2:w64 ((ts.length:Int)+1)=((ts.length+1:Nat):Int):=by rw [qm]<;>omega
  have l1:decide ((ts.length+1)*56≤lim)=true:=decide_eq_true (by rw [qM];omega)
  have l2:decide (ts.length+1≤lim)=true:=decide_eq_true (by rw [qM];omega)
  have tk2:(ts.map oT).take ts.length=ts.map oT:=List.take_of_length_le (by simp)
  have rp:=fun k' ob (y:V) (ys:List V)=>QA k' ob (ts.map oT) (y::ys) (Q1 _)
  have tk: ∀ x:Tm,(x.kids.map oT).take x.kids.length=x.kids.map oT:=fun x=>List.take_of_length_le (by simp)
  have ln:(ts++[t2]).length=ts.length+1:=by simp
  have mp:(ts++[t2]).map oT=ts.map oT++[oT t2]:=by simp
  rw [ln,mp]
  unfold CU at b1 b2
  rw [qv]at b2 ⊢
  rw [ql]
  simp only [go_sem,qa,qb,qc,qd,qe,qf,reduceCtorEq,qcl,b1,b2,e1,e2,hlt,h5,ed,l1,l2,tk2,rp,tk,List.length_map]
theorem qwv(bs:List UInt8) (hl:bs.length≤2^40) (d:Nat): ∀ (i:Nat) (h:Int) (hi:i≤bs.length),d≤100→
 ∃ (i':Nat) (h':Int) (t:Tm),cw qg Qf [CU bs i h,I d]=some (oT t,[CU bs i' h',I d])∧i'≤bs.length∧Dr (szD d) t:=by
 induction d with
 |zero=>
  intro i h hi _
  have c0:(0:Int)≤0:=Int.le_refl _
  obtain ⟨i1,h1,x1,b1,p1,q1,r1⟩:=xK bs hl i h hi 10 (by decide) (by decide)
  have br:=ZK (a:=x1) (b:=6) (by decide)
  obtain ⟨m1,m2⟩:=qkf x1 6 q1 (by decide)
  generalize x1.tmod 6=k at br m1 m2
  by_cases k2:k < 2
  ·obtain ⟨i2,h2,x2,b2,p2,q2,r2⟩:=xK bs hl i1 h1 p1 4 (by decide) (by decide)
   have v:=qdh x2
   refine ⟨i2,h2,.mk 1 [] x2 [], ?_,p2,yA (ZA (by omega) (by simp) (by omega)) (qaz _)⟩
   rw [qI ZW rfl]
   unfold CU at b1 b2 ⊢
   rw [zj]at v ⊢
   simp only [go_sem,qa,qb,qc,qd,qe,qf,reduceCtorEq,kH,qw,b1,b2,c0,br,k2,v]
  by_cases k4:k < 4
  ·obtain ⟨i2,h2,x2,b2,p2,q2⟩:=J8 bs hl i1 h1 p1 1 [[97],[98],[91,93],[43],[66,105,103],[120],[58,45],[61,46,46]] (by decide) (by decide)
   have v:=X3 x2
   have lx:x2.length≤1000:=Nat.le_trans ((show ∀ s ∈ ([[97],[98],[91,93],[43],[66,105,103],[120],[58,45],[61,46,46]]:List Str),s.length≤3 by decide) x2 q2) (by decide)
   refine ⟨i2,h2,.mk 2 x2 0 [], ?_,p2,yA (ZA (by omega) lx (by omega)) (qaz _)⟩
   rw [qI ZW rfl]
   unfold CU at b1 b2 ⊢
   rw [zj]at v ⊢
   simp only [List.map_cons,List.map_nil]at b2
   have sl:X5 (S [120,32,121]) none (some (I 1))=some (S [120]):=rfl
   simp only [go_sem,qa,qb,qc,qd,qe,qf,reduceCtorEq,kH,qw,b1,b2,c0,br,k2,k4,v,sl]
  by_cases k6:k < 6
  ·obtain ⟨i2,h2,x2,b2,p2,q2⟩:=qm0 bs hl i1 h1 p1 1 [0,1,-7,999999999] (by decide) (by decide)
   have v:=qgA x2
   have lx:=(show ∀ s ∈ ([0,1,-7,999999999]:List Int),-2000000000≤s∧s≤2000000000 by decide) x2 q2
   refine ⟨i2,h2,.mk 3 [] x2 [], ?_,p2,yA (ZA (by omega) (by simp) lx) (qaz _)⟩
   rw [qI ZW rfl]
   unfold CU at b1 b2 ⊢
   rw [zj]at v ⊢
   simp only [List.map_cons,List.map_nil]at b2
   simp only [go_sem,qa,qb,qc,qd,qe,qf,reduceCtorEq,kH,qw,b1,b2,c0,br,k2,k4,k6,v]
  exact absurd m2 k6
 |succ d ih=>
  intro i h hi hd
  have c0: ¬ ((d+1:Nat):Int)≤0:=by omega
  obtain ⟨i1,h1,k,b1,p1,q1,r1⟩:=xK bs hl i h hi 10 (by decide) (by decide)
  by_cases k2:k < 2
  ·obtain ⟨i2,h2,x2,b2,p2,q2,r2⟩:=xK bs hl i1 h1 p1 4 (by decide) (by decide)
   have v:=qdh x2
   refine ⟨i2,h2,.mk 1 [] x2 [], ?_,p2,yA (ZA (by omega) (by simp) (by omega)) (qaz _)⟩
   rw [qI ZW rfl]
   unfold CU at b1 b2 ⊢
   rw [zj]at v ⊢
   simp only [go_sem,qa,qb,qc,qd,qe,qf,reduceCtorEq,kH,qw,b1,b2,c0,k2,v]
  by_cases k4:k < 4
  ·obtain ⟨i2,h2,x2,b2,p2,q2⟩:=J8 bs hl i1 h1 p1 1 [[97],[98],[91,93],[43],[66,105,103],[120],[58,45],[61,46,46]] (by decide) (by decide)
   have v:=X3 x2
   have lx:x2.length≤1000:=Nat.le_trans ((show ∀ s ∈ ([[97],[98],[91,93],[43],[66,105,103],[120],[58,45],[61,46,46]]:List Str),s.length≤3 by decide) x2 q2) (by decide)
   refine ⟨i2,h2,.mk 2 x2 0 [], ?_,p2,yA (ZA (by omega) lx (by omega)) (qaz _)⟩
   rw [qI ZW rfl]
   unfold CU at b1 b2 ⊢
   rw [zj]at v ⊢
   simp only [List.map_cons,List.map_nil]at b2
   have sl:X5 (S [120,32,121]) none (some (I 1))=some (S [120]):=rfl
   simp only [go_sem,qa,qb,qc,qd,qe,qf,reduceCtorEq,kH,qw,b1,b2,c0,k2,k4,v,sl]
  by_cases k6:k < 6
  ·obtain ⟨i2,h2,x2,b2,p2,q2⟩:=qm0 bs hl i1 h1 p1 1 [0,1,-7,999999999] (by decide) (by decide)
   have v:=qgA x2
   have lx:=(show ∀ s ∈ ([0,1,-7,999999999]:List Int),-2000000000≤s∧s≤2000000000 by decide) x2 q2
   refine ⟨i2,h2,.mk 3 [] x2 [], ?_,p2,yA (ZA (by omega) (by simp) lx) (qaz _)⟩
   rw [qI ZW rfl]
   unfold CU at b1 b2 ⊢
   rw [zj]at v ⊢
   simp only [List.map_cons,List.map_nil]at b2
   simp only [go_sem,qa,qb,qc,qd,qe,qf,reduceCtorEq,kH,qw,b1,b2,c0,k2,k4,k6,v]
  have ed:w64 (((d+1:Nat):Int) - 1)=(d:Int):=by rw [qm]<;>omega
  by_cases k7:k=6
  ·obtain ⟨i2,h2,t2,b2,p2,w2⟩:=ih i1 h1 p1 (by omega)
   obtain ⟨i3,h3,t3,b3,p3,w3⟩:=ih i2 h2 p2 (by omega)
   have v:=qfR [46] t2 t3
   refine ⟨i3,h3,.mk 4 [46] 0 [t2,t3], ?_,p3,qed (by omega) (by simp) (by omega) (by simp) (fun t ht=>by
    rcases List.mem_cons.1 ht with rfl|ht
    ·exact w2
    ·rcases List.mem_cons.1 ht with rfl|ht
     ·exact w3
     ·cases ht)⟩
   rw [qI ZW rfl]
   unfold CU at b1 b2 b3 ⊢
   have d7:decide (k=6)=true:=decide_eq_true k7
   rw [YJ,List.map_cons,List.map_cons,List.map_nil]at v ⊢
   rw [qv t2]at b2 v ⊢
   rw [qv t3]at b3 v ⊢
   simp only [go_sem,qa,qb,qc,qd,qe,qf,reduceCtorEq,kH,qw,b1,b2,b3,c0,k2,k4,k6,d7,ed,v,dT]
  have d7:decide (k=6)=false:=decide_eq_false k7
  by_cases k8:k=7
  ·have d8:decide (k=7)=true:=decide_eq_true k8
   obtain ⟨i4,h4,x4,b4,p4,q4⟩:=J8 bs hl i1 h1 p1 1 [[43],[61],[44],[102],[59]] (by decide) (by decide)
   have lx:x4.length≤1000:=Nat.le_trans ((show ∀ s ∈ ([[43],[61],[44],[102],[59]]:List Str),s.length≤3 by decide) x4 q4) (by decide)
   obtain ⟨i2,h2,t2,b2,p2,w2⟩:=ih i4 h4 p4 (by omega)
   obtain ⟨i3,h3,t3,b3,p3,w3⟩:=ih i2 h2 p2 (by omega)
   have v:=qfR x4 t2 t3
   refine ⟨i3,h3,.mk 4 x4 0 [t2,t3], ?_,p3,qed (by omega) lx (by omega) (by simp) (fun t ht=>by
    rcases List.mem_cons.1 ht with rfl|ht
    ·exact w2
    ·rcases List.mem_cons.1 ht with rfl|ht
     ·exact w3
     ·cases ht)⟩
   rw [qI ZW rfl]
   unfold CU at b1 b2 b3 b4 ⊢
   simp only [List.map_cons,List.map_nil]at b4
   rw [YJ,List.map_cons,List.map_cons,List.map_nil]at v ⊢
   rw [qv t2]at b2 v ⊢
   rw [qv t3]at b3 v ⊢
   simp only [go_sem,qa,qb,qc,qd,qe,qf,reduceCtorEq,kH,qw,b1,b2,b3,b4,c0,k2,k4,k6,d7,d8,ed,v,dT]
  have d8:decide (k=7)=false:=decide_eq_false k8
  obtain ⟨i4,h4,x4,b4,p4,q4⟩:=J8 bs hl i1 h1 p1 1 [[102],[103],[45],[91,93]] (by decide) (by decide)
  have lx:x4.length≤1000:=Nat.le_trans ((show ∀ s ∈ ([[102],[103],[45],[91,93]]:List Str),s.length≤3 by decide) x4 q4) (by decide)
  obtain ⟨i5,h5,us,lp,p5,p6,p7⟩:=qwu bs hl d hd x4 ih 3 [] i4 h4 rfl p4 (fun t ht=>by cases ht)
  refine ⟨i5,h5,.mk 4 x4 0 us, ?_,p5,qed (by omega) lx (by omega) (by omega) p7⟩
  rw [qI ZW rfl]
  unfold CU at b1 b4 ⊢
  simp only [List.map_cons,List.map_nil,List.length_nil,Int.natCast_zero]at b4 lp
  have tk:(us.map oT).take us.length=us.map oT:=List.take_of_length_le (by simp)
  rw [YJ]
  simp only [go_sem,qa,qb,qc,qd,qe,qf,reduceCtorEq,kH,qw,b1,b4,c0,k2,k4,k6,d7,d8,ed,lp,tk,List.length_map]
def j8:Nat→Tm→Tm
 |0,t=>t
 |n+1,t=>j8 n (.mk 4 [115] 0 [t])
theorem qqg: ∀ (n:Nat) (t:Tm) (m:Nat),Dr m t→Dr (m+n) (j8 n t)
 |0,t,m,h=>h
 |n+1,t,m,h=>by
  have h1:Dr (m+1) (.mk 4 [115] 0 [t]):=by
   refine ⟨xS ⟨by omega,by omega⟩ (by unfold Lm;simp) ⟨by omega,by omega⟩ (by unfold Lm;simp) (fun u hu=>by simp only [List.mem_singleton]at hu;subst hu;exact h.1), ?_⟩
   have:=h.2
   simp only [nT,nTs];omega
  have:=qqg n _ _ h1
  simp only [j8]
  rw [show m+(n+1)=m+1+n by omega]
  exact this
theorem qgO {m:Nat} {t:Tm} (h:Dr m t) {k n:Int} {s:Str} (hk: -1000≤k∧k≤1000) (hs:s.length≤Lm) (hn: -2000000000≤n∧n≤2000000000):
 Dr m (.mk k s t.num t.kids)∧Dr m (.mk t.kind s t.num t.kids)∧Dr m (.mk t.kind t.name n t.kids):=by
 have h1:=h.1
 have h2:=h.2
 have e:nT t=nTs t.kids+1:=by cases t;rfl
 refine ⟨⟨xS ⟨by omega,by omega⟩ hs (qhW h1) (km h1) (yt h1),by simp only [nT];omega⟩,⟨xS (qhU h1) hs (qhW h1) (km h1) (yt h1),by simp only [nT];omega⟩,⟨xS (qhU h1) (XB h1) ⟨by omega,by omega⟩ (km h1) (yt h1),by simp only [nT];omega⟩⟩
theorem qwq(bs:List UInt8) (ci:Nat) (ch:Int) (y:Int) (j:Nat) (hj:j < 4) (hy:qD .rem (I y) (I 4)=some (I (j:Int))) (m:Nat): ∀ (i:Nat) (t:Tm),i+m=38+j→
 lw qg qbW ⟨[(0,.p (0,0) 0 0),(2,.p (100000,0) 0 0),(4,I y),(5,.p (100000,1) 0 0),(6,I (i:Int))],[((0,0),3,[.a [.i false (bs.map zm),I ci,I ch]]),((100000,0),4,[.a [I 0,S [],I 0,.s (100000,2) 0 0]]),((100000,1),4,[.a [I (Tm.kind t),S (Tm.name t),I (Tm.num t),.s (100000,3) 0 (Tm.kids t).length]]),((100000,2),4,[]),((100000,3),4,(Tm.kids t).map oT)]⟩=some (.exit 1,⟨[(0,.p (0,0) 0 0),(2,.p (100000,0) 0 0),(5,.p (100000,1) 0 0)],[((0,0),3,[.a [.i false (bs.map zm),I ci,I ch]]),((100000,0),4,[.a [I 0,S [],I 0,.s (100000,2) 0 0]]),((100000,1),4,[.a [I (Tm.kind (j8 m t)),S (Tm.name (j8 m t)),I (Tm.num (j8 m t)),.s (100000,3) 0 (Tm.kids (j8 m t)).length]]),((100000,2),4,[]),((100000,3),4,(Tm.kids (j8 m t)).map oT)]⟩):=by
 have e0:w64 (38+(j:Int))=((38+j:Nat):Int):=by rw [qm]<;>omega
 induction m with
 |zero=>
  intro i t hi
  have hlt: ¬ (i:Int) < ((38+j:Nat):Int):=by omega
  rw [ql]
  simp only [go_sem,qa,qb,qc,qd,qe,qf,reduceCtorEq,qfl,hy,e0,hlt,j8]
 |succ m ih=>
  intro i t hi
  have hlt:(i:Int) < ((38+j:Nat):Int):=by omega
  have e1:w64 ((i:Int)+1)=((i+1:Nat):Int):=by rw [qm]<;>omega
  have h:=ih (i+1) (.mk 4 [115] 0 [t]) (by omega)
  have tk:(t.kids.map oT).take t.kids.length=t.kids.map oT:=List.take_of_length_le (by simp)
  simp only [j8]
  rw [← h]
  simp only [yq,yr,yB,zU,List.map_cons,List.map_nil,List.length_cons,List.length_nil,Nat.zero_add]
  rw [qv t,ql]
  simp only [go_sem,qa,qb,qc,qd,qe,qf,reduceCtorEq,qfl,hy,e0,e1,hlt,tk,List.length_map]
theorem qnb(ls:List Str) (j:Nat) (hj:j < ls.length) (b:Nat) (hb: ∀ s ∈ ls,s.length≤b): ∃ w,(ls.map S)[j]? =some (S w)∧w.length≤b:=by
 obtain ⟨w,hw⟩:=qV (l:=ls) (i:=j) hj
 exact ⟨w,zu (f:=S) hw,hb w (List.mem_of_getElem? hw)⟩
theorem qxb(ls:List Int) (j:Nat) (hj:j < ls.length) (hb: ∀ s ∈ ls,-2000000000≤s∧s≤2000000000): ∃ w:Int,(ls.map I)[j]? =some (I w)∧ -2000000000≤w∧w≤2000000000:=by
 obtain ⟨w,hw⟩:=qV (l:=ls) (i:=j) hj
 exact ⟨w,zu (f:=I) hw,hb w (List.mem_of_getElem? hw)⟩
theorem qdj(a:Int) (n:Nat) (ha:0≤a) (hn:0 < n): ∃ j:Nat,a.tmod n=j∧j < n:=by
 have:=qkf a n ha (by omega)
 exact ⟨(a.tmod n).toNat,by omega,by omega⟩
theorem qm1(bs:List UInt8) (hl:bs.length≤2^40) (i:Nat) (h:Int) (hi:i≤bs.length):
 ∃ (i':Nat) (h':Int) (t:Tm),cw qg qeE [CU bs i h]=some (oT t,[CU bs i' h'])∧i'≤bs.length∧Dr 200 t:=by
 obtain ⟨i1,h1,k,b1,p1,q1,r1⟩:=xK bs hl i h hi 12 (by decide) (by decide)
 obtain ⟨i2,h2,y,b2,p2,q2,r2⟩:=xK bs hl i1 h1 p1 60 (by decide) (by decide)
 obtain ⟨i3,h3,t,b3,p3,w⟩:=qwv bs hl 3 i2 h2 p2 (by decide)
 have b3:cw qg Qf [CU bs i2 h2,I 3]=some (oT t,[CU bs i3 h3,I 3]):=b3
 have w:Dr 156 t:=w
 have tk:(t.kids.map oT).take t.kids.length=t.kids.map oT:=List.take_of_length_le (by simp)
 have y6:=ZK (a:=y) (b:=6) (by decide)
 have y4:=ZK (a:=y) (b:=4) (by decide)
 have y3:=ZK (a:=y) (b:=3) (by decide)
 obtain ⟨j6,e6,u6⟩:=qdj y 6 q2 (by decide)
 obtain ⟨j4,e4,u4⟩:=qdj y 4 q2 (by decide)
 obtain ⟨j3,e3,u3⟩:=qdj y 3 q2 (by decide)
 rw [show y.tmod 6=(j6:Int)from e6]at y6
 rw [show y.tmod 4=(j4:Int)from e4]at y4
 rw [show y.tmod 3=(j3:Int)from e3]at y3
 by_cases k0:k=0
 ·have d0:decide (k=0)=true:=decide_eq_true k0
  refine ⟨i3,h3,.mk j6 t.name t.num t.kids, ?_,p3,yA (qgO (k:=j6) (n:=0) w (by omega) (XB w.1) (by omega)).1 (by decide)⟩
  rw [qI qcX rfl]
  rw [qv]at b3 ⊢
  unfold CU at b1 b2 b3 ⊢
  simp only [go_sem,qa,qb,qc,qd,qe,qf,reduceCtorEq,QI,qw,b1,b2,b3,d0,y6,tk,List.length_map]
 have d0:decide (k=0)=false:=decide_eq_false k0
 by_cases k1:k=1
 ·have d1:decide (k=1)=true:=decide_eq_true k1
  obtain ⟨s,gs,ls⟩:=qnb [[],[97,32,98],[39],[97,97,97,97,97,97,97,97,97,97,97,97,97,97,97,97,97,97,97,97,97]] j4 u4 100 (by decide)
  simp only [List.map_cons,List.map_nil]at gs
  have ix:=x3 (k:=(21,0)) (e:=1) (xs:=[S [],S [97,32,98],S [39],S [97,97,97,97,97,97,97,97,97,97,97,97,97,97,97,97,97,97,97,97,97]]) (i:=j4) (len:=4) (by omega) (by simp)
  refine ⟨i3,h3,.mk t.kind s t.num t.kids, ?_,p3,yA (qgO (k:=0) (n:=0) w (by omega) (s:=s) (by unfold Lm;omega) (by omega)).2.1 (by decide)⟩
  rw [qI qcX rfl]
  rw [qv]at b3 ⊢
  unfold CU at b1 b2 b3 ⊢
  simp only [go_sem,qa,qb,qc,qd,qe,qf,reduceCtorEq,QI,qw,b1,b2,b3,d0,d1,y4,ix,gs,tk,List.length_map]
 have d1:decide (k=1)=false:=decide_eq_false k1
 by_cases k2:k=2
 ·have d2:decide (k=2)=true:=decide_eq_true k2
  obtain ⟨n,gn,ln⟩:=qxb [-1,100000,1000000000] j3 u3 (by decide)
  simp only [List.map_cons,List.map_nil]at gn
  have ix:=x3 (k:=(29,0)) (e:=1) (xs:=[I (-1),I 100000,I 1000000000]) (i:=j3) (len:=3) (by omega) (by simp)
  refine ⟨i3,h3,.mk t.kind t.name n t.kids, ?_,p3,yA (qgO (k:=0) (n:=n) w (by omega) (s:=[]) (by simp) (by omega)).2.2 (by decide)⟩
  rw [qI qcX rfl]
  rw [qv]at b3 ⊢
  unfold CU at b1 b2 b3 ⊢
  simp only [go_sem,qa,qb,qc,qd,qe,qf,reduceCtorEq,QI,qw,b1,b2,b3,d0,d1,d2,y3,ix,gn,tk,List.length_map]
 have d2:decide (k=2)=false:=decide_eq_false k2
 by_cases k3:k=3
 ·have d3:decide (k=3)=true:=decide_eq_true k3
  have lp:=qwq bs i3 h3 y j4 u4 y4 (38+j4) 0 t (by omega)
  simp only [Int.natCast_zero]at lp
  refine ⟨i3,h3,j8 (38+j4) t, ?_,p3,yA (qqg _ _ _ w) (by omega)⟩
  generalize j8 (38+j4) t=u at lp ⊢
  have tku:(u.kids.map oT).take u.kids.length=u.kids.map oT:=List.take_of_length_le (by simp)
  rw [qI qcX rfl]
  rw [qv]at b3 ⊢
  unfold CU at b1 b2 b3 ⊢
  simp only [go_sem,qa,qb,qc,qd,qe,qf,reduceCtorEq,QI,qw,b1,b2,b3,d0,d1,d2,d3,lp,tk,tku,List.length_map]
 have d3:decide (k=3)=false:=decide_eq_false k3
 refine ⟨i3,h3,t, ?_,p3,yA w (by decide)⟩
 rw [qI qcX rfl]
 rw [qv]at b3 ⊢
 unfold CU at b1 b2 b3 ⊢
 simp only [go_sem,qa,qb,qc,qd,qe,qf,reduceCtorEq,QI,qw,b1,b2,b3,d0,d1,d2,d3,tk,List.length_map]
end Go.Vm
namespace Go.Vm
open Go.Lib (itoa decDigits)
def XH(m:Nat):Str:=if m=0 then []else decDigits m
theorem qr8 {m:Nat} (h:m ≠ 0):XH m=XH (m / 10)++[UInt8.ofNat (48+m % 10)]:=by
 unfold XH
 rw [if_neg h,decDigits]
 by_cases h1:m < 10
 ·rw [dif_pos h1,if_pos (by omega),Nat.mod_eq_of_lt h1];rfl
 ·rw [dif_neg h1,if_neg (by omega)]
theorem qwn(d:Int) (h0:0≤d) (h1:d≤9):cr qg qhk [I d]=some (U8 (48+d)):=by
 rw [qo qy6 rfl]
 have h2:d < 10:=by omega
 have e4:w64 (48+d)=48+d:=by rw [qm]<;>omega
 have e5:IntKind.u8.wrap (48+d)=48+d:=by
  have:(48+d) % 256=48+d:=by omega
  exact this
 simp only [go_sem,qa,qb,qc,qd,qe,qf,reduceCtorEq,KQ,h2,e4,e5]
theorem qkq(b:Bool): ∀ (k:Nat) (n:Int) (s:Str),n.natAbs < 10^k→k≤19→ -9223372036854775808≤n→n≤9223372036854775807→s.length+k≤100→
 lw qg qbR ⟨[(0,I n),(3,B b),(4,S s)],[]⟩=some (.exit 0,⟨[(3,B b),(4,S (XH n.natAbs++s))],[]⟩):=by
 intro k
 induction k with
 |zero=>
  intro n s h1 h2 h3 h4 h5
  obtain rfl:n=0:=by omega
  rw [show XH (Int.natAbs 0)++s=s from rfl,ql]
  simp only [go_sem,qa,qb,qc,qd,qe,qf,reduceCtorEq,JI]
 |succ k ih=>
  intro n s h1 h2 h3 h4 h5
  by_cases h0:n=0
  ·subst h0
   rw [show XH (Int.natAbs 0)++s=s from rfl,ql]
   simp only [go_sem,qa,qb,qc,qd,qe,qf,reduceCtorEq,JI]
  have d0:decide (n=0)=false:=decide_eq_false h0
  have e1:qD .rem (I n) (I 10)=_:=ZK (by decide)
  have e2:qD .quo (I n) (I 10)=_:=qlu (by decide)
  have q1:(n.tdiv 10).natAbs=n.natAbs / 10:=Int.natAbs_tdiv n 10
  have r1:(n.tmod 10).natAbs=n.natAbs % 10:=Int.natAbs_tmod n 10
  have e3:w64 (n.tdiv 10)=n.tdiv 10:=by rw [qm]<;>omega
  have e4:w64 (n.tmod 10)=n.tmod 10:=by rw [qm]<;>omega
  have e5:w64 (0 - n.tmod 10)=0 - n.tmod 10:=by rw [qm]<;>omega
  have e6:jq [U8 (48+((n.natAbs % 10:Nat):Int))]=some [UInt8.ofNat (48+((n.natAbs % 10:Nat):Int)).toNat]:=rfl
  have e8:(48+((n.natAbs % 10:Nat):Int)).toNat=48+n.natAbs % 10:=by omega
  rw [e8]at e6
  have e7:qD .add (S [UInt8.ofNat (48+n.natAbs % 10)]) (S s)=_:=zl (by simp only [List.length_cons,List.length_nil];omega)
  have hp:n.natAbs / 10 < 10^k:=by rw [Nat.pow_succ]at h1;omega
  have ih1:=ih (n.tdiv 10) ([UInt8.ofNat (48+n.natAbs % 10)]++s) (by omega) (by omega) (by omega) (by omega) (by simp only [List.length_append,List.length_cons,List.length_nil];omega)
  rw [q1, ← List.append_assoc, ← qr8 (show n.natAbs ≠ 0 by omega)]at ih1
  have f:=qwn ((n.natAbs % 10:Nat):Int) (by omega) (by omega)
  rw [ql]
  by_cases hneg:n.tmod 10 < 0
  ·have e9:0 - n.tmod 10=((n.natAbs % 10:Nat):Int):=by omega
   rw [e9]at e5
   simp only [go_sem,qa,qb,qc,qd,qe,qf,reduceCtorEq,JI,d0,e1,e2,e3,e4,hneg,e9,e5,f,e6,e7]at ih1 ⊢
   exact ih1
  ·have e9:n.tmod 10=((n.natAbs % 10:Nat):Int):=by omega
   have e10: ¬ ((n.natAbs % 10:Nat):Int) < 0:=by omega
   rw [e9]at e1 e4
   simp only [go_sem,qa,qb,qc,qd,qe,qf,reduceCtorEq,JI,d0,e1,e2,e3,e4,e10,f,e6,e7]at ih1 ⊢
   exact ih1
theorem ql6 {m:Nat} (h:m ≠ 0):XH m=decDigits m:=if_neg h
theorem qBH(n:Int) (h0: -9223372036854775808≤n) (h1:n≤9223372036854775807):cr qg Jr [I n]=some (S (itoa n)):=by
 rw [qo qyU rfl]
 by_cases hz:n=0
 ·subst hz
  have:itoa 0=[48]:=by unfold itoa;rw [if_neg (by decide),decDigits];rfl
  rw [this]
  simp only [go_sem,qa,qb,qc,qd,qe,qf,reduceCtorEq,Yc]
 have d0:decide (n=0)=false:=decide_eq_false hz
 by_cases hneg:n < 0
 ·have h:=qkq true 19 n [] (by omega) (by decide) h0 h1 (by decide)
  rw [List.append_nil,ql6 (by omega)]at h
  have hl:(decDigits n.natAbs).length < 2^62:=by
   have: ∀ (k m:Nat),m < 10^(k+1)→(decDigits m).length≤k+1:=by
    intro k
    induction k with
    |zero=>intro m hm;rw [decDigits,dif_pos (by omega)];simp
    |succ k ih=>
     intro m hm
     rw [decDigits]
     split
     ·simp
     ·rw [List.length_append]
      have:=ih (m / 10) (by rw [Nat.pow_succ]at hm;omega)
      simp only [List.length_cons,List.length_nil];omega
   have:=this 18 n.natAbs (by omega)
   omega
  have e7:qD .add (S [45]) (S (decDigits n.natAbs))=_:=zl (by simp only [List.length_cons,List.length_nil];omega)
  have hi:itoa n=[45]++decDigits n.natAbs:=by unfold itoa;rw [if_pos hneg];rfl
  rw [hi]
  simp only [go_sem,qa,qb,qc,qd,qe,qf,reduceCtorEq,Yc,d0,hneg,h,e7]
 ·have h:=qkq false 19 n [] (by omega) (by decide) h0 h1 (by decide)
  rw [List.append_nil,ql6 (by omega)]at h
  have hi:itoa n=decDigits n.natAbs:=by unfold itoa;rw [if_neg hneg,show n.toNat=n.natAbs by omega]
  rw [hi]
  simp only [go_sem,qa,qb,qc,qd,qe,qf,reduceCtorEq,Yc,d0,hneg,h]
theorem qiB(n:Int) (h0: -9223372036854775808≤n) (h1:n≤9223372036854775807):cr qg qbb [I n]=some (S (itoa n)):=by
 rw [qo qxR rfl]
 have h:=qrX qzO n h0 h1
 simp only [go_sem,qa,qb,qc,qd,qe,qf,reduceCtorEq,Kh,h]
end Go.Vm
namespace Go.Vm
open Go.Lib (itoa decDigits)
@[go_sem] theorem qP1 {n:Nat} {a:Int}:zh false n (I a) 0=some (I a):=(rfl)
@[go_sem] theorem qP3 {n:Nat} {x:Str}:zh false n (S x) 0=some (S x):=(rfl)
@[go_sem] theorem qP5 {n:Nat} {a:Int}:zh false n (U8 a) 0=some (U8 a):=(rfl)
def yk(n:Str):Nat→List Str→Int
 |_,[]=> -1
 |i,x::xs=>if n=x then (i:Int)else yk n (i+1) xs
theorem qfK(n:Str): ∀ (l:List Str) (i:Nat),(n ∈ l→(i:Int)≤yk n i l∧yk n i l < i+l.length)∧(n ∉ l→yk n i l= -1)
 |[],i=>⟨fun h=>(by cases h),fun _=>rfl⟩
 |x::xs,i=>by
  obtain ⟨h1,h2⟩:=qfK n xs (i+1)
  by_cases h:n=x
  ·subst h;simp [yk];omega
  ·simp only [yk,if_neg h,List.mem_cons,h,false_or,List.length_cons]
   exact ⟨fun hm=>by have:=h1 hm;omega,h2⟩
theorem qsB(n:Str) (l:List Str):0≤yk n 0 l↔n ∈ l:=by
 obtain ⟨h1,h2⟩:=qfK n l 0
 by_cases h:n ∈ l
 ·simp only [h,iff_true];have:=h1 h;omega
 ·simp only [h,iff_false,h2 h];omega
theorem qqS(τ:Bool) (l:List Str) (n:Str) (hlim:l.length≤2^40):
 lw qg Jz ⟨[(0,.i τ (l.map S)),(1,S n),(7,I l.length),(8,I (0:Nat))],[]⟩=if n ∈ l then some (.ret,⟨[(4,I (yk n 0 l))],[]⟩)else some (.exit 0,⟨[],[]⟩):=by
 refine ZN l (fun i r=>lw qg Jz ⟨[(0,.i τ (l.map S)),(1,S n),(7,I l.length),(8,I i)],[]⟩=if n ∈ r then some (.ret,⟨[(4,I (yk n i r))],[]⟩)else some (.exit 0,⟨[],[]⟩)) (by omega) ?_ ?_
 ·rw [ql]
  simp only [go_sem,qa,qb,qc,qd,qe,qf,reduceCtorEq,qce,List.not_mem_nil]
 ·intro i t r ht hi hlt e1 hir hm hr ih
  have g:=zu (f:=S) ht
  have a1:=qZ (τ:=τ) (T:=[]) (e:=1) g rfl
  rw [ql]
  by_cases he:n=t
  ·have d:decide (n=t)=true:=decide_eq_true he
   rw [if_pos (by rw [he];exact List.mem_cons_self),yk,if_pos he]
   simp only [go_sem,qa,qb,qc,qd,qe,qf,reduceCtorEq,qce,hlt,a1,g,e1,d]
  ·have d:decide (n=t)=false:=decide_eq_false he
   have hmm:(n ∈ t::r)=(n ∈ r):=by simp only [List.mem_cons,he,false_or]
   simp only [hmm,yk,if_neg he]
   simp only [go_sem,qa,qb,qc,qd,qe,qf,reduceCtorEq,qce,hlt,a1,g,e1,d]
   exact ih
theorem qqT(τ:Bool) (l:List Str) (n:Str) (hlim:l.length≤2^40):cr qg qhf [.i τ (l.map S),S n]=some (I (yk n 0 l)):=by
 rw [qo qyO rfl]
 have h:=qqS τ l n hlim
 simp only [Int.natCast_zero]at h
 by_cases hm:n ∈ l
 ·rw [if_pos hm]at h
  simp only [go_sem,qa,qb,qc,qd,qe,qf,reduceCtorEq,Y7,h]
 ·rw [if_neg hm]at h
  simp only [go_sem,qa,qb,qc,qd,qe,qf,reduceCtorEq,Y7,h,(qfK n l 0).2 hm]
theorem qqn(τ:Bool) (l:List Str) (n:Str) (hlim:l.length≤2^40):cr qg qhb [.i τ (l.map S),S n]=some (B (decide (n ∈ l))):=by
 rw [qo qyK rfl]
 have h:=qqT τ l n hlim
 have hm:decide (0≤yk n 0 l)=decide (n ∈ l):=decide_eq_decide.2 (qsB n l)
 simp only [go_sem,qa,qb,qc,qd,qe,qf,reduceCtorEq,KL,h,hm]
def qcC:List Str:=[[116,114,117,101,47,48],[102,97,105,108,47,48],[33,47,48],[44,47,50],[59,47,50],[45,62,47,50],[92,43,47,49],[99,97,108,108,47,49],[99,97,108,108,47,50],[99,97,108,108,47,51],[99,97,116,99,104,47,51],[116,104,114,111,119,47,49],[61,47,50],[92,61,47,50],[61,61,47,50],[105,115,47,50],[60,47,50],[61,58,61,47,50],[118,97,114,47,49],[97,116,111,109,47,49],[119,114,105,116,101,47,49],[97,115,115,101,114,116,122,47,49],[114,101,116,114,97,99,116,47,49],[58,45,47,50],[58,45,47,49],[45,45,62,47,50]]
def zN(p:Str):Bool:=decide (p ∈ qcC)
theorem qsG(p:Str):cr qg qgR [S p]=some (B (zN p)):=by
 rw [qo qxP rfl]
 have h:=qqn true qcC p (by decide)
 have hd:decide (p ∈ qcC)=zN p:=rfl
 rw [hd]at h
 simp only [qcC,List.map_cons,List.map_nil]at h
 simp only [go_sem,qa,qb,qc,qd,qe,qf,reduceCtorEq,Kg,h]
theorem qBG(p:Str):cr qg qhg [S p]=some (B (zN p)):=by
 rw [qo qyS rfl]
 by_cases h0:p=[116,114,117,101,47,48]
 ·have hc:zN p=true:=by rw [h0];decide
  rw [hc]
  have d0:decide (p=[116,114,117,101,47,48])=true:=decide_eq_true h0
  clear hc h0
  simp only [go_sem,qa,qb,qc,qd,qe,qf,reduceCtorEq,zK,d0]
 have d0:decide (p=[116,114,117,101,47,48])=false:=decide_eq_false h0
 by_cases h1:p=[102,97,105,108,47,48]
 ·have hc:zN p=true:=by rw [h1];decide
  rw [hc]
  have d1:decide (p=[102,97,105,108,47,48])=true:=decide_eq_true h1
  clear hc h1
  simp only [go_sem,qa,qb,qc,qd,qe,qf,reduceCtorEq,zK,d0,d1]
 have d1:decide (p=[102,97,105,108,47,48])=false:=decide_eq_false h1
 by_cases h2:p=[33,47,48]
 ·have hc:zN p=true:=by rw [h2];decide
  rw [hc]
  have d2:decide (p=[33,47,48])=true:=decide_eq_true h2
  clear hc h2
  simp only [go_sem,qa,qb,qc,qd,qe,qf,reduceCtorEq,zK,d0,d1,d2]
 have d2:decide (p=[33,47,48])=false:=decide_eq_false h2
 by_cases h3:p=[44,47,50]
 ·have hc:zN p=true:=by rw [h3];decide
  rw [hc]
  have d3:decide (p=[44,47,50])=true:=decide_eq_true h3
  clear hc h3
  simp only [go_sem,qa,qb,qc,qd,qe,qf,reduceCtorEq,zK,d0,d1,d2,d3]
 have d3:decide (p=[44,47,50])=false:=decide_eq_false h3
 by_cases h4:p=[59,47,50]
 ·have hc:zN p=true:=by rw [h4];decide
  rw [hc]
  have d4:decide (p=[59,47,50])=true:=decide_eq_true h4
  clear hc h4
  simp only [go_sem,qa,qb,qc,qd,qe,qf,reduceCtorEq,zK,d0,d1,d2,d3,d4]
 have d4:decide (p=[59,47,50])=false:=decide_eq_false h4
 by_cases h5:p=[45,62,47,50]
 ·have hc:zN p=true:=by rw [h5];decide
  rw [hc]
  have d5:decide (p=[45,62,47,50])=true:=decide_eq_true h5
  clear hc h5
  simp only [go_sem,qa,qb,qc,qd,qe,qf,reduceCtorEq,zK,d0,d1,d2,d3,d4,d5]
 have d5:decide (p=[45,62,47,50])=false:=decide_eq_false h5
 by_cases h6:p=[92,43,47,49]
 ·have hc:zN p=true:=by rw [h6];decide
  rw [hc]
  have d6:decide (p=[92,43,47,49])=true:=decide_eq_true h6
  clear hc h6
  simp only [go_sem,qa,qb,qc,qd,qe,qf,reduceCtorEq,zK,d0,d1,d2,d3,d4,d5,d6]
 have d6:decide (p=[92,43,47,49])=false:=decide_eq_false h6
 by_cases h7:p=[99,97,108,108,47,49]
 ·have hc:zN p=true:=by rw [h7];decide
  rw [hc]
  have d7:decide (p=[99,97,108,108,47,49])=true:=decide_eq_true h7
  clear hc h7
  simp only [go_sem,qa,qb,qc,qd,qe,qf,reduceCtorEq,zK,d0,d1,d2,d3,d4,d5,d6,d7]
 have d7:decide (p=[99,97,108,108,47,49])=false:=decide_eq_false h7
 by_cases h8:p=[99,97,108,108,47,50]
 ·have hc:zN p=true:=by rw [h8];decide
  rw [hc]
  have d8:decide (p=[99,97,108,108,47,50])=true:=decide_eq_true h8
  clear hc h8
  simp only [go_sem,qa,qb,qc,qd,qe,qf,reduceCtorEq,zK,d0,d1,d2,d3,d4,d5,d6,d7,d8]
 have d8:decide (p=[99,97,108,108,47,50])=false:=decide_eq_false h8
 by_cases h9:p=[99,97,108,108,47,51]
 ·have hc:zN p=true:=by rw [h9];decide
  rw [hc]
  have d9:decide (p=[99,97,108,108,47,51])=true:=decide_eq_true h9
  clear hc h9
  simp only [go_sem,qa,qb,qc,qd,qe,qf,reduceCtorEq,zK,d0,d1,d2,d3,d4,d5,d6,d7,d8,d9]
 have d9:decide (p=[99,97,108,108,47,51])=false:=decide_eq_false h9
 by_cases h10:p=[99,97,116,99,104,47,51]
 ·have hc:zN p=true:=by rw [h10];decide
  rw [hc]
  have d10:decide (p=[99,97,116,99,104,47,51])=true:=decide_eq_true h10
  clear hc h10
  simp only [go_sem,qa,qb,qc,qd,qe,qf,reduceCtorEq,zK,d0,d1,d2,d3,d4,d5,d6,d7,d8,d9,d10]
 have d10:decide (p=[99,97,116,99,104,47,51])=false:=decide_eq_false h10
 by_cases h11:p=[116,104,114,111,119,47,49]
 ·have hc:zN p=true:=by rw [h11];decide
  rw [hc]
  have d11:decide (p=[116,104,114,111,119,47,49])=true:=decide_eq_true h11
  clear hc h11
  simp only [go_sem,qa,qb,qc,qd,qe,qf,reduceCtorEq,zK,d0,d1,d2,d3,d4,d5,d6,d7,d8,d9,d10,d11]
 have d11:decide (p=[116,104,114,111,119,47,49])=false:=decide_eq_false h11
 by_cases h12:p=[61,47,50]
 ·have hc:zN p=true:=by rw [h12];decide
  rw [hc]
  have d12:decide (p=[61,47,50])=true:=decide_eq_true h12
  clear hc h12
  simp only [go_sem,qa,qb,qc,qd,qe,qf,reduceCtorEq,zK,d0,d1,d2,d3,d4,d5,d6,d7,d8,d9,d10,d11,d12]
 have d12:decide (p=[61,47,50])=false:=decide_eq_false h12
 by_cases h13:p=[92,61,47,50]
 ·have hc:zN p=true:=by rw [h13];decide
  rw [hc]
  have d13:decide (p=[92,61,47,50])=true:=decide_eq_true h13
  clear hc h13
  simp only [go_sem,qa,qb,qc,qd,qe,qf,reduceCtorEq,zK,d0,d1,d2,d3,d4,d5,d6,d7,d8,d9,d10,d11,d12,d13]
 have d13:decide (p=[92,61,47,50])=false:=decide_eq_false h13
 by_cases h14:p=[61,61,47,50]
 ·have hc:zN p=true:=by rw [h14];decide
  rw [hc]
  have d14:decide (p=[61,61,47,50])=true:=decide_eq_true h14
  clear hc h14
  simp only [go_sem,qa,qb,qc,qd,qe,qf,reduceCtorEq,zK,d0,d1,d2,d3,d4,d5,d6,d7,d8,d9,d10,d11,d12,d13,d14]
 have d14:decide (p=[61,61,47,50])=false:=decide_eq_false h14
 by_cases h15:p=[105,115,47,50]
 ·have hc:zN p=true:=by rw [h15];decide
  rw [hc]
  have d15:decide (p=[105,115,47,50])=true:=decide_eq_true h15
  clear hc h15
  simp only [go_sem,qa,qb,qc,qd,qe,qf,reduceCtorEq,zK,d0,d1,d2,d3,d4,d5,d6,d7,d8,d9,d10,d11,d12,d13,d14,d15]
 have d15:decide (p=[105,115,47,50])=false:=decide_eq_false h15
 by_cases h16:p=[60,47,50]
 ·have hc:zN p=true:=by rw [h16];decide
  rw [hc]
  have d16:decide (p=[60,47,50])=true:=decide_eq_true h16
  clear hc h16
  simp only [go_sem,qa,qb,qc,qd,qe,qf,reduceCtorEq,zK,d0,d1,d2,d3,d4,d5,d6,d7,d8,d9,d10,d11,d12,d13,d14,d15,d16]
 have d16:decide (p=[60,47,50])=false:=decide_eq_false h16
 by_cases h17:p=[61,58,61,47,50]
 ·have hc:zN p=true:=by rw [h17];decide
  rw [hc]
  have d17:decide (p=[61,58,61,47,50])=true:=decide_eq_true h17
  clear hc h17
  simp only [go_sem,qa,qb,qc,qd,qe,qf,reduceCtorEq,zK,d0,d1,d2,d3,d4,d5,d6,d7,d8,d9,d10,d11,d12,d13,d14,d15,d16,d17]
 have d17:decide (p=[61,58,61,47,50])=false:=decide_eq_false h17
 by_cases h18:p=[118,97,114,47,49]
 ·have hc:zN p=true:=by rw [h18];decide
  rw [hc]
  have d18:decide (p=[118,97,114,47,49])=true:=decide_eq_true h18
  clear hc h18
  simp only [go_sem,qa,qb,qc,qd,qe,qf,reduceCtorEq,zK,d0,d1,d2,d3,d4,d5,d6,d7,d8,d9,d10,d11,d12,d13,d14,d15,d16,d17,d18]
 have d18:decide (p=[118,97,114,47,49])=false:=decide_eq_false h18
 by_cases h19:p=[97,116,111,109,47,49]
 ·have hc:zN p=true:=by rw [h19];decide
  rw [hc]
  have d19:decide (p=[97,116,111,109,47,49])=true:=decide_eq_true h19
  clear hc h19
  simp only [go_sem,qa,qb,qc,qd,qe,qf,reduceCtorEq,zK,d0,d1,d2,d3,d4,d5,d6,d7,d8,d9,d10,d11,d12,d13,d14,d15,d16,d17,d18,d19]
 have d19:decide (p=[97,116,111,109,47,49])=false:=decide_eq_false h19
 by_cases h20:p=[119,114,105,116,101,47,49]
 ·have hc:zN p=true:=by rw [h20];decide
  rw [hc]
  have d20:decide (p=[119,114,105,116,101,47,49])=true:=decide_eq_true h20
  clear hc h20
  simp only [go_sem,qa,qb,qc,qd,qe,qf,reduceCtorEq,zK,d0,d1,d2,d3,d4,d5,d6,d7,d8,d9,d10,d11,d12,d13,d14,d15,d16,d17,d18,d19,d20]
 have d20:decide (p=[119,114,105,116,101,47,49])=false:=decide_eq_false h20
 by_cases h21:p=[97,115,115,101,114,116,122,47,49]
 ·have hc:zN p=true:=by rw [h21];decide
  rw [hc]
  have d21:decide (p=[97,115,115,101,114,116,122,47,49])=true:=decide_eq_true h21
  clear hc h21
  simp only [go_sem,qa,qb,qc,qd,qe,qf,reduceCtorEq,zK,d0,d1,d2,d3,d4,d5,d6,d7,d8,d9,d10,d11,d12,d13,d14,d15,d16,d17,d18,d19,d20,d21]
 have d21:decide (p=[97,115,115,101,114,116,122,47,49])=false:=decide_eq_false h21
 by_cases h22:p=[114,101,116,114,97,99,116,47,49]
 ·have hc:zN p=true:=by rw [h22];decide
  rw [hc]
  have d22:decide (p=[114,101,116,114,97,99,116,47,49])=true:=decide_eq_true h22
  clear hc h22
  simp only [go_sem,qa,qb,qc,qd,qe,qf,reduceCtorEq,zK,d0,d1,d2,d3,d4,d5,d6,d7,d8,d9,d10,d11,d12,d13,d14,d15,d16,d17,d18,d19,d20,d21,d22]
 have d22:decide (p=[114,101,116,114,97,99,116,47,49])=false:=decide_eq_false h22
 by_cases h23:p=[58,45,47,50]
 ·have hc:zN p=true:=by rw [h23];decide
  rw [hc]
  have d23:decide (p=[58,45,47,50])=true:=decide_eq_true h23
  clear hc h23
  simp only [go_sem,qa,qb,qc,qd,qe,qf,reduceCtorEq,zK,d0,d1,d2,d3,d4,d5,d6,d7,d8,d9,d10,d11,d12,d13,d14,d15,d16,d17,d18,d19,d20,d21,d22,d23]
 have d23:decide (p=[58,45,47,50])=false:=decide_eq_false h23
 by_cases h24:p=[58,45,47,49]
 ·have hc:zN p=true:=by rw [h24];decide
  rw [hc]
  have d24:decide (p=[58,45,47,49])=true:=decide_eq_true h24
  clear hc h24
  simp only [go_sem,qa,qb,qc,qd,qe,qf,reduceCtorEq,zK,d0,d1,d2,d3,d4,d5,d6,d7,d8,d9,d10,d11,d12,d13,d14,d15,d16,d17,d18,d19,d20,d21,d22,d23,d24]
 have d24:decide (p=[58,45,47,49])=false:=decide_eq_false h24
 by_cases h25:p=[45,45,62,47,50]
 ·have hc:zN p=true:=by rw [h25];decide
  rw [hc]
  have d25:decide (p=[45,45,62,47,50])=true:=decide_eq_true h25
  clear hc h25
  simp only [go_sem,qa,qb,qc,qd,qe,qf,reduceCtorEq,zK,d0,d1,d2,d3,d4,d5,d6,d7,d8,d9,d10,d11,d12,d13,d14,d15,d16,d17,d18,d19,d20,d21,d22,d23,d24,d25]
 have d25:decide (p=[45,45,62,47,50])=false:=decide_eq_false h25
 have hc:zN p=false:=decide_eq_false (by simp only [qcC,List.mem_cons,List.not_mem_nil,or_false,h0,h1,h2,h3,h4,h5,h6,h7,h8,h9,h10,h11,h12,h13,h14,h15,h16,h17,h18,h19,h20,h21,h22,h23,h24,h25,or_self,not_false_eq_true])
 rw [hc]
 simp only [go_sem,qa,qb,qc,qd,qe,qf,reduceCtorEq,zK,d0,d1,d2,d3,d4,d5,d6,d7,d8,d9,d10,d11,d12,d13,d14,d15,d16,d17,d18,d19,d20,d21,d22,d23,d24,d25]
theorem qr1: ∀ (k m:Nat),m < 10^(k+1)→(decDigits m).length≤k+1:=by
 intro k
 induction k with
 |zero=>intro m hm;rw [decDigits,dif_pos (by omega)];simp
 |succ k ih=>
  intro m hm
  rw [decDigits]
  split
  ·simp
  ·rw [List.length_append]
   have:=ih (m / 10) (by rw [Nat.pow_succ]at hm;omega)
   simp only [List.length_cons,List.length_nil];omega
theorem qcN(n:Int) (h0: -9223372036854775808≤n) (h1:n≤9223372036854775807):(itoa n).length≤20:=by
 unfold itoa
 have:=qr1 18 n.natAbs (by omega)
 split
 ·simp only [List.length_cons];omega
 ·rw [show n.toNat=n.natAbs by omega];omega
def Zc(t:Tm):Str:=if t.kind=2∨t.kind=4 then t.name++[47]++itoa t.kids.length else []
theorem qBI(t:Tm) (hw:WT t) (v:V) (hb:BT t v):cr qg qhj [v]=some (S (Zc t)):=by
 obtain ⟨τ,vs,rfl,hv⟩:=qR hb
 have hl:=qS hv
 have hlen:=km hw
 have hnm:=XB hw
 unfold Lm at hlen hnm
 have hd:=qBH t.kids.length (by omega) (by omega)
 have e7:qD .add (S t.name) (S [47])=_:=zl (by simp only [List.length_cons,List.length_nil];omega)
 have e8:qD .add (S (t.name++[47])) (S (itoa t.kids.length))=_:=zl (by have:=qcN t.kids.length (by omega) (by omega);simp only [List.length_append,List.length_cons,List.length_nil];omega)
 rw [qo qyY rfl]
 unfold Zc
 by_cases k2:t.kind=2
 ·have d2:decide (t.kind=2)=true:=decide_eq_true k2
  rw [if_pos (.inl k2)]
  simp only [go_sem,qa,qb,qc,qd,qe,qf,reduceCtorEq,Yd,d2,hl,hd,e7,e8]
 have d2:decide (t.kind=2)=false:=decide_eq_false k2
 by_cases k4:t.kind=4
 ·have d4:decide (t.kind=4)=true:=decide_eq_true k4
  rw [if_pos (.inr k4)]
  simp only [go_sem,qa,qb,qc,qd,qe,qf,reduceCtorEq,Yd,d2,d4,hl,hd,e7,e8]
 have d4:decide (t.kind=4)=false:=decide_eq_false k4
 rw [if_neg (by rintro (h|h)<;>contradiction)]
 simp only [go_sem,qa,qb,qc,qd,qe,qf,reduceCtorEq,Yd,d2,d4]
theorem qsJ(t:Tm) (hw:WT t) (v:V) (hb:BT t v):cr qg qee [v]=some (S (Zc t)):=by
 obtain ⟨τ,vs,rfl,hv⟩:=qR hb
 have hl:=qS hv
 have hlen:=km hw
 have hnm:=XB hw
 unfold Lm at hlen hnm
 have hd:=qiB t.kids.length (by omega) (by omega)
 have e7:qD .add (S t.name) (S [47])=_:=zl (by simp only [List.length_cons,List.length_nil];omega)
 have e8:qD .add (S (t.name++[47])) (S (itoa t.kids.length))=_:=zl (by have:=qcN t.kids.length (by omega) (by omega);simp only [List.length_append,List.length_cons,List.length_nil];omega)
 rw [qo qxU rfl]
 unfold Zc
 by_cases k2:t.kind=2
 ·have d2:decide (t.kind=2)=true:=decide_eq_true k2
  rw [if_pos (.inl k2)]
  simp only [go_sem,qa,qb,qc,qd,qe,qf,reduceCtorEq,Z5,d2,hl,hd,e7,e8]
 have d2:decide (t.kind=2)=false:=decide_eq_false k2
 by_cases k4:t.kind=4
 ·have d4:decide (t.kind=4)=true:=decide_eq_true k4
  rw [if_pos (.inr k4)]
  simp only [go_sem,qa,qb,qc,qd,qe,qf,reduceCtorEq,Z5,d2,d4,hl,hd,e7,e8]
 have d4:decide (t.kind=4)=false:=decide_eq_false k4
 rw [if_neg (by rintro (h|h)<;>contradiction)]
 simp only [go_sem,qa,qb,qc,qd,qe,qf,reduceCtorEq,Z5,d2,d4]
end Go.Vm
namespace Go.Vm
open Go.Lib (itoa decDigits indexByte)
def kE:Str:=[43,45,42,47,92,94,60,62,61,126,58,46,63,64,35,38,36]
def zi(c:UInt8):Bool:=decide (c ∈ kE)
theorem JS {c d:UInt8}:((c.toNat:Int)=d.toNat)=(c=d):=by
 apply propext
 constructor
 ·intro h
  have:c.toNat=d.toNat:=by omega
  exact UInt8.toNat_inj.1 this
 ·rintro rfl;rfl
theorem qq6(c:UInt8):
 lw qg JA ⟨[(0,U8 c.toNat),(3,S kE),(4,I (0:Nat))],[]⟩=if c ∈ kE then some (.ret,⟨[(2,B true)],[]⟩)else some (.exit 0,⟨[],[]⟩):=by
 refine ZN kE (fun i r=>lw qg JA ⟨[(0,U8 c.toNat),(3,S kE),(4,I i)],[]⟩=if c ∈ r then some (.ret,⟨[(2,B true)],[]⟩)else some (.exit 0,⟨[],[]⟩)) (by decide) ?_ ?_
 ·rw [ql]
  simp only [go_sem,qa,qb,qc,qd,qe,qf,reduceCtorEq,qci,List.not_mem_nil]
 ·intro i t r ht hi hlt e1 hir hm hr ih
  have ix:=yw (l:=kE) (i:=(i:Int)) (c:=t) (by omega) (by simpa using ht)
  rw [ql]
  by_cases he:t=c
  ·have d:decide ((t.toNat:Int)=c.toNat)=true:=decide_eq_true (by rw [he])
   rw [if_pos (by rw [he];exact List.mem_cons_self)]
   simp only [go_sem,qa,qb,qc,qd,qe,qf,reduceCtorEq,qci,hlt,ix,e1,d]
  ·have d:decide ((t.toNat:Int)=c.toNat)=false:=decide_eq_false (by rw [JS];exact he)
   have hmm:(c ∈ t::r)=(c ∈ r):=by
    have: ¬ c=t:=fun h=>he h.symm
    simp only [List.mem_cons,this,false_or]
   simp only [hmm]
   simp only [go_sem,qa,qb,qc,qd,qe,qf,reduceCtorEq,qci,hlt,ix,e1,d]
   exact ih
theorem qj6(c:UInt8):cr qg qbo [U8 c.toNat]=some (B (zi c)):=by
 rw [qo qy3 rfl]
 have h:=qq6 c
 simp only [Int.natCast_zero]at h
 unfold zi
 by_cases hm:c ∈ kE
 ·rw [if_pos hm]at h
  rw [decide_eq_true hm]
  unfold kE at h
  simp only [go_sem,qa,qb,qc,qd,qe,qf,reduceCtorEq,Xb,h]
 ·rw [if_neg hm]at h
  rw [decide_eq_false hm]
  unfold kE at h
  simp only [go_sem,qa,qb,qc,qd,qe,qf,reduceCtorEq,Xb,h]
theorem qiH(l:Str) (c:UInt8):0≤indexByte l c↔c ∈ l:=by
 induction l with
 |nil=>simp [indexByte]
 |cons b l ih=>
  unfold indexByte
  by_cases h:b=c
  ·simp [h]
  ·have h1:(b==c)=false:=by simpa using h
   have h2: ¬ c=b:=fun e=>h e.symm
   have:=Go.Lib.indexByte_ge l c
   rw [h1]
   simp only [Bool.false_eq_true,if_false,List.mem_cons,h2,false_or]
   by_cases h3:indexByte l c= -1
   ·have h4: ¬ c ∈ l:=fun hm=>by have:=ih.2 hm;omega
    simp only [h3,beq_self_eq_true,if_true,h4,iff_false];omega
   ·have h5:(indexByte l c== -1)=false:=by simpa using h3
    rw [h5]
    simp only [Bool.false_eq_true,if_false]
    rw [← ih]
    omega
theorem qfE(l:Str) (c:UInt8):cr qg qby [S l,U8 c.toNat]=some (I (indexByte l c)):=by
 have h:=qrY qzP l c.toNat
 have:(c.toNat:Int).toNat.toUInt8=c:=by simp
 rw [this]at h
 exact h
theorem qiC(c:UInt8):cr qg Jn [U8 c.toNat]=some (B (zi c)):=by
 rw [qo qx0 rfl]
 have h:=qfE kE c
 have hd:decide (0≤indexByte kE c)=zi c:=decide_eq_decide.2 (qiH kE c)
 unfold kE at h hd
 simp only [go_sem,qa,qb,qc,qd,qe,qf,reduceCtorEq,Kl,h,hd]
end Go.Vm
namespace Go.Vm
def inB(lo hi:Int) (c:UInt8):Bool:=decide (lo≤(c.toNat:Int))&&decide ((c.toNat:Int)≤hi)
def isB(n:Int) (c:UInt8):Bool:=decide ((c.toNat:Int)=n)
def yK(c:UInt8):Bool:=inB 65 90 c||isB 95 c
def zM(c:UInt8):Bool:=inB 97 122 c||yK c||inB 48 57 c
def jo(c:UInt8):Bool:=isB 32 c||isB 9 c||isB 10 c
theorem qm4(c:UInt8):cr qg qeG [U8 c.toNat]=some (B (inB 97 122 c)):=by
 rw [qo qzr rfl]
 unfold inB
 by_cases h1:(97:Int)≤(c.toNat:Int)
 ·rw [decide_eq_true h1,Bool.true_and]
  by_cases h2:(c.toNat:Int)≤122
  ·rw [decide_eq_true h2];simp only [go_sem,qa,qb,qc,qd,qe,qf,reduceCtorEq,Yg,h1,h2]
  ·rw [decide_eq_false h2];simp only [go_sem,qa,qb,qc,qd,qe,qf,reduceCtorEq,Yg,h1,h2]
 ·rw [decide_eq_false h1,Bool.false_and];simp only [go_sem,qa,qb,qc,qd,qe,qf,reduceCtorEq,Yg,h1]
theorem qmM(c:UInt8):cr qg qbj [U8 c.toNat]=some (B (inB 97 122 c)):=by
 rw [qo qyl rfl]
 unfold inB
 by_cases h1:(97:Int)≤(c.toNat:Int)
 ·rw [decide_eq_true h1,Bool.true_and]
  by_cases h2:(c.toNat:Int)≤122
  ·rw [decide_eq_true h2];simp only [go_sem,qa,qb,qc,qd,qe,qf,reduceCtorEq,Z8,h1,h2]
  ·rw [decide_eq_false h2];simp only [go_sem,qa,qb,qc,qd,qe,qf,reduceCtorEq,Z8,h1,h2]
 ·rw [decide_eq_false h1,Bool.false_and];simp only [go_sem,qa,qb,qc,qd,qe,qf,reduceCtorEq,Z8,h1]
theorem qmN(c:UInt8):cr qg qet [U8 c.toNat]=some (B (inB 65 90 c)):=by
 rw [qo qyw rfl]
 unfold inB
 by_cases h1:(65:Int)≤(c.toNat:Int)
 ·rw [decide_eq_true h1,Bool.true_and]
  by_cases h2:(c.toNat:Int)≤90
  ·rw [decide_eq_true h2];simp only [go_sem,qa,qb,qc,qd,qe,qf,reduceCtorEq,Z9,h1,h2]
  ·rw [decide_eq_false h2];simp only [go_sem,qa,qb,qc,qd,qe,qf,reduceCtorEq,Z9,h1,h2]
 ·rw [decide_eq_false h1,Bool.false_and];simp only [go_sem,qa,qb,qc,qd,qe,qf,reduceCtorEq,Z9,h1]
theorem qiM(c:UInt8):cr qg qbv [U8 c.toNat]=some (B (inB 48 57 c)):=by
 rw [qo qzm rfl]
 unfold inB
 by_cases h1:(48:Int)≤(c.toNat:Int)
 ·rw [decide_eq_true h1,Bool.true_and]
  by_cases h2:(c.toNat:Int)≤57
  ·rw [decide_eq_true h2];simp only [go_sem,qa,qb,qc,qd,qe,qf,reduceCtorEq,Ye,h1,h2]
  ·rw [decide_eq_false h2];simp only [go_sem,qa,qb,qc,qd,qe,qf,reduceCtorEq,Ye,h1,h2]
 ·rw [decide_eq_false h1,Bool.false_and];simp only [go_sem,qa,qb,qc,qd,qe,qf,reduceCtorEq,Ye,h1]
theorem qiE(c:UInt8):cr qg Jp [U8 c.toNat]=some (B (inB 48 57 c)):=by
 rw [qo qye rfl]
 unfold inB
 by_cases h1:(48:Int)≤(c.toNat:Int)
 ·rw [decide_eq_true h1,Bool.true_and]
  by_cases h2:(c.toNat:Int)≤57
  ·rw [decide_eq_true h2];simp only [go_sem,qa,qb,qc,qd,qe,qf,reduceCtorEq,Z7,h1,h2]
  ·rw [decide_eq_false h2];simp only [go_sem,qa,qb,qc,qd,qe,qf,reduceCtorEq,Z7,h1,h2]
 ·rw [decide_eq_false h1,Bool.false_and];simp only [go_sem,qa,qb,qc,qd,qe,qf,reduceCtorEq,Z7,h1]
theorem qm3(c:UInt8):cr qg qbw [U8 c.toNat]=some (B (yK c)):=by
 rw [qo qzn rfl]
 unfold yK inB isB
 cases h3:decide ((c.toNat:Int)=95)<;>
 by_cases h1:(65:Int)≤(c.toNat:Int)<;>by_cases h2:(c.toNat:Int)≤90<;>
 simp only [decide_eq_true_eq,h1,h2,decide_true,decide_false,Bool.true_and,Bool.false_and,Bool.and_true,Bool.and_false,Bool.or_true,Bool.or_false]<;>
 simp only [go_sem,qa,qb,qc,qd,qe,qf,reduceCtorEq,K2,h1,h2,h3]
theorem qiL(c:UInt8):cr qg qeF [U8 c.toNat]=some (B (jo c)):=by
 rw [qo qzk rfl]
 unfold jo isB
 cases h1:decide ((c.toNat:Int)=32)<;>cases h2:decide ((c.toNat:Int)=9)<;>cases h3:decide ((c.toNat:Int)=10)<;>
 simp only [Bool.or_true,Bool.or_false]<;>simp only [go_sem,qa,qb,qc,qd,qe,qf,reduceCtorEq,K1,h1,h2,h3]
theorem qwH(c:UInt8):cr qg qhs [U8 c.toNat]=some (B (zM c)):=by
 rw [qo qzs rfl]
 have e1:=qm4 c
 have e2:=qm3 c
 have e3:=qiM c
 unfold zM
 cases h1:inB 97 122 c<;>cases h2:yK c<;>rw [h1]at e1<;>rw [h2]at e2<;>
 simp only [Bool.or_true,Bool.or_false,Bool.true_or,Bool.false_or]<;>simp only [go_sem,qa,qb,qc,qd,qe,qf,reduceCtorEq,K4,e1,e2,e3]
theorem qsZ(c:UInt8):cr qg qeu [U8 c.toNat]=some (B (zM c)):=by
 rw [qo qyz rfl]
 have e1:=qmM c
 have e2:=qmN c
 have e3:=qiE c
 unfold zM yK isB
 cases h1:inB 97 122 c<;>cases h2:inB 65 90 c<;>cases h3:inB 48 57 c<;>cases h4:decide ((c.toNat:Int)=95)<;>rw [h1]at e1<;>rw [h2]at e2<;>rw [h3]at e3<;>
 simp only [Bool.or_true,Bool.or_false,Bool.true_or,Bool.false_or]<;>simp only [go_sem,qa,qb,qc,qd,qe,qf,reduceCtorEq,KD,e1,e2,e3,h4]
end Go.Vm
namespace Go.Vm
def pre(p:UInt8→Bool):Str→Nat
 |[]=>0
 |c::r=>if p c=true then pre p r+1 else 0
theorem qob(p:UInt8→Bool): ∀ s,pre p s≤s.length
 |[]=>Nat.le_refl _
 |c::r=>by have:=qob p r;simp only [pre,List.length_cons];split<;>omega
theorem qwE(s:Str) (hl:s.length≤2^61) (m:Nat): ∀ i,i+m=s.length→
 lw qg qbZ ⟨[(0,S s),(1,I i)],[]⟩=some (.exit 0,⟨[(1,I ((i+pre zM (s.drop i):Nat):Int))],[]⟩):=by
 induction m with
 |zero=>
  intro i hi
  rw [List.drop_eq_nil_of_le (by omega),ql]
  have h: ¬ (i:Int) < s.length:=by omega
  simp only [go_sem,qa,qb,qc,qd,qe,qf,reduceCtorEq,qcn,h,pre]
 |succ m ih=>
  intro i hi
  have h:(i:Int) < s.length:=by omega
  obtain ⟨c,hc⟩:=qV (l:=s) (i:=i) (by omega)
  have ix:=yw (l:=s) (i:=(i:Int)) (c:=c) (by omega) (by simpa using hc)
  have w:=qwH c
  have e1:w64 ((i:Int)+1)=((i+1:Nat):Int):=by rw [qm]<;>omega
  rw [zP hc,ql,pre]
  cases hw:zM c with
  |true=>
   rw [hw]at w
   have i1:=ih (i+1) (by omega)
   rw [if_pos rfl,show i+(pre zM (s.drop (i+1))+1)=i+1+pre zM (s.drop (i+1))by omega]
   simp only [go_sem,qa,qb,qc,qd,qe,qf,reduceCtorEq,qcn,h,ix,w,e1]
   exact i1
  |false=>
   rw [hw]at w
   rw [if_neg (by decide)]
   simp only [go_sem,qa,qb,qc,qd,qe,qf,reduceCtorEq,qcn,h,ix,w,e1]
theorem qwF(s:Str) (hl:s.length≤2^61) (i:Nat) (hi:i≤s.length):cr qg qhq [S s,I i]=some (I ((i+pre zM (s.drop i):Nat):Int)):=by
 rw [qo qzp rfl]
 have h:=qwE s hl (s.length - i) i (by omega)
 simp only [go_sem,qa,qb,qc,qd,qe,qf,reduceCtorEq,K3,h]
theorem qAJ(p:UInt8→Bool) (g:Nat) (hg: ∀ c,cr qg g [U8 c.toNat]=some (B (p c))) (s:Str) (hl:s.length≤2^61) (m:Nat): ∀ i,i+m=s.length→
 lw qg qbJ ⟨[(0,S s),(1,I i),(2,Fc g)],[]⟩=some (.exit 0,⟨[(1,I ((i+pre p (s.drop i):Nat):Int))],[]⟩):=by
 induction m with
 |zero=>
  intro i hi
  rw [List.drop_eq_nil_of_le (by omega),ql]
  have h: ¬ (i:Int) < s.length:=by omega
  simp only [go_sem,qa,qb,qc,qd,qe,qf,reduceCtorEq,qca,h,pre]
 |succ m ih=>
  intro i hi
  have h:(i:Int) < s.length:=by omega
  obtain ⟨c,hc⟩:=qV (l:=s) (i:=i) (by omega)
  have ix:=yw (l:=s) (i:=(i:Int)) (c:=c) (by omega) (by simpa using hc)
  have w:=hg c
  have e1:w64 ((i:Int)+1)=((i+1:Nat):Int):=by rw [qm]<;>omega
  rw [zP hc,ql,pre]
  cases hw:p c with
  |true=>
   rw [hw]at w
   have i1:=ih (i+1) (by omega)
   rw [if_pos rfl,show i+(pre p (s.drop (i+1))+1)=i+1+pre p (s.drop (i+1))by omega]
   simp only [go_sem,qa,qb,qc,qd,qe,qf,reduceCtorEq,qca,h,ix,w,e1]
   exact i1
  |false=>
   rw [hw]at w
   rw [if_neg (by decide)]
   simp only [go_sem,qa,qb,qc,qd,qe,qf,reduceCtorEq,qca,h,ix,w,e1]
theorem qde(p:UInt8→Bool) (g:Nat) (hg: ∀ c,cr qg g [U8 c.toNat]=some (B (p c))) (s:Str) (hl:s.length≤2^61) (i:Nat) (hi:i≤s.length):cr qg Xp [S s,I i,Fc g]=some (I ((i+pre p (s.drop i):Nat):Int)):=by
 rw [qo qys rfl]
 have h:=qAJ p g hg s hl (s.length - i) i (by omega)
 simp only [go_sem,qa,qb,qc,qd,qe,qf,reduceCtorEq,Kz,h]
end Go.Vm
namespace Go.Vm
open Go.Lib (indexByte)
def qc0(s:Str) (i:Nat):Bool:=match i with
 |0=>true
 |j+1=> !zi (s.getD j 0)
def ZU:Option UInt8→Bool
 |none=>true
 |some d=>jo d||isB 37 d
def Qq(s:Str) (i:Nat) (c:UInt8):Bool:=isB 46 c&&(qc0 s i&&ZU s[i+1]?)
theorem qlw(d:UInt8):decide (0≤indexByte [32,9,10,37] d)=(jo d||isB 37 d):=by
 have h:=qiH [32,9,10,37] d
 have e1:=JS (c:=d) (d:=32)
 have e2:=JS (c:=d) (d:=9)
 have e3:=JS (c:=d) (d:=10)
 have e4:=JS (c:=d) (d:=37)
 have f1:((32:UInt8).toNat:Int)=32:=rfl
 have f2:((9:UInt8).toNat:Int)=9:=rfl
 have f3:((10:UInt8).toNat:Int)=10:=rfl
 have f4:((37:UInt8).toNat:Int)=37:=rfl
 rw [f1]at e1;rw [f2]at e2;rw [f3]at e3;rw [f4]at e4
 unfold jo isB
 rw [Bool.eq_iff_iff]
 simp only [decide_eq_true_eq,h,Bool.or_eq_true,e1,e2,e3,e4,List.mem_cons,List.not_mem_nil,or_false,or_assoc]
theorem qwB(s:Str) (hl:s.length≤2^61) (i:Nat) (c:UInt8) (hc:s[i]? =some c):cr qg qho [S s,I i]=some (B (Qq s i c)):=by
 have hi:i < s.length:=(List.getElem?_eq_some_iff.1 hc).1
 have ix:=yw (l:=s) (i:=(i:Int)) (c:=c) (by omega) (by simpa using hc)
 have e1:w64 ((i:Int)+1)=((i+1:Nat):Int):=by rw [qm]<;>omega
 rw [qo qzl rfl]
 unfold Qq
 cases h46:isB 46 c with
 |false=>
  unfold isB at h46
  simp only [go_sem,qa,qb,qc,qd,qe,qf,reduceCtorEq,je,ix,h46,Bool.false_and]
 |true=>
 unfold isB at h46
 have hnext: ∀ (b:Bool),True:=fun _=>trivial
 cases i with
 |zero=>
  rw [qc0,Bool.true_and,Bool.true_and]
  have z:w64 ((0:Int)+1)=1:=rfl
  by_cases hn:s.length=1
  ·have d:decide ((1:Int)=s.length)=true:=decide_eq_true (by omega)
   have:s[0+1]? =none:=List.getElem?_eq_none (by omega)
   rw [this,ZU]
   simp only [Int.natCast_zero]at ix
   simp only [go_sem,qa,qb,qc,qd,qe,qf,reduceCtorEq,je,ix,h46,z,d]
  ·have d:decide ((1:Int)=s.length)=false:=decide_eq_false (by omega)
   obtain ⟨n,hnx⟩:=qV (l:=s) (i:=0+1) (by omega)
   have ix2:=yw (l:=s) (i:=(1:Int)) (c:=n) (by omega) (by simpa using hnx)
   have bl:=qiL n
   rw [hnx,ZU]
   simp only [Int.natCast_zero]at ix
   unfold isB
   cases hb:jo n with
   |true=>rw [hb]at bl;simp only [go_sem,qa,qb,qc,qd,qe,qf,reduceCtorEq,je,ix,h46,z,d,ix2,bl,Bool.true_or]
   |false=>rw [hb]at bl;simp only [go_sem,qa,qb,qc,qd,qe,qf,reduceCtorEq,je,ix,h46,z,d,ix2,bl,Bool.false_or]
 |succ j=>
  obtain ⟨q,hq⟩:=qV (l:=s) (i:=j) (by omega)
  have ix0:=yw (l:=s) (i:=(j:Int)) (c:=q) (by omega) (by simpa using hq)
  have e0:w64 (((j+1:Nat):Int) - 1)=(j:Int):=by rw [qm]<;>omega
  have dz:decide (((j+1:Nat):Int)=0)=false:=decide_eq_false (by omega)
  have sy:=qj6 q
  have hg:s.getD j 0=q:=by rw [List.getD_eq_getElem?_getD,hq];rfl
  rw [qc0,hg]
  cases hs:zi q with
  |true=>rw [hs]at sy;simp only [go_sem,qa,qb,qc,qd,qe,qf,reduceCtorEq,je,ix,h46,dz,e0,ix0,sy,Bool.not_true,Bool.false_and,Bool.true_and]
  |false=>
  rw [hs]at sy
  rw [Bool.not_false,Bool.true_and,Bool.true_and]
  by_cases hn:s.length=j+1+1
  ·have d:decide (((j+1+1:Nat):Int)=s.length)=true:=decide_eq_true (by omega)
   have:s[j+1+1]? =none:=List.getElem?_eq_none (by omega)
   rw [this,ZU]
   simp only [go_sem,qa,qb,qc,qd,qe,qf,reduceCtorEq,je,ix,h46,dz,e0,ix0,sy,e1,d]
  ·have d:decide (((j+1+1:Nat):Int)=s.length)=false:=decide_eq_false (by omega)
   obtain ⟨n,hnx⟩:=qV (l:=s) (i:=j+1+1) (by omega)
   have ix2:=yw (l:=s) (i:=((j+1+1:Nat):Int)) (c:=n) (by omega) (by rw [Int.toNat_natCast];exact hnx)
   have bl:=qiL n
   rw [hnx,ZU]
   unfold isB
   cases hb:jo n with
   |true=>rw [hb]at bl;simp only [go_sem,qa,qb,qc,qd,qe,qf,reduceCtorEq,je,ix,h46,dz,e0,ix0,sy,e1,d,ix2,bl,Bool.true_or]
   |false=>rw [hb]at bl;simp only [go_sem,qa,qb,qc,qd,qe,qf,reduceCtorEq,je,ix,h46,dz,e0,ix0,sy,e1,d,ix2,bl,Bool.false_or]
end Go.Vm
namespace Go.Vm
open Go.Lib (indexByte)
theorem qsi(s:Str) (hl:s.length≤2^61) (i:Nat) (c:UInt8) (hc:s[i]? =some c):cr qg qgW [S s,I i]=some (B (Qq s i c)):=by
 have hi:i < s.length:=(List.getElem?_eq_some_iff.1 hc).1
 have ix:=yw (l:=s) (i:=(i:Int)) (c:=c) (by omega) (by simpa using hc)
 have e1:w64 ((i:Int)+1)=((i+1:Nat):Int):=by rw [qm]<;>omega
 rw [qo qyd rfl]
 unfold Qq
 cases h46:isB 46 c with
 |false=>
  unfold isB at h46
  simp only [go_sem,qa,qb,qc,qd,qe,qf,reduceCtorEq,j9,ix,h46,Bool.false_and]
 |true=>
 unfold isB at h46
 have hnext: ∀ (b:Bool),True:=fun _=>trivial
 cases i with
 |zero=>
  rw [qc0,Bool.true_and,Bool.true_and]
  have z:w64 ((0:Int)+1)=1:=rfl
  by_cases hn:s.length=1
  ·have d:decide ((1:Int)=s.length)=true:=decide_eq_true (by omega)
   have:s[0+1]? =none:=List.getElem?_eq_none (by omega)
   rw [this,ZU]
   simp only [Int.natCast_zero]at ix
   simp only [go_sem,qa,qb,qc,qd,qe,qf,reduceCtorEq,j9,ix,h46,z,d]
  ·have d:decide ((1:Int)=s.length)=false:=decide_eq_false (by omega)
   obtain ⟨n,hnx⟩:=qV (l:=s) (i:=0+1) (by omega)
   have ix2:=yw (l:=s) (i:=(1:Int)) (c:=n) (by omega) (by simpa using hnx)
   have bl:=qfE [32,9,10,37] n
   have bd:=qlw n
   rw [hnx,ZU]
   simp only [Int.natCast_zero]at ix
   rw [← bd]
   simp only [go_sem,qa,qb,qc,qd,qe,qf,reduceCtorEq,j9,ix,h46,z,d,ix2,bl]
 |succ j=>
  obtain ⟨q,hq⟩:=qV (l:=s) (i:=j) (by omega)
  have ix0:=yw (l:=s) (i:=(j:Int)) (c:=q) (by omega) (by simpa using hq)
  have e0:w64 (((j+1:Nat):Int) - 1)=(j:Int):=by rw [qm]<;>omega
  have dz:(0:Int) < ((j+1:Nat):Int):=by omega
  have sy:=qiC q
  have hg:s.getD j 0=q:=by rw [List.getD_eq_getElem?_getD,hq];rfl
  rw [qc0,hg]
  cases hs:zi q with
  |true=>rw [hs]at sy;simp only [go_sem,qa,qb,qc,qd,qe,qf,reduceCtorEq,j9,ix,h46,dz,e0,ix0,sy,Bool.not_true,Bool.false_and,Bool.true_and]
  |false=>
  rw [hs]at sy
  rw [Bool.not_false,Bool.true_and,Bool.true_and]
  by_cases hn:s.length=j+1+1
  ·have d:decide (((j+1+1:Nat):Int)=s.length)=true:=decide_eq_true (by omega)
   have:s[j+1+1]? =none:=List.getElem?_eq_none (by omega)
   rw [this,ZU]
   simp only [go_sem,qa,qb,qc,qd,qe,qf,reduceCtorEq,j9,ix,h46,dz,e0,ix0,sy,e1,d]
  ·have d:decide (((j+1+1:Nat):Int)=s.length)=false:=decide_eq_false (by omega)
   obtain ⟨n,hnx⟩:=qV (l:=s) (i:=j+1+1) (by omega)
   have ix2:=yw (l:=s) (i:=((j+1+1:Nat):Int)) (c:=n) (by omega) (by rw [Int.toNat_natCast];exact hnx)
   have bl:=qfE [32,9,10,37] n
   have bd:=qlw n
   rw [hnx,ZU]
   rw [← bd]
   simp only [go_sem,qa,qb,qc,qd,qe,qf,reduceCtorEq,j9,ix,h46,dz,e0,ix0,sy,e1,d,ix2,bl]
end Go.Vm
namespace Go.Vm
structure Sg where
 kind:Int
 text:Str
 num:Int
 at_:Int
 near:Bool
def Sg.v(x:Sg):V:= .a [I x.kind,S x.text,I x.num,I x.at_,B x.near]
def zD(s:Str) (i j:Nat):Str:=(s.take j).drop i
def bad(s:Str) (i:Nat):Sg × Nat:=(⟨6,zD s i (i+1),0,i,false⟩,i+1)
def nf:Str→Int→Int
 |[],a=>a
 |d::r,a=>if (inB 48 57 d&&decide (a≤999999999))=true then nf r (10*a+d.toNat - 48)else a
def nk:Str→Int→Nat
 |[],a=>0
 |d::r,a=>if (inB 48 57 d&&decide (a≤999999999))=true then nk r (10*a+d.toNat - 48)+1 else 0
theorem qnC: ∀ (s:Str) (a:Int),0≤a→nf s a≤999999999→nk s a=pre (inB 48 57) s
 |[],a,_,_=>rfl
 |d::r,a,h0,h=>by
  simp only [nf,nk,pre]at h ⊢
  by_cases ha:a≤999999999
  ·rw [decide_eq_true ha,Bool.and_true]at h ⊢
   by_cases hd:inB 48 57 d=true
   ·rw [if_pos hd]at h ⊢
    rw [if_pos hd]
    have h1:(48:Int)≤d.toNat:=by unfold inB at hd;simp only [Bool.and_eq_true,decide_eq_true_eq]at hd;exact hd.1
    rw [qnC r _ (by omega) h]
   ·rw [if_neg hd,if_neg hd]
  ·exfalso
   rw [decide_eq_false ha,Bool.and_false]at h
   simp only [Bool.false_eq_true,if_false]at h
   omega
theorem qnv: ∀ (s:Str) (a:Int),0≤a→a≤9999999999→0≤nf s a∧nf s a≤9999999999
 |[],a,h0,h1=>⟨h0,h1⟩
 |d::r,a,h0,h1=>by
  simp only [nf]
  split
  ·rename_i h
   simp only [inB,Bool.and_eq_true,decide_eq_true_eq]at h
   exact qnv r _ (by omega) (by omega)
  ·exact ⟨h0,h1⟩
def jy:Str→Option Nat
 |[]=>none
 |c::r=>if isB 39 c=true then some 0 else (jy r).map (· +1)
def Zd(r:Str):Option Nat:=match jy r with
 |some m=>if xf (r.take m)=true then some m else none
 |none=>none
def sgn(s:Str) (i:Nat) (c:UInt8):Sg × Nat:=
 if (inB 97 122 c||yK c)=true then
  if pre zM (s.drop i)≤20 then (⟨if yK c=true then 2 else 1,zD s i (i+pre zM (s.drop i)),0,i,false⟩,i+pre zM (s.drop i))else bad s i
 else if inB 48 57 c=true then
  if nf (s.drop i) 0≤999999999 then (⟨3,[],nf (s.drop i) 0,i,false⟩,i+pre (inB 48 57) (s.drop i))else bad s i
 else if isB 39 c=true then
  match Zd (s.drop (i+1))with
  |some m=>(⟨1,zD s (i+1) (i+1+m),0,i,false⟩,i+1+m+1)
  |none=>bad s i
 else if (isB 33 c||isB 59 c)=true then (⟨1,zD s i (i+1),0,i,false⟩,i+1)
 else if (isB 40 c||isB 41 c||isB 91 c||isB 93 c||isB 44 c||isB 124 c)=true then (⟨4,zD s i (i+1),0,i,false⟩,i+1)
 else if Qq s i c=true then (⟨5,zD s i (i+1),0,i,false⟩,i+1)
 else if zi c=true then
  if pre zi (s.drop i)≤20 then (⟨1,zD s i (i+pre zi (s.drop i)),0,i,false⟩,i+pre zi (s.drop i))else bad s i
 else bad s i
end Go.Vm
namespace Go.Vm
structure Op3 where
 prio:Int
 left:Int
 right:Int
def qP(s:Str):Op3:=
 if s=[58,45]∨s=[45,45,62]then ⟨1200,1199,1199⟩
 else if s=[59]then ⟨1100,1099,1100⟩
 else if s=[45,62]then ⟨1050,1049,1050⟩
 else if s=[44]then ⟨1000,999,1000⟩
 else if s=[61]∨s=[92,61]∨s=[61,61]∨s=[105,115]∨s=[60]∨s=[61,58,61]then ⟨700,699,699⟩
 else if s=[43]∨s=[45]then ⟨500,500,499⟩
 else if s=[42]∨s=[47,47]then ⟨400,400,399⟩
 else ⟨0,0,0⟩
def opV(s:Str):V:= .t [.a [S (if (qP s).prio=0 then []else s),I (qP s).prio,I (qP s).left,I (qP s).right],B (decide ((qP s).prio ≠ 0))]
set_option maxHeartbeats 2000000 in
theorem J4(s:Str):cr qg Jl [S s]=some (opV s):=by
 rw [qo qnS rfl]
 by_cases h1:s=[58,45]
 ·subst h1;simp (decide:=true) only [go_sem,qa,qb,qc,qd,qe,qf,reduceCtorEq,yO];rfl
 by_cases h2:s=[45,45,62]
 ·subst h2;simp (decide:=true) only [go_sem,qa,qb,qc,qd,qe,qf,reduceCtorEq,yO];rfl
 by_cases h3:s=[59]
 ·subst h3;simp (decide:=true) only [go_sem,qa,qb,qc,qd,qe,qf,reduceCtorEq,yO];rfl
 by_cases h4:s=[45,62]
 ·subst h4;simp (decide:=true) only [go_sem,qa,qb,qc,qd,qe,qf,reduceCtorEq,yO];rfl
 by_cases h5:s=[44]
 ·subst h5;simp (decide:=true) only [go_sem,qa,qb,qc,qd,qe,qf,reduceCtorEq,yO];rfl
 by_cases h6:s=[61]
 ·subst h6;simp (decide:=true) only [go_sem,qa,qb,qc,qd,qe,qf,reduceCtorEq,yO];rfl
 by_cases h7:s=[92,61]
 ·subst h7;simp (decide:=true) only [go_sem,qa,qb,qc,qd,qe,qf,reduceCtorEq,yO];rfl
 by_cases h8:s=[61,61]
 ·subst h8;simp (decide:=true) only [go_sem,qa,qb,qc,qd,qe,qf,reduceCtorEq,yO];rfl
 by_cases h9:s=[105,115]
 ·subst h9;simp (decide:=true) only [go_sem,qa,qb,qc,qd,qe,qf,reduceCtorEq,yO];rfl
 by_cases h10:s=[60]
 ·subst h10;simp (decide:=true) only [go_sem,qa,qb,qc,qd,qe,qf,reduceCtorEq,yO];rfl
 by_cases h11:s=[61,58,61]
 ·subst h11;simp (decide:=true) only [go_sem,qa,qb,qc,qd,qe,qf,reduceCtorEq,yO];rfl
 by_cases h12:s=[43]
 ·subst h12;simp (decide:=true) only [go_sem,qa,qb,qc,qd,qe,qf,reduceCtorEq,yO];rfl
 by_cases h13:s=[45]
 ·subst h13;simp (decide:=true) only [go_sem,qa,qb,qc,qd,qe,qf,reduceCtorEq,yO];rfl
 by_cases h14:s=[42]
 ·subst h14;simp (decide:=true) only [go_sem,qa,qb,qc,qd,qe,qf,reduceCtorEq,yO];rfl
 by_cases h15:s=[47,47]
 ·subst h15;simp (decide:=true) only [go_sem,qa,qb,qc,qd,qe,qf,reduceCtorEq,yO];rfl
 simp only [go_sem,qa,qb,qc,qd,qe,qf,reduceCtorEq,yO,h1,h2,h3,h4,h5,h6,h7,h8,h9,h10,h11,h12,h13,h14,h15]
 simp [opV,qP,h1,h2,h3,h4,h5,h6,h7,h8,h9,h10,h11,h12,h13,h14,h15]
theorem YO(s:Str):cr qg Yo [S s]=some (opV s):=by
 rw [← J4,qo qyW rfl,qo qnS rfl];rfl
def xy(t:Tm):Int:=if t.kind=4∧t.kids.length=2 then (qP t.name).prio else 0
theorem qsS(t:Tm) (v:V) (h:BT t v):cr qg qel [v]=some (B (decide (xy t ≠ 0))):=by
 obtain ⟨τ,vs,rfl,hv⟩:=qR h
 rw [qo qyh rfl]
 unfold xy
 by_cases h1:t.kind=4
 ·by_cases h2:(t.kids.length:Int)=2
  ·have h2':t.kids.length=2:=by omega
   rw [if_pos ⟨h1,h2'⟩]
   by_cases h3:(qP t.name).prio=0
   ·simp only [go_sem,qa,qb,qc,qd,qe,qf,reduceCtorEq,Zp,qS hv,h1,h2,J4,opV,h3]
   ·simp only [go_sem,qa,qb,qc,qd,qe,qf,reduceCtorEq,Zp,qS hv,h1,h2,J4,opV,h3]
  ·have h2': ¬ t.kids.length=2:=by omega
   rw [if_neg (fun h=>h2' h.2)]
   by_cases h3:(qP t.name).prio=0<;>simp only [go_sem,qa,qb,qc,qd,qe,qf,reduceCtorEq,Zp,qS hv,h1,h2,J4,opV,h3]
 ·rw [if_neg (fun h=>h1 h.1)]
  by_cases h3:(qP t.name).prio=0<;>simp only [go_sem,qa,qb,qc,qd,qe,qf,reduceCtorEq,Zp,h1,J4,opV,h3]
end Go.Vm
namespace Go.Vm
open Go.Lib (itoa join)
def Sg.near'(x:Sg) (b:Bool):Sg:={x with near:=b}
def sgs(s:Str):Nat→Nat→List Sg
 |0,_=>[]
 |n+1,i=>match s[i]? with
  |none=>[]
  |some c=>
   if jo c=true then sgs s n (i+1)
   else if isB 37 c=true then sgs s n (i+pre (fun d=> !isB 10 d) (s.drop i))
   else (sgn s i c).1.near' (decide (s[(sgn s i c).2]? =some 40))::sgs s n (sgn s i c).2
def xB(s:Str):List Sg:=sgs s s.length 0
theorem jU {p:UInt8→Bool} {s:Str} {i:Nat} (h:i≤s.length):i+pre p (s.drop i)≤s.length:=by
 have:=qob p (s.drop i)
 rw [List.length_drop]at this
 omega
theorem qah {p:UInt8→Bool} {s:Str} {i:Nat} {c:UInt8} (hc:s[i]? =some c) (h:p c=true):1≤pre p (s.drop i):=by
 rw [zP hc,pre,if_pos h];omega
theorem qjp: ∀ {r:Str} {m:Nat},jy r=some m→m < r.length
 |[],m,h=>by cases h
 |c::r,m,h=>by
  simp only [jy]at h
  split at h
  ·cases h;simp
  ·rw [Option.map_eq_some_iff]at h
   obtain ⟨k,hk,rfl⟩:=h
   have:=qjp hk
   simp only [List.length_cons];omega
theorem qoj {r:Str} {m:Nat} (h:Zd r=some m):m < r.length∧xf (r.take m)=true:=by
 unfold Zd at h
 split at h
 ·rename_i k hk
  split at h
  ·rename_i h2;cases h;exact ⟨qjp hk,h2⟩
  ·cases h
 ·cases h
theorem qjU(s:Str) (i:Nat) (c:UInt8) (hc:s[i]? =some c):i < (sgn s i c).2∧(sgn s i c).2≤s.length:=by
 have hi:i < s.length:=(List.getElem?_eq_some_iff.1 hc).1
 have hb:i < (bad s i).2∧(bad s i).2≤s.length:=⟨Nat.lt_succ_self i,hi⟩
 unfold sgn
 split
 ·rename_i h
  split
  ·have h1:=jU (p:=zM) (s:=s) (i:=i) (by omega)
   have h2:1≤pre zM (s.drop i):=qah hc (by unfold zM;rw [h,Bool.true_or])
   exact ⟨by show i < i+_;omega,h1⟩
  ·exact hb
 split
 ·rename_i h
  split
  ·have h1:=jU (p:=inB 48 57) (s:=s) (i:=i) (by omega)
   have h2:1≤pre (inB 48 57) (s.drop i):=qah hc h
   exact ⟨by show i < i+_;omega,h1⟩
  ·exact hb
 split
 ·cases hq:Zd (s.drop (i+1))with
  |none=>exact hb
  |some m=>
   have:=(qoj hq).1
   rw [List.length_drop]at this
   exact ⟨by show i < i+1+m+1;omega,by show i+1+m+1≤_;omega⟩
 split
 ·exact ⟨Nat.lt_succ_self i,hi⟩
 split
 ·exact ⟨Nat.lt_succ_self i,hi⟩
 split
 ·exact ⟨Nat.lt_succ_self i,hi⟩
 split
 ·rename_i h
  split
  ·have h1:=jU (p:=zi) (s:=s) (i:=i) (by omega)
   have h2:1≤pre zi (s.drop i):=qah hc h
   exact ⟨by show i < i+_;omega,h1⟩
  ·exact hb
 ·exact hb
theorem qgy(s:Str): ∀ (n i:Nat),(sgs s n i).length≤n
 |0,i=>Nat.le_refl _
 |n+1,i=>by
  simp only [sgs]
  split
  ·simp
  ·rename_i c hc
   split
   ·have:=qgy s n (i+1);omega
   split
   ·have:=qgy s n (i+pre (fun d=> !isB 10 d) (s.drop i));omega
   ·have:=qgy s n (sgn s i c).2
    simp only [List.length_cons];omega
theorem qpw(s:Str): ∀ (n i:Nat),s.length≤i→sgs s n i=[]
 |0,i,_=>rfl
 |n+1,i,h=>by simp only [sgs,List.getElem?_eq_none h]
def qc1(s:Str):Str:=[39]++s++[39]
def xE(s:Str):Str:=match xB s with
 |[x]=>if x.kind=1∧x.text=s then s else qc1 s
 |_=>qc1 s
theorem qh3(s:Str):(xE s).length≤s.length+2:=by
 have:(qc1 s).length=s.length+2:=by simp [qc1]
 unfold xE
 split
 ·split<;>omega
 ·omega
def zO(s:Str):Op3:=
 if s=[58,45]then ⟨1200,0,1199⟩else if s=[92,43]then ⟨900,0,900⟩else if s=[45]then ⟨200,0,200⟩else ⟨0,0,0⟩
def Qz(s:Str):V:= .t [.a [S (if (zO s).prio=0 then []else s),I (zO s).prio,I (zO s).left,I (zO s).right],B (decide ((zO s).prio ≠ 0))]
def qcM(s:Str):Bool:=decide ((qP s).prio ≠ 0)||decide ((zO s).prio ≠ 0)
def QD(s:Str):Str:=if s=[44]then [44]else xE s
theorem qpx(s:Str):(QD s).length≤s.length+2:=by
 unfold QD
 split
 ·simp
 ·exact qh3 s
def zQ(p:Bool) (most prio:Int) (s:Str):Str:=if p=true∧most < prio then [40]++s++[41]else s
theorem XL(p:Bool) (m q:Int) (s:Str):(zQ p m q s).length≤s.length+2:=by
 unfold zQ;split<;>simp<;>omega
structure Kd where
 raw:Str
 rest:Str
 prio:Int
def qUP(p:Bool):List Kd→Option (Kd × Kd)
 |[a,b]=>some (a,b)
 |_=>none
def J2(p:Bool) (s:Str) (ks:List Kd):Str:=xE s++[40]++join (ks.map fun k=>zQ p 999 k.prio k.raw) [44]++[41]
def J5(p:Bool) (s:Str) (a b:Kd):Str:=
 if p=true then zQ true (qP s).left a.prio a.raw++[32]++QD s++[32]++zQ true (qP s).right b.prio b.raw
 else [40]++a.raw++[32]++QD s++[32]++b.raw++[41]
def Ze(p:Bool) (k:Int) (s:Str) (n:Int) (ks:List Kd):Str:=
 if k=1 then [95]++itoa n
 else if k=3 then itoa n
 else if k=2 then (if s=[91,93]then [91,93]else if qcM s=true then [40]++xE s++[41]else xE s)
 else match ks with
  |[a,b]=>if s=[46]then [91]++zQ p 999 a.prio a.raw++b.rest else if (qP s).prio ≠ 0 then J5 p s a b else J2 p s ks
  |_=>J2 p s ks
def qaq(p:Bool) (k:Int) (s:Str) (prio:Int) (ks:List Kd) (raw:Str):Str:=
 if k=2∧s=[91,93]then [93]
 else match ks with
  |[a,b]=>if k=4∧s=[46]then [44]++zQ p 999 a.prio a.raw++b.rest else [124]++zQ p 999 prio raw++[93]
  |_=>[124]++zQ p 999 prio raw++[93]
mutual
def wk(p:Bool):Tm→Kd
 | .mk k s n ks=>⟨Ze p k s n (wks p ks),qaq p k s (xy (.mk k s n ks)) (wks p ks) (Ze p k s n (wks p ks)),xy (.mk k s n ks)⟩
def wks(p:Bool):List Tm→List Kd
 |[]=>[]
 |t::ts=>wk p t::wks p ts
end
theorem qkj(p:Bool): ∀ (ts:List Tm),wks p ts=ts.map (wk p)
 |[]=>rfl
 |t::ts=>by simp only [wks,List.map_cons,qkj p ts]
def wr(p:Bool) (t:Tm):Str:=(wk p t).raw
def wrR(p:Bool) (t:Tm):Str:=(wk p t).rest
theorem qCv(p:Bool) (t:Tm):(wk p t).prio=xy t:=by cases t;rfl
theorem Ka(p:Bool) (t:Tm):wr p t=Ze p t.kind t.name t.num (t.kids.map (wk p)):=by
 cases t;simp only [wr,wk,qkj];rfl
theorem qgK(p:Bool) (t:Tm):wrR p t=qaq p t.kind t.name (xy t) (t.kids.map (wk p)) (wr p t):=by
 cases t;simp only [wrR,wr,wk,qkj];rfl
def held(p:Bool) (m:Int) (t:Tm):Str:=zQ p m (xy t) (wr p t)
theorem qsy(m:Int) (t:Tm):held false m t=wr false t:=by unfold held zQ;rw [if_neg (by simp)]
theorem qjF {d:Int} {t:Tm} (h:xz d t=true):Qw t=true∧ ∀ u ∈ t.kids,xz (d+1) u=true:=by
 cases t with
 |mk k s n ks=>
  simp only [xz,Bool.and_eq_true]at h
  refine ⟨h.2.1, ?_⟩
  have: ∀ ts:List Tm,yG (d+1) ts=true→ ∀ u ∈ ts,xz (d+1) u=true:=by
   intro ts
   induction ts with
   |nil=>intro _ u hu;cases hu
   |cons x xs ih=>
    intro h u hu
    simp only [yG,Bool.and_eq_true]at h
    rcases List.mem_cons.1 hu with rfl|hu
    ·exact h.1
    ·exact ih h.2 u hu
  exact this ks h.2.2
theorem qi8 {t:Tm} (h:Qw t=true):(t.kind=1∨t.kind=2∨t.kind=3∨t.kind=4)∧t.name.length≤20∧(t.kind=3∨t.kind=1→ -999999999≤t.num∧t.num≤999999999)∧(t.kind=4→1≤t.kids.length∧t.kids.length≤5)∧(t.kind ≠ 4→t.kids=[]):=by
 have hn:xf t.name=true→t.name.length≤20:=by
  intro h
  unfold xf at h
  simp only [Bool.and_eq_true,decide_eq_true_eq]at h
  exact h.2.2
 have hk:(t.kids.length:Int)=0→t.kids=[]:=fun h=>List.length_eq_zero_iff.1 (by omega)
 unfold Qw at h
 split at h
 ·rename_i k
  simp only [Bool.and_eq_true,decide_eq_true_eq]at h
  refine ⟨.inl k,by rw [h.2.1];simp,fun _=>by omega,fun e=>by omega,fun _=>hk h.2.2⟩
 split at h
 ·rename_i k
  simp only [Bool.and_eq_true,decide_eq_true_eq]at h
  refine ⟨.inr (.inl k),hn h.1,fun e=>by omega,fun e=>by omega,fun _=>hk h.2.2⟩
 split at h
 ·rename_i k
  simp only [Bool.and_eq_true,decide_eq_true_eq]at h
  refine ⟨.inr (.inr (.inl k)),by rw [h.2.1];simp,fun _=>by omega,fun e=>by omega,fun _=>hk h.2.2⟩
 split at h
 ·rename_i k
  simp only [Bool.and_eq_true,decide_eq_true_eq]at h
  refine ⟨.inr (.inr (.inr k)),hn h.1,fun e=>by omega,fun _=>by omega,fun e=>absurd k e⟩
 ·cases h
theorem qmS(p:Str): ∀ (ss:List Str),(Go.Lib.joinTail p ss).length=(ss.map fun s=>s.length+p.length).sum
 |[]=>rfl
 |s::ss=>by
  have:=qmS p ss
  unfold Go.Lib.joinTail at this ⊢
  simp only [List.map_cons,List.flatten_cons,List.length_append,List.sum_cons,this]
  omega
theorem qs5(p:Str): ∀ (ss:List Str),(join ss p).length≤(ss.map fun s=>s.length+p.length).sum
 |[]=>by rw [Go.Lib.join_nil];exact Nat.zero_le _
 |s::ss=>by
  rw [Go.Lib.join_cons,List.length_append,qmS,List.map_cons,List.sum_cons];omega
theorem qCE(p:Bool): ∀ (t:Tm) (d:Int),xz d t=true→(wr p t).length+10≤60*nT t∧(wrR p t).length≤60*nT t:=by
 refine jH ?_
 intro k s n ks ih d h
 obtain ⟨ho,hks⟩:=qjF h
 obtain ⟨-,hs,hn,-,-⟩:=qi8 ho
 simp only [yq,yr,yB,zU]at hs hn hks
 have hat:=qh3 s
 have hst:=qpx s
 have hg:(J2 p s (ks.map (wk p))).length≤24+60*nTs ks:=by
  unfold J2
  have h1:=qs5 [44] ((ks.map (wk p)).map fun k=>zQ p 999 k.prio k.raw)
  have h2: ∀ (l:List Tm),(∀ u ∈ l,(wr p u).length+10≤60*nT u)→(((l.map (wk p)).map fun k=>zQ p 999 k.prio k.raw).map fun s=>s.length+([44]:Str).length).sum≤60*nTs l:=by
   intro l
   induction l with
   |nil=>intro _;simp [nTs]
   |cons x xs ihx=>
    intro hl
    have h3:=ihx fun u hu=>hl u (by simp [hu])
    have h4:=hl x (by simp)
    have h5:=XL p 999 (wk p x).prio (wk p x).raw
    simp only [List.map_cons,List.sum_cons,List.length_cons,List.length_nil,nTs]at h3 ⊢
    unfold wr at h4
    omega
  have h3:=h2 ks fun u hu=>(ih u hu (d+1) (hks u hu)).1
  simp only [List.length_append,List.length_cons,List.length_nil]
  omega
 have hraw:(wr p (.mk k s n ks)).length+10≤60*nT (.mk k s n ks):=by
  rw [Ka]
  simp only [yq,yr,yB,zU,nT]
  unfold Ze
  split
  ·have:=qcN n (by omega) (by omega)
   simp only [List.length_append,List.length_cons,List.length_nil];omega
  split
  ·have:=qcN n (by omega) (by omega)
   omega
  split
  ·split
   ·simp only [List.length_cons,List.length_nil];omega
   split
   ·simp only [List.length_append,List.length_cons,List.length_nil];omega
   ·omega
  split
  ·rename_i a b hab
   rcases ks with _|⟨x,_|⟨y,_|⟨z,r⟩⟩⟩<;>simp at hab
   obtain ⟨rfl,rfl⟩:=hab
   have hx:=ih x (by simp) (d+1) (hks x (by simp))
   have hy:=ih y (by simp) (d+1) (hks y (by simp))
   unfold wr wrR at hx hy
   have hl1:=XL p 999 (wk p x).prio (wk p x).raw
   simp only [nTs]
   split
   ·simp only [List.length_append,List.length_cons,List.length_nil];omega
   split
   ·unfold J5
    have hl2:=XL true (qP s).left (wk p x).prio (wk p x).raw
    have hl3:=XL true (qP s).right (wk p y).prio (wk p y).raw
    split<;>simp only [List.length_append,List.length_cons,List.length_nil]<;>omega
   ·simp only [nTs,List.map_cons,List.map_nil]at hg ⊢;omega
  ·omega
 refine ⟨hraw, ?_⟩
 rw [qgK]
 have hh:=XL p 999 (xy (.mk k s n ks)) (wr p (.mk k s n ks))
 simp only [yq,yr,zU]
 unfold qaq
 split
 ·have:=jS (.mk k s n ks);simp only [List.length_cons,List.length_nil];omega
 split
 ·rename_i a b hab
  rcases ks with _|⟨x,_|⟨y,_|⟨z,r⟩⟩⟩<;>simp at hab
  obtain ⟨rfl,rfl⟩:=hab
  have hx:=ih x (by simp) (d+1) (hks x (by simp))
  have hy:=ih y (by simp) (d+1) (hks y (by simp))
  unfold wr wrR at hx hy
  have hl1:=XL p 999 (wk p x).prio (wk p x).raw
  split
  ·simp only [List.length_append,List.length_cons,List.length_nil,nT,nTs];omega
  ·simp only [List.length_append,List.length_cons,List.length_nil];omega
 ·simp only [List.length_append,List.length_cons,List.length_nil];omega
end Go.Vm
namespace Go.Vm
theorem Zi(s:Str) (a b:Nat) (h:a≤b) (hb:b≤s.length):X5 (S s) (some (I a)) (some (I b))=some (S (zD s a b)):=by
 have h1:Yz 0 (some (I a))=some (a:Int):=rfl
 have h2:Yz s.length (some (I b))=some (b:Int):=rfl
 rw [qB2 h1 h2 (by omega) (by omega) (by omega)]
 rfl
theorem qwC(s:Str) (hl:s.length≤2^61) (at_:Nat) (m:Nat): ∀ i,i+m=s.length→at_+1≤i→
 lw qg qbY ⟨[(0,S s),(1,I at_),(5,I i)],[]⟩=match jy (s.drop i)with
  |none=>some (.exit 0,⟨[],[]⟩)
  |some k=>some (.ret,⟨[(4,I (if xf (zD s (at_+1) (i+k))=true then ((i+k+1:Nat):Int)else 0))],[]⟩):=by
 induction m with
 |zero=>
  intro i hi ha
  rw [List.drop_eq_nil_of_le (by omega),ql]
  have h: ¬ (i:Int) < s.length:=by omega
  simp only [jy]
  simp only [go_sem,qa,qb,qc,qd,qe,qf,reduceCtorEq,Xy,h]
 |succ m ih=>
  intro i hi ha
  have h:(i:Int) < s.length:=by omega
  obtain ⟨c,hc⟩:=qV (l:=s) (i:=i) (by omega)
  have ix:=yw (l:=s) (i:=(i:Int)) (c:=c) (by omega) (by simpa using hc)
  have e1:w64 ((i:Int)+1)=((i+1:Nat):Int):=by rw [qm]<;>omega
  have e2:w64 ((at_:Int)+1)=((at_+1:Nat):Int):=by rw [qm]<;>omega
  rw [zP hc,ql]
  simp only [jy]
  by_cases h39:isB 39 c=true
  ·have d:decide ((c.toNat:Int)=39)=true:=h39
   rw [if_pos h39]
   have sl:=Zi s (at_+1) i ha (by omega)
   have nm:=qm2 (zD s (at_+1) i) (by unfold zD;simp only [List.length_drop,List.length_take];omega)
   simp only [Nat.add_zero]
   cases hn:xf (zD s (at_+1) i)with
   |true=>rw [hn]at nm;rw [if_pos rfl];simp only [go_sem,qa,qb,qc,qd,qe,qf,reduceCtorEq,Xy,h,ix,e1,e2,d,sl,nm]
   |false=>rw [hn]at nm;rw [if_neg (by decide)];simp only [go_sem,qa,qb,qc,qd,qe,qf,reduceCtorEq,Xy,h,ix,e1,e2,d,sl,nm]
  ·have d:decide ((c.toNat:Int)=39)=false:=by simpa [isB]using h39
   have i1:=ih (i+1) (by omega) (by omega)
   rw [if_neg h39]
   have hq: ∀ k,i+1+k=i+(k+1):=fun k=>by omega
   cases hk:jy (s.drop (i+1))with
   |none=>
    rw [hk]at i1
    simp only [Option.map_none]at i1 ⊢
    simp only [go_sem,qa,qb,qc,qd,qe,qf,reduceCtorEq,Xy,h,ix,e1,d]
    exact i1
   |some k=>
    rw [hk]at i1
    simp only [Option.map_some,hq]at i1 ⊢
    simp only [go_sem,qa,qb,qc,qd,qe,qf,reduceCtorEq,Xy,h,ix,e1,d]
    exact i1
def qjr(s:Str) (i:Nat):Int:=match Zd (s.drop (i+1))with
 |some k=>((i+1+k+1:Nat):Int)
 |none=>0
theorem qwD(s:Str) (hl:s.length≤2^61) (i:Nat) (hi:i < s.length):cr qg qhp [S s,I i]=some (I (qjr s i)):=by
 have h:=qwC s hl i (s.length - (i+1)) (i+1) (by omega) (Nat.le_refl _)
 have e2:w64 ((i:Int)+1)=((i+1:Nat):Int):=by rw [qm]<;>omega
 rw [qo qzo rfl]
 unfold qjr Zd
 cases hk:jy (s.drop (i+1))with
 |none=>
  rw [hk]at h
  simp only at h
  simp only [go_sem,qa,qb,qc,qd,qe,qf,reduceCtorEq,Yf,e2,h]
 |some k=>
  rw [hk]at h
  have hs:zD s (i+1) (i+1+k)=(s.drop (i+1)).take k:=by
   unfold zD;rw [List.drop_take,Nat.add_sub_cancel_left]
  simp only [hs]at h
  simp only
  by_cases hn:xf ((s.drop (i+1)).take k)=true
  ·rw [if_pos hn]at h;simp only [if_pos hn];simp only [go_sem,qa,qb,qc,qd,qe,qf,reduceCtorEq,Yf,e2,h]
  ·rw [if_neg hn]at h;simp only [if_neg hn];simp only [go_sem,qa,qb,qc,qd,qe,qf,reduceCtorEq,Yf,e2,h]
theorem qBr(s:Str) (hl:s.length≤2^61) (i:Nat) (e:Nat) (x:Str) (m:Nat): ∀ n,n+m=s.length→
 lw qg qb0 ⟨[(0,S s),(1,I i),(4,.p (100000,0) 0 0),(7,.p (100000,1) 0 0),(8,I e),(13,I n)],[((100000,0),5,[.a [I 0,S [],I 0,I 0,B false]]),((100000,1),5,[.a [I 6,S x,I 0,I i,B false]])]⟩=some (.exit 3,⟨[(0,S s),(1,I i),(4,.p (100000,0) 0 0),(7,.p (100000,1) 0 0),(8,I e),(13,I ((n+pre zi (s.drop n):Nat):Int))],[((100000,0),5,[.a [I 0,S [],I 0,I 0,B false]]),((100000,1),5,[.a [I 6,S x,I 0,I i,B false]])]⟩):=by
 induction m with
 |zero=>
  intro n hn
  rw [List.drop_eq_nil_of_le (by omega),ql]
  have h: ¬ (n:Int) < s.length:=by omega
  simp only [go_sem,qa,qb,qc,qd,qe,qf,reduceCtorEq,qco,h,pre]
 |succ m ih=>
  intro n hn
  have h:(n:Int) < s.length:=by omega
  obtain ⟨c,hc⟩:=qV (l:=s) (i:=n) (by omega)
  have ix:=yw (l:=s) (i:=(n:Int)) (c:=c) (by omega) (by simpa using hc)
  have w:=qj6 c
  have e1:w64 ((n:Int)+1)=((n+1:Nat):Int):=by rw [qm]<;>omega
  rw [zP hc,ql,pre]
  cases hw:zi c with
  |true=>
   rw [hw]at w
   have i1:=ih (n+1) (by omega)
   rw [if_pos rfl,show n+(pre zi (s.drop (n+1))+1)=n+1+pre zi (s.drop (n+1))by omega]
   simp only [go_sem,qa,qb,qc,qd,qe,qf,reduceCtorEq,qco,h,ix,w,e1]
   exact i1
  |false=>
   rw [hw]at w
   rw [if_neg (by decide)]
   simp only [go_sem,qa,qb,qc,qd,qe,qf,reduceCtorEq,qco,h,ix,w,e1]
theorem qBq(s:Str) (hl:s.length≤2^61) (i:Nat) (e:Nat) (x:Str) (m:Nat): ∀ (n:Nat) (a:Int),n+m=s.length→0≤a→a≤9999999999→
 lw qg qb1 ⟨[(0,S s),(1,I i),(4,.p (100000,0) 0 0),(7,.p (100000,1) 0 0),(8,I e),(10,I n),(11,I a)],[((100000,0),5,[.a [I 0,S [],I 0,I 0,B false]]),((100000,1),5,[.a [I 6,S x,I 0,I i,B false]])]⟩=some (.exit 1,⟨[(1,I i),(4,.p (100000,0) 0 0),(7,.p (100000,1) 0 0),(8,I e),(10,I ((n+nk (s.drop n) a:Nat):Int)),(11,I (nf (s.drop n) a))],[((100000,0),5,[.a [I 0,S [],I 0,I 0,B false]]),((100000,1),5,[.a [I 6,S x,I 0,I i,B false]])]⟩):=by
 induction m with
 |zero=>
  intro n a hn h0 h1
  rw [List.drop_eq_nil_of_le (by omega),ql]
  have h: ¬ (n:Int) < s.length:=by omega
  simp only [go_sem,qa,qb,qc,qd,qe,qf,reduceCtorEq,JJ,h,nf,nk]
 |succ m ih=>
  intro n a hn h0 h1
  have h:(n:Int) < s.length:=by omega
  obtain ⟨c,hc⟩:=qV (l:=s) (i:=n) (by omega)
  have ix:=yw (l:=s) (i:=(n:Int)) (c:=c) (by omega) (by simpa using hc)
  have w:=qiM c
  have e1:w64 ((n:Int)+1)=((n+1:Nat):Int):=by rw [qm]<;>omega
  rw [zP hc,ql,nf,nk]
  cases hw:inB 48 57 c with
  |true=>
   rw [hw]at w
   have hb:=hw
   simp only [inB,Bool.and_eq_true,decide_eq_true_eq]at hb
   by_cases ha:a≤999999999
   ·have da:decide (a≤999999999)=true:=decide_eq_true ha
    have i1:=ih (n+1) (10*a+c.toNat - 48) (by omega) (by omega) (by omega)
    have e3:w64 (10*a)=10*a:=by rw [qm]<;>omega
    have e4:w64 (c.toNat:Int)=c.toNat:=by rw [qm]<;>omega
    have e5:w64 (10*a+c.toNat)=10*a+c.toNat:=by rw [qm]<;>omega
    have e6:w64 (10*a+c.toNat - 48)=10*a+c.toNat - 48:=by rw [qm]<;>omega
    rw [da,Bool.and_self,if_pos rfl,if_pos rfl,show n+(nk (s.drop (n+1)) (10*a+c.toNat - 48)+1)=n+1+nk (s.drop (n+1)) (10*a+c.toNat - 48)by omega]
    simp only [go_sem,qa,qb,qc,qd,qe,qf,reduceCtorEq,JJ,h,ix,w,e1,da,ha,e3,e4,e5,e6]
    exact i1
   ·have da:decide (a≤999999999)=false:=decide_eq_false ha
    rw [da,Bool.and_false,if_neg (by decide),if_neg (by decide)]
    simp only [go_sem,qa,qb,qc,qd,qe,qf,reduceCtorEq,JJ,h,ix,w,e1,da,ha,Nat.add_zero]
  |false=>
   rw [hw]at w
   rw [Bool.false_and,if_neg (by decide),if_neg (by decide)]
   simp only [go_sem,qa,qb,qc,qd,qe,qf,reduceCtorEq,JJ,h,ix,w,e1,Nat.add_zero]
end Go.Vm
