import Derived.Test.YtbbkmeicdhnihaaDoorT03
import Derived.Test.YtbbkmeicdhnihaaDoorT04
import Derived.Lib.ItoaNum
open Nat renaming reduceAdd → qa, reduceSub → qb, reduceMul → qc, reduceEqDiff → qd, reduceLeDiff → qe, reduceBEq → qf
set_option autoImplicit false
set_option maxRecDepth 100000
set_option linter.unusedVariables false
namespace Go.Vm
def YN(f e:Nat):AC:=
       (.seq
        (.seq
         (.reg [.mv 11 (.t 5),
          .mv 12 (.t 0),
          .len 13 (.t 12),
          .bin 14 .lss (.t 11) (.t 13)])
        (.keep [0,1,5,14]
         (.cond (.t 14)
          .skip
          (.keep []
           (.exit 0)))))
       (.keep [0,1,5]
        (.seq
         (.block 1
          (.seq
           (.dreg [⟨0,[]⟩,⟨0,[]⟩,⟨0,[(0,0),(0,1),(0,2),(0,3),(100000,0),(100000,1),(100000,2),(100000,3),(100000,4),(100000,5)]⟩,⟨0,[(0,0),(0,1),(0,2),(0,3),(100000,0),(100000,1),(100000,2),(100000,3),(100000,4),(100000,5)]⟩,⟨0,[]⟩,⟨0,[]⟩,⟨0,[(1,0),(1,1),(1,2),(1,3),(100000,0),(100000,1),(100000,2),(100000,3),(100000,4),(100000,5)]⟩,⟨0,[(1,0),(1,1),(1,2),(1,3),(100000,0),(100000,1),(100000,2),(100000,3),(100000,4),(100000,5)]⟩,⟨2,[(0,0),(0,1),(0,2),(0,3),(1,0),(1,1),(1,2),(1,3),(20,0),(24,0),(100000,0),(100000,1),(100000,2),(100000,3),(100000,4),(100000,5)]⟩,⟨0,[]⟩]
            [.mv 17 (.t 0),
             .mv 18 (.t 5),
             .ia 19 e (.t 17) (.t 18),
             .ldq 20 true e (.t 19),
             .mv 21 (.t 1),
             .mv 22 (.t 5),
             .ia 23 e (.t 21) (.t 22),
             .ldq 24 true e (.t 23),
             .call (some 25) (.c (Fc f)) [(.t 20),(.t 24)] (.ro true),
             .un 26 .not (.t 25)])
          (.keep [0,1,5,26]
           (.cond (.t 26)
            (.seq
             (.reg [.mv 4 (.c (B false))])
            (.keep [4]
             .ret))
            .skip))))
        (.keep [0,1,5]
         (.reg [.mv 15 (.t 5),
          .bin 16 .add (.t 15) (.c (I 1)),
          .mv 5 (.t 16)])))))
def Zv(f e:Nat):Lp:=⟨[0,1,5],[(2,0)],YN f e⟩
@[go_sem] theorem qm0 {f e:Nat}:(Zv f e).ls=[0,1,5]:=rfl
@[go_sem] theorem qmZ {f e:Nat}:(Zv f e).ks=[(2,0)]:=rfl
@[go_sem] theorem qmY {f e:Nat}:(Zv f e).body=YN f e:=rfl
def XZ(f e:Nat):AF where
 nargs:=2
 ntmps:=27
 res:=[.tmp 4]
 body:=
  (.seq
   (.reg [.mv 4 (.c (B false))])
  (.seq
   (.seq
    (.reg [.mv 6 (.t 0),
     .len 7 (.t 6),
     .mv 8 (.t 1),
     .len 9 (.t 8),
     .bin 10 .neq (.t 7) (.t 9)])
   (.keep [0,1,10]
    (.cond (.t 10)
     (.seq
      (.reg [.mv 4 (.c (B false))])
     (.keep [4]
      .ret))
     .skip)))
  (.keep [0,1]
   (.seq
    (.seq
     (.reg [.mv 5 (.c (I 0))])
    (.block 0
     (lpC (Zv f e))))
   (.keep []
    (.seq
     (.reg [.mv 4 (.c (B true))])
    (.keep [4]
     .ret)))))))
def YO(f e:Nat):AC:=
 (.seq
  (.seq
   (.reg [.mv 12 (.t 5),
    .mv 13 (.t 0),
    .len 14 (.t 13),
    .bin 15 .lss (.t 12) (.t 14)])
  (.keep [0,1,5,15]
   (.cond (.t 15)
    .skip
    (.keep [1]
     (.exit 0)))))
 (.keep [0,1,5]
  (.seq
   (.block 1
    (.seq
     (.reg [.mv 18 (.t 0),
      .mv 19 (.t 5),
      .ia 20 e (.t 18) (.t 19),
      .ld 21 true e (.t 20),
      .mv 22 (.t 1),
      .call (some 23) (.c (Fc f)) [(.t 21),(.t 22)] (.ro false),
      .mv 1 (.t 23)])
    (.keep [0,1,5]
     (.seq
      (.reg [.mv 24 (.t 1),
       .bin 25 .lss (.t 24) (.c (I 0))])
     (.cond (.t 25)
      (.seq
       (.reg [.mv 4 (.c (I (-1)))])
      (.keep [4]
       .ret))
      .skip)))))
  (.keep [0,1,5]
   (.reg [.mv 16 (.t 5),
    .bin 17 .add (.t 16) (.c (I 1)),
    .mv 5 (.t 17)])))))
def jQ(f e:Nat):Lp:=⟨[0,1,5],[(2,0)],YO f e⟩
@[go_sem] theorem qm3 {f e:Nat}:(jQ f e).ls=[0,1,5]:=rfl
@[go_sem] theorem qm2 {f e:Nat}:(jQ f e).ks=[(2,0)]:=rfl
@[go_sem] theorem qm1 {f e:Nat}:(jQ f e).body=YO f e:=rfl
def X0(f e:Nat):AF where
 nargs:=2
 ntmps:=27
 res:=[.tmp 4]
 body:=
  (.seq
   (.reg [.mv 4 (.c (I 0))])
  (.seq
   (.reg [.mv 6 (.t 1),
    .mv 7 (.t 0),
    .len 8 (.t 7),
    .bin 9 .sub (.t 6) (.t 8),
    .mv 1 (.t 9)])
  (.keep [0,1]
   (.seq
    (.seq
     (.reg [.mv 10 (.t 1),
      .bin 11 .lss (.t 10) (.c (I 0))])
    (.cond (.t 11)
     (.seq
      (.reg [.mv 4 (.c (I (-1)))])
     (.keep [4]
      .ret))
     .skip))
   (.keep [0,1]
    (.seq
     (.seq
      (.reg [.mv 5 (.c (I 0))])
     (.block 0
      (lpC (jQ f e))))
    (.keep [1]
     (.seq
      (.reg [.mv 26 (.t 1),
       .mv 4 (.t 26)])
     (.keep [4]
      .ret)))))))))
def qbL(f e b:Nat) (z:V):AC:=
 (.seq
  (.seq
   (.reg [.mv 8 (.t 4),
    .mv 9 (.t 0),
    .len 10 (.t 9),
    .bin 11 .lss (.t 8) (.t 10)])
  (.keep [0,3,4,11]
   (.cond (.t 11)
    .skip
    (.keep [3]
     (.exit 0)))))
 (.keep [0,3,4]
  (.seq
   (.block 1
    (.reg [.mv 14 (.t 3),
     .mv 15 (.t 4),
     .mv 16 (.t 0),
     .mv 17 (.t 4),
     .ia 18 e (.t 16) (.t 17),
     .ld 19 true e (.t 18),
     .call (some 20) (.c (Fc f)) [(.t 19)] (.ro false),
     .ia 21 e (.t 14) (.t 15),
     .st e (.t 21) (.t 20)]))
  (.keep [0,3,4]
   (.reg [.mv 12 (.t 4),
    .bin 13 .add (.t 12) (.c (I 1)),
    .mv 4 (.t 13)])))))
def X1(f e b:Nat) (z:V):Lp:=⟨[0,3,4],[(1,0)],qbL f e b z⟩
@[go_sem] theorem qm6 {f e b:Nat} {z:V}:(X1 f e b z).ls=[0,3,4]:=rfl
@[go_sem] theorem qm5 {f e b:Nat} {z:V}:(X1 f e b z).ks=[(1,0)]:=rfl
@[go_sem] theorem qm4 {f e b:Nat} {z:V}:(X1 f e b z).body=qbL f e b z:=rfl
def qmX(f e b:Nat) (z:V):AF where
 nargs:=1
 ntmps:=23
 res:=[.tmp 2]
 body:=
  (.seq
   (.reg [.mv 2 (.c (.n e))])
  (.seq
   (.reg [.mv 5 (.t 0),
    .len 6 (.t 5),
    .mk 7 e z b (.t 6) (.t 6),
    .mv 3 (.t 7)])
  (.keep [0,3]
   (.seq
    (.seq
     (.reg [.mv 4 (.c (I 0))])
    (.block 0
     (lpC (X1 f e b z))))
   (.keep [3]
    (.seq
     (.reg [.mv 22 (.t 3),
      .mv 2 (.t 22)])
    (.keep [2]
     .ret)))))))
end Go.Vm
set_option linter.unusedSimpArgs false
namespace Go.Vm
def Ku:V→Bool
 | .v _=>true
 | .i _ _=>true
 |_=>false
def j2:List V→Bool
 |[]=>true
 |c::cs=>Ku c&&j2 cs
def Qu(e:Nat) (v:V):Prop:= ∃ cs,v= .a cs∧cs.length=e∧j2 cs=true
theorem Xg(m:Nat) (T:Mem): ∀ (cs:List V),j2 cs=true→qx (qq (m+1)) T cs=(cs,T)
 |[],_=>rfl
 |c::cs,h=>by
  simp only [j2,Bool.and_eq_true]at h
  have h1:qq (m+1) T c=(c,T):=by cases c<;>first|rfl|(simp [Ku]at h)
  simp only [qx,h1,Xg m T cs h.2]
theorem Xh(τ:Bool): ∀ (cs:List V),j2 cs=true→qO τ cs=cs
 |[],_=>rfl
 |c::cs,h=>by
  simp only [j2,Bool.and_eq_true]at h
  have h1:qM τ c=c:=by cases c<;>first|rfl|(simp [Ku]at h)
  simp only [qO,h1,Xh τ cs h.2]
theorem Xi: ∀ (cs:List V),j2 cs=true→ya cs=true
 |[],_=>rfl
 |c::cs,h=>by
  simp only [j2,Bool.and_eq_true]at h
  have h1:qZ c=true:=by cases c<;>first|rfl|(simp [Ku]at h)
  simp only [ya,h1,Xi cs h.2,Bool.and_self]
theorem Qu.cells {e:Nat} {v:V} (h:Qu e v):v.cells.length=e:=by obtain ⟨cs,rfl,h,-⟩:=h;exact h
section
variable {prog:Nat→Option AE} {α:Type} {R:α→V→Prop}
noncomputable local instance:DecidableEq α:=fun a b=>Classical.propDecidable (a=b)
theorem qgZ(f e:Nat) (hR: ∀ t v,R t v→Qu e v) (τ τ':Bool) (vs vs':List V) (ts ts':List α) (hl:ts'.length=ts.length) (hv:RL R ts vs) (hv':RL R ts' vs') (hlim:ts.length≤Lm)
 (hc: ∀ t ∈ ts,∀ t' v v',R t v→R t' v'→cr prog f [v,v']=some (B (decide (t=t')))):
 lw prog (Zv f e) ⟨[(0,.i τ vs),(1,.i τ' vs'),(5,I 0)],[]⟩=if ts=ts' then some (.exit 0,⟨[],[]⟩)else some (.ret,⟨[(4,B false)],[]⟩):=by
 have hn:=zE hv
 refine ju ts (fun i r=>lw prog (Zv f e) ⟨[(0,.i τ vs),(1,.i τ' vs'),(5,I i)],[]⟩=if r=ts'.drop i then some (.exit 0,⟨[],[]⟩)else some (.ret,⟨[(4,B false)],[]⟩)) (by unfold Lm at hlim;omega) ?_ ?_
 ·rw [List.drop_eq_nil_of_le (by omega),if_pos rfl,qY]
  simp only [go_sem,qa,qb,qc,qd,qe,qf,reduceCtorEq,YN,hn]
 ·intro i t r ht hi hlt e1 hir hm hr ih
  obtain ⟨t',ht'⟩:=xX (l:=ts') (i:=i) (by omega)
  obtain ⟨v,g,hb⟩:=ko hv ht
  obtain ⟨v',g',hb'⟩:=ko hv' ht'
  have hcc:=hc t hm t' v v' hb hb'
  have a1:=zL (τ:=τ) (T:=[]) g (hR _ _ hb).cells
  have a2:=zL (τ:=τ') (T:=[]) g' (hR _ _ hb').cells
  obtain ⟨cs,rfl,hcl,hfl⟩:=hR _ _ hb
  obtain ⟨cs',rfl,hcl',hfl'⟩:=hR _ _ hb'
  rw [ky ht',qY]
  by_cases he:t=t'
  ·subst he
   have:(t::r=t::ts'.drop (i+1))=(r=ts'.drop (i+1)):=by simp
   simp only [this]
   rw [← ih]
   simp only [go_sem,qa,qb,qc,qd,qe,qf,reduceCtorEq,YN,hn,hlt,a1,a2,g,g',hcc,e1,hcl,hcl',Xg,Xh,Xi,hfl,hfl']
  ·rw [if_neg (fun h=>he (by cases h;rfl))]
   simp only [go_sem,qa,qb,qc,qd,qe,qf,reduceCtorEq,YN,hn,hlt,a1,a2,g,g',hcc,e1,hcl,hcl',Xg,Xh,Xi,hfl,hfl',he]
theorem qg0(fS f e:Nat) (hp:prog fS=some (.fn (XZ f e))) (hR: ∀ t v,R t v→Qu e v) (τ τ':Bool) (vs vs':List V) (ts ts':List α) (hv:RL R ts vs) (hv':RL R ts' vs') (hw:ts.length≤Lm)
 (hc: ∀ t ∈ ts,∀ t' v v',R t v→R t' v'→cr prog f [v,v']=some (B (decide (t=t')))):
 cr prog fS [.i τ vs,.i τ' vs']=some (B (decide (ts=ts'))):=by
 rw [qF hp rfl]
 by_cases hl:ts'.length=ts.length
 ·have h:=qgZ f e hR τ τ' vs vs' ts ts' hl hv hv' hw hc
  by_cases he:ts=ts'
  ·rw [if_pos he]at h
   simp only [go_sem,qa,qb,qc,qd,qe,qf,reduceCtorEq,XZ,zE hv,zE hv',hl,h,he]
  ·rw [if_neg he]at h
   simp only [go_sem,qa,qb,qc,qd,qe,qf,reduceCtorEq,XZ,zE hv,zE hv',hl,h,he]
 ·have he: ¬ ts=ts':=fun h=>hl (by rw [h])
  have hne: ¬ (ts.length:Int)=ts'.length:=by omega
  simp only [go_sem,qa,qb,qc,qd,qe,qf,reduceCtorEq,XZ,zE hv,zE hv',hne,he]
theorem qlH(f e:Nat) (hR: ∀ t v,R t v→Qu e v) (τ:Bool) (vs:List V) (ts:List α) (hv:RL R ts vs) (hlim:ts.length≤Lm)
 (hc: ∀ t ∈ ts,∀ v left,R t v→ ∃ m,cr prog f [v,I left]=some (I m)): ∀ left,
 (∃ r,lw prog (jQ f e) ⟨[(0,.i τ vs),(1,I left),(5,I 0)],[]⟩=some (.exit 0,⟨[(1,I r)],[]⟩))∨
 lw prog (jQ f e) ⟨[(0,.i τ vs),(1,I left),(5,I 0)],[]⟩=some (.ret,⟨[(4,I (-1))],[]⟩):=by
 have hn:=zE hv
 refine ju ts (fun i r=> ∀ left,(∃ r,lw prog (jQ f e) ⟨[(0,.i τ vs),(1,I left),(5,I i)],[]⟩=some (.exit 0,⟨[(1,I r)],[]⟩))∨
  lw prog (jQ f e) ⟨[(0,.i τ vs),(1,I left),(5,I i)],[]⟩=some (.ret,⟨[(4,I (-1))],[]⟩)) (by unfold Lm at hlim;omega) ?_ ?_
 ·intro left
  refine .inl ⟨left, ?_⟩
  rw [qY]
  simp only [go_sem,qa,qb,qc,qd,qe,qf,reduceCtorEq,YO,hn]
 ·intro i t r ht hi hlt e1 hir hm hr ih left
  obtain ⟨v,g,hb⟩:=ko hv ht
  obtain ⟨l',hcc⟩:=hc t hm v left hb
  have a1:=zL (τ:=τ) (T:=[]) g (hR _ _ hb).cells
  obtain ⟨cs,rfl,hcl,hfl⟩:=hR _ _ hb
  rw [qY]
  by_cases hneg:l' < 0
  ·right;simp only [go_sem,qa,qb,qc,qd,qe,qf,reduceCtorEq,YO,hn,hlt,a1,g,hcc,e1,hcl,Xg,Xh,Xi,hfl,hneg]
  ·have:=ih l'
   simp only [go_sem,qa,qb,qc,qd,qe,qf,reduceCtorEq,YO,hn,hlt,a1,g,hcc,e1,hcl,Xg,Xh,Xi,hfl,hneg]
   exact this
theorem qlI(fS f e:Nat) (hp:prog fS=some (.fn (X0 f e))) (hR: ∀ t v,R t v→Qu e v) (τ:Bool) (vs:List V) (ts:List α) (hv:RL R ts vs) (hw:ts.length≤Lm)
 (hc: ∀ t ∈ ts,∀ v left,R t v→ ∃ m,cr prog f [v,I left]=some (I m)) (left:Int):
 ∃ m,cr prog fS [.i τ vs,I left]=some (I m):=by
 rw [qF hp rfl]
 by_cases hneg:w64 (left - ts.length) < 0
 ·simp only [go_sem,qa,qb,qc,qd,qe,qf,reduceCtorEq,X0,zE hv,hneg]
  exact ⟨_,rfl⟩
 ·rcases qlH f e hR τ vs ts hv hw hc (w64 (left - ts.length))with ⟨r,h⟩|h
  ·simp only [go_sem,qa,qb,qc,qd,qe,qf,reduceCtorEq,X0,zE hv,hneg,h]
   exact ⟨_,rfl⟩
  ·simp only [go_sem,qa,qb,qc,qd,qe,qf,reduceCtorEq,X0,zE hv,hneg,h]
   exact ⟨_,rfl⟩
end
end Go.Vm
namespace Go.Vm
def wS(s:Str):Prop:=s.length≤Lm
structure Cl where
 head:Tm
 body:Tm
 file:Str
noncomputable instance:DecidableEq Cl:=fun a b=>Classical.propDecidable (a=b)
def bCl(x:Cl) (v:V):Prop:= ∃ τ0 vs0 τ1 vs1,v= .a [I x.head.kind,S x.head.name,I x.head.num,.i τ0 vs0,I x.body.kind,S x.body.name,I x.body.num,.i τ1 vs1,S x.file]∧RL BT x.head.kids vs0∧RL BT x.body.kids vs1
def oCl(x:Cl):V:= .a [I x.head.kind,S x.head.name,I x.head.num,.o 4 (x.head.kids.map oT),I x.body.kind,S x.body.name,I x.body.num,.o 4 (x.body.kids.map oT),S x.file]
def iCl(τ:Bool) (x:Cl):V:= .a [I x.head.kind,S x.head.name,I x.head.num,.i τ (x.head.kids.map (iT τ)),I x.body.kind,S x.body.name,I x.body.num,.i τ (x.body.kids.map (iT τ)),S x.file]
def wCl(x:Cl):Prop:=wTm x.head∧wTm x.body∧wS x.file
theorem qca(τ:Bool) (x:Cl):bCl x (iCl τ x):=⟨τ,_,τ,_,rfl,Ka τ _,Ka τ _⟩
theorem qcM(τ:Bool) (x:Cl):qM τ (oCl x)=iCl τ x:=by simp only [oCl,iCl,go_sem]
theorem qd3(x:Cl):qP (oCl x)=true:=by simp only [oCl,go_sem]
theorem qdZ(x:Cl):qP (iCl false x)=true:=by simp only [iCl,go_sem]
@[go_sem] theorem qA2(τ:Bool) (x:Cl):qZ (iCl τ x)=true:=rfl
@[go_sem] theorem qrr(m:Nat) (T:Mem) (τ:Bool) (x:Cl):qq (m+2) T (iCl τ x)=(iCl τ x,T):=rfl
@[go_sem] theorem qrJ(τ τ':Bool) (x:Cl):qM τ (iCl τ' x)=iCl τ' x:=rfl
@[go_sem] theorem quS(d:Nat) (τ:Bool) (x:Cl):qA d (iCl τ x)=iCl τ x:=rfl
@[go_sem] theorem qsa(τ:Bool) (x:Cl):yg (iCl τ x)=[]:=rfl
@[go_sem] theorem qun(τ:Bool) (x:Cl):(iCl τ x).isA=true:=rfl
@[go_sem] theorem qvi(τ:Bool) (x:Cl):qT true 9 (iCl τ x) 0=some (iCl τ x):=rfl
@[go_sem] theorem qqu(τ:Bool) (x:Cl):(iCl τ x).cells=[I x.head.kind,S x.head.name,I x.head.num,.i τ (x.head.kids.map (iT τ)),I x.body.kind,S x.body.name,I x.body.num,.i τ (x.body.kids.map (iT τ)),S x.file]:=rfl
@[go_sem] theorem qcu(x:Cl):clE (oCl x)=true:=rfl
@[go_sem] theorem qqI(τ:Bool) (x:Cl):clE (iCl τ x)=true:=rfl
attribute [go_sem] qcM qd3 qdZ
@[go_sem] theorem qrB(τ:Bool) (l:List Cl):qO τ (l.map oCl)=l.map (iCl τ):=jY (qcM τ) l
@[go_sem] theorem qwN(l:List Cl):qW (l.map oCl)=true:=xK qd3 l
@[go_sem] theorem qwS(l:List Cl):qW (l.map (iCl false))=true:=xK qdZ l
@[go_sem] theorem qcA(l:List Cl):qu (l.map oCl)=true:=xS qcu l
@[go_sem] theorem qvv(m:Nat) (T:Mem) (l:List Cl):qx (zt m) T (l.map oCl)=(l.map oCl,T):=kY m T _ (qcA l)
@[go_sem] theorem qzk(k:Key) (ob:Ob) (l:List Cl):zD k ob (l.map oCl)=none:=QW k ob _ (qcA l)
@[go_sem] theorem quE(d:Nat) (l:List Cl):qz d (l.map oCl)=l.map oCl:=kV qcu d l
structure Db where
 clauses:List Cl
 opn:List Str
noncomputable instance:DecidableEq Db:=fun a b=>Classical.propDecidable (a=b)
def bDb(x:Db) (v:V):Prop:= ∃ τ0 vs0 τ1,v= .a [.i τ0 vs0,.i τ1 (x.opn.map S)]∧RL bCl x.clauses vs0
def oDb(x:Db):V:= .a [.o 9 (x.clauses.map oCl),.o 1 (x.opn.map S)]
def iDb(τ:Bool) (x:Db):V:= .a [.i τ (x.clauses.map (iCl τ)),.i τ (x.opn.map S)]
def wDb(x:Db):Prop:=(x.clauses.length≤Lm∧ ∀ y ∈ x.clauses,wCl y)∧(x.opn.length≤Lm∧ ∀ y ∈ x.opn,wS y)
theorem qcN(τ:Bool) (x:Db):qM τ (oDb x)=iDb τ x:=by simp only [oDb,iDb,go_sem]
theorem qd4(x:Db):qP (oDb x)=true:=by simp only [oDb,go_sem]
theorem qd0(x:Db):qP (iDb false x)=true:=by simp only [iDb,go_sem]
@[go_sem] theorem qA3(τ:Bool) (x:Db):qZ (iDb τ x)=true:=rfl
@[go_sem] theorem qrs(m:Nat) (T:Mem) (τ:Bool) (x:Db):qq (m+2) T (iDb τ x)=(iDb τ x,T):=rfl
@[go_sem] theorem qrK(τ τ':Bool) (x:Db):qM τ (iDb τ' x)=iDb τ' x:=rfl
@[go_sem] theorem quT(d:Nat) (τ:Bool) (x:Db):qA d (iDb τ x)=iDb τ x:=rfl
@[go_sem] theorem qsb(τ:Bool) (x:Db):yg (iDb τ x)=[]:=rfl
@[go_sem] theorem qup(τ:Bool) (x:Db):(iDb τ x).isA=true:=rfl
@[go_sem] theorem qvj(τ:Bool) (x:Db):qT true 2 (iDb τ x) 0=some (iDb τ x):=rfl
@[go_sem] theorem qqv(τ:Bool) (x:Db):(iDb τ x).cells=[.i τ (x.clauses.map (iCl τ)),.i τ (x.opn.map S)]:=rfl
@[go_sem] theorem qcv(x:Db):clE (oDb x)=true:=rfl
@[go_sem] theorem qqJ(τ:Bool) (x:Db):clE (iDb τ x)=true:=rfl
attribute [go_sem] qcN qd4 qd0
@[go_sem] theorem qrC(τ:Bool) (l:List Db):qO τ (l.map oDb)=l.map (iDb τ):=jY (qcN τ) l
@[go_sem] theorem qwO(l:List Db):qW (l.map oDb)=true:=xK qd4 l
@[go_sem] theorem qwT(l:List Db):qW (l.map (iDb false))=true:=xK qd0 l
@[go_sem] theorem qcB(l:List Db):qu (l.map oDb)=true:=xS qcv l
@[go_sem] theorem qvw(m:Nat) (T:Mem) (l:List Db):qx (zt m) T (l.map oDb)=(l.map oDb,T):=kY m T _ (qcB l)
@[go_sem] theorem qzl(k:Key) (ob:Ob) (l:List Db):zD k ob (l.map oDb)=none:=QW k ob _ (qcB l)
@[go_sem] theorem quF(d:Nat) (l:List Db):qz d (l.map oDb)=l.map oDb:=kV qcv d l
structure Fl where
 name:Str
 text:Str
noncomputable instance:DecidableEq Fl:=fun a b=>Classical.propDecidable (a=b)
def bFl(x:Fl) (v:V):Prop:=v= .a [S x.name,S x.text]
def oFl(x:Fl):V:= .a [S x.name,S x.text]
def iFl(τ:Bool) (x:Fl):V:= .a [S x.name,S x.text]
def wFl(x:Fl):Prop:=wS x.name∧wS x.text
theorem qcO(τ:Bool) (x:Fl):qM τ (oFl x)=iFl τ x:=by simp only [oFl,iFl,go_sem]
theorem qd5(x:Fl):qP (oFl x)=true:=by simp only [oFl,go_sem]
theorem qd1(x:Fl):qP (iFl false x)=true:=by simp only [iFl,go_sem]
@[go_sem] theorem qA4(τ:Bool) (x:Fl):qZ (iFl τ x)=true:=rfl
@[go_sem] theorem qrt(m:Nat) (T:Mem) (τ:Bool) (x:Fl):qq (m+2) T (iFl τ x)=(iFl τ x,T):=rfl
@[go_sem] theorem qrL(τ τ':Bool) (x:Fl):qM τ (iFl τ' x)=iFl τ' x:=rfl
@[go_sem] theorem quU(d:Nat) (τ:Bool) (x:Fl):qA d (iFl τ x)=iFl τ x:=rfl
@[go_sem] theorem qsc(τ:Bool) (x:Fl):yg (iFl τ x)=[]:=rfl
@[go_sem] theorem quq(τ:Bool) (x:Fl):(iFl τ x).isA=true:=rfl
@[go_sem] theorem qvk(τ:Bool) (x:Fl):qT true 2 (iFl τ x) 0=some (iFl τ x):=rfl
@[go_sem] theorem qqw(τ:Bool) (x:Fl):(iFl τ x).cells=[S x.name,S x.text]:=rfl
@[go_sem] theorem qcw(x:Fl):clE (oFl x)=true:=rfl
@[go_sem] theorem qqK(τ:Bool) (x:Fl):clE (iFl τ x)=true:=rfl
attribute [go_sem] qcO qd5 qd1
@[go_sem] theorem qrD(τ:Bool) (l:List Fl):qO τ (l.map oFl)=l.map (iFl τ):=jY (qcO τ) l
@[go_sem] theorem qwP(l:List Fl):qW (l.map oFl)=true:=xK qd5 l
@[go_sem] theorem qwU(l:List Fl):qW (l.map (iFl false))=true:=xK qd1 l
@[go_sem] theorem qcC(l:List Fl):qu (l.map oFl)=true:=xS qcw l
@[go_sem] theorem qvx(m:Nat) (T:Mem) (l:List Fl):qx (zt m) T (l.map oFl)=(l.map oFl,T):=kY m T _ (qcC l)
@[go_sem] theorem qzm(k:Key) (ob:Ob) (l:List Fl):zD k ob (l.map oFl)=none:=QW k ob _ (qcC l)
@[go_sem] theorem quG(d:Nat) (l:List Fl):qz d (l.map oFl)=l.map oFl:=kV qcw d l
structure Se where
 files:List Fl
 db:Db
 lines:List Str
 out:Str
noncomputable instance:DecidableEq Se:=fun a b=>Classical.propDecidable (a=b)
def bSe(x:Se) (v:V):Prop:= ∃ τ0 vs0 τ1 vs1 τ2 τ3,v= .a [.i τ0 vs0,.i τ1 vs1,.i τ2 (x.db.opn.map S),.i τ3 (x.lines.map S),S x.out]∧RL bFl x.files vs0∧RL bCl x.db.clauses vs1
def oSe(x:Se):V:= .a [.o 2 (x.files.map oFl),.o 9 (x.db.clauses.map oCl),.o 1 (x.db.opn.map S),.o 1 (x.lines.map S),S x.out]
def iSe(τ:Bool) (x:Se):V:= .a [.i τ (x.files.map (iFl τ)),.i τ (x.db.clauses.map (iCl τ)),.i τ (x.db.opn.map S),.i τ (x.lines.map S),S x.out]
def wSe(x:Se):Prop:=(x.files.length≤Lm∧ ∀ y ∈ x.files,wFl y)∧wDb x.db∧(x.lines.length≤Lm∧ ∀ y ∈ x.lines,wS y)∧wS x.out
theorem qcP(τ:Bool) (x:Se):qM τ (oSe x)=iSe τ x:=by simp only [oSe,iSe,go_sem]
theorem qd6(x:Se):qP (oSe x)=true:=by simp only [oSe,go_sem]
theorem qd2(x:Se):qP (iSe false x)=true:=by simp only [iSe,go_sem]
@[go_sem] theorem qA5(τ:Bool) (x:Se):qZ (iSe τ x)=true:=rfl
@[go_sem] theorem qru(m:Nat) (T:Mem) (τ:Bool) (x:Se):qq (m+2) T (iSe τ x)=(iSe τ x,T):=rfl
@[go_sem] theorem qrM(τ τ':Bool) (x:Se):qM τ (iSe τ' x)=iSe τ' x:=rfl
@[go_sem] theorem quV(d:Nat) (τ:Bool) (x:Se):qA d (iSe τ x)=iSe τ x:=rfl
@[go_sem] theorem qsd(τ:Bool) (x:Se):yg (iSe τ x)=[]:=rfl
@[go_sem] theorem qur(τ:Bool) (x:Se):(iSe τ x).isA=true:=rfl
@[go_sem] theorem qvl(τ:Bool) (x:Se):qT true 5 (iSe τ x) 0=some (iSe τ x):=rfl
@[go_sem] theorem qqx(τ:Bool) (x:Se):(iSe τ x).cells=[.i τ (x.files.map (iFl τ)),.i τ (x.db.clauses.map (iCl τ)),.i τ (x.db.opn.map S),.i τ (x.lines.map S),S x.out]:=rfl
@[go_sem] theorem qcx(x:Se):clE (oSe x)=true:=rfl
@[go_sem] theorem qqL(τ:Bool) (x:Se):clE (iSe τ x)=true:=rfl
attribute [go_sem] qcP qd6 qd2
@[go_sem] theorem qrE(τ:Bool) (l:List Se):qO τ (l.map oSe)=l.map (iSe τ):=jY (qcP τ) l
@[go_sem] theorem qwQ(l:List Se):qW (l.map oSe)=true:=xK qd6 l
@[go_sem] theorem qwV(l:List Se):qW (l.map (iSe false))=true:=xK qd2 l
@[go_sem] theorem qcD(l:List Se):qu (l.map oSe)=true:=xS qcx l
@[go_sem] theorem qvy(m:Nat) (T:Mem) (l:List Se):qx (zt m) T (l.map oSe)=(l.map oSe,T):=kY m T _ (qcD l)
@[go_sem] theorem qzn(k:Key) (ob:Ob) (l:List Se):zD k ob (l.map oSe)=none:=QW k ob _ (qcD l)
@[go_sem] theorem quH(d:Nat) (l:List Se):qz d (l.map oSe)=l.map oSe:=kV qcx d l
end Go.Vm
namespace Go.Vm
theorem qbF(t:Tm) (v:V) (h:BT t v):Qu 4 v:=by
 obtain ⟨τ,vs,rfl,-⟩:=zm h;exact ⟨_,rfl,rfl,rfl⟩
theorem qg1(τ τ':Bool) (vs vs':List V) (ts ts':List Tm) (hv:RL BT ts vs) (hv':RL BT ts' vs') (hw:ts.length≤Lm)
 (hc: ∀ t ∈ ts,∀ t' v v',BT t v→BT t' v'→cr qj yX [v,v']=some (B (decide (t=t')))):
 cr qj JG [.i τ vs,.i τ' vs']=some (B (decide (ts=ts'))):=by
 have:=qg0 (prog:=qj) JG yX 4 rfl qbF τ τ' vs vs' ts ts' hv hv' hw (fun t ht t' v v' h h'=>by rw [hc t ht t' v v' h h'])
 rw [this]
theorem Kq: ∀ (t:Tm),WT t→ ∀ t' v v',BT t v→BT t' v'→cr qj yX [v,v']=some (B (decide (t=t'))):=by
 refine xh ?_
 intro k s n ks ih hw t' v v' hb hb'
 obtain ⟨k',s',n',ks'⟩:=t'
 obtain ⟨τ,vs,rfl,hv⟩:=zm hb
 obtain ⟨τ',vs',rfl,hv'⟩:=zm hb'
 have h:=qg1 τ τ' vs vs' ks ks' hv hv' (xy hw) (fun t ht=>ih t ht (yG hw t ht))
 rw [qF qjv rfl]
 simp only [go_sem,qa,qb,qc,qd,qe,qf,reduceCtorEq,Zb,h,Tm.mk.injEq]
 by_cases e1:k=k'<;>by_cases e2:s=s'<;>by_cases e3:n=n'<;>by_cases e4:ks=ks'<;>simp [e1,e2,e3,e4]
theorem qfE: ∀ (t:Tm),WT t→ ∀ v left,BT t v→ ∃ m,cr qj Zt [v,I left]=some (I m):=by
 refine xh ?_
 intro k s n ks ih hw v left hb
 obtain ⟨τ,vs,rfl,hv⟩:=zm hb
 rw [qF qjD rfl]
 by_cases h1:w64 (left - s.length) < 0
 ·simp only [go_sem,qa,qb,qc,qd,qe,qf,reduceCtorEq,jJ,h1];exact ⟨_,rfl⟩
 ·obtain ⟨m,hm⟩:=qlI (prog:=qj) qbJ Zt 4 rfl qbF τ vs ks hv (xy hw) (fun t ht v left h=>ih t ht (yG hw t ht) v left h) (w64 (left - s.length))
  by_cases h2:m < 0
  ·simp only [go_sem,qa,qb,qc,qd,qe,qf,reduceCtorEq,jJ,h1,hm,h2];exact ⟨_,rfl⟩
  ·simp only [go_sem,qa,qb,qc,qd,qe,qf,reduceCtorEq,jJ,h1,hm,h2];exact ⟨_,rfl⟩
end Go.Vm
namespace Go.Vm
theorem qlP(τ:Bool) (vs:List V) (ts:List Tm) (n:Nat) (hl:ts.length=n) (hv:RL BT ts vs) (hlim:n≤Lm)
 (hc: ∀ t ∈ ts,∀ v,BT t v→cr qj Qs [v]=some (oT t)) (m:Nat): ∀ i,i+m=n→
 lw qj YS ⟨[(0,.i τ vs),(3,.s (100000,0) 0 n),(4,I i)],[((100000,0),4,(ts.take i).map oT++List.replicate m (.a [I 0,S [],I 0,.n 4]))]⟩=
  some (.exit 0,⟨[(3,.s (100000,0) 0 n)],[((100000,0),4,ts.map oT)]⟩):=by
 unfold Lm at hlim
 have hn:=zE hv
 rw [hl]at hn
 induction m with
 |zero=>
  intro i hi
  obtain rfl:i=n:=by omega
  rw [qY]
  have h1: ¬ (i:Int) < (i:Int):=by omega
  have h2:(ts.take i).map oT++List.replicate 0 (V.a [I 0,S [],I 0,.n 4])=ts.map oT:=by simp [List.take_of_length_le (Nat.le_of_eq hl)]
  rw [h2]
  simp only [go_sem,qa,qb,qc,qd,qe,qf,reduceCtorEq,X7,hn,h1]
 |succ m ih=>
  intro i hi
  rw [qY]
  have hlt:(i:Int) < (n:Int):=by omega
  obtain ⟨t,ht⟩:=xX (l:=ts) (i:=i) (by omega)
  obtain ⟨v,g,hb⟩:=ko hv ht
  have hcc:=hc t (List.mem_of_getElem? ht) v hb
  have a1:=zL (τ:=τ) (T:=[((100000,0),4,(ts.take i).map oT++List.replicate (m+1) (V.a [I 0,S [],I 0,.n 4]))]) g (kg hb)
  have e1:w64 ((i:Int)+1)=((i+1:Nat):Int):=by rw [zn]<;>omega
  have r1:=qkF (f:=oT) (z:=V.a [I 0,S [],I 0,.n 4]) ts i (m+1) n hi hl
  have r2:=qkE (f:=oT) (z:=V.a [I 0,S [],I 0,.n 4]) ts i m (by omega)
  have r3:=fun x=>qkH (f:=oT) (z:=V.a [I 0,S [],I 0,.n 4]) (x:=x) ts i m (by omega)
  have r4:=qkG (f:=oT) ht (List.replicate m (V.a [I 0,S [],I 0,.n 4]))
  have i1:=ih (i+1) (by omega)
  obtain ⟨σ1,ks,rfl,-⟩:=zm hb
  rw [qX]at hcc r4
  have kl: ∀ d,qz d ((ts.take i).map oT++List.replicate (m+1) (V.a [I 0,S [],I 0,.n 4]))=(ts.take i).map oT++List.replicate (m+1) (V.a [I 0,S [],I 0,.n 4]):=fun d=>by
   rw [KF,qht,KH];rfl
  have ix:=qdu (k:=(100000,0)) (e:=4) (xs:=(ts.take i).map oT++List.replicate (m+1) (V.a [I 0,S [],I 0,.n 4])) (i:=i) (len:=n) (by omega) (by omega)
  have rp:=fun k ob (y:V) (ys:List V)=>Jc k ob ((ts.take i).map oT) (y::ys) (Y7 _)
  simp only [go_sem,qa,qb,qc,qd,qe,qf,reduceCtorEq,X7,hn,hlt,a1,g,hcc,e1,kl,ix,r1,r2,r3,rp,Option.map_some,r4]
  exact i1
theorem qlQ(τ:Bool) (vs:List V) (ts:List Tm) (hv:RL BT ts vs) (hlim:ts.length≤Lm)
 (hc: ∀ t ∈ ts,∀ v,BT t v→cr qj Qs [v]=some (oT t)):cr qj JH [.i τ vs]=some (.o 4 (ts.map oT)):=by
 rw [qF qjG rfl]
 have h:=qlP τ vs ts ts.length rfl hv hlim hc ts.length 0 (by omega)
 simp only [Int.natCast_zero,List.take_zero,List.map_nil,List.nil_append]at h
 unfold Lm at hlim
 have mk:=fun σ T=>qiX (σ:=σ) (T:=T) (e:=4) (bytes:=56) (z:=V.a [I 0,S [],I 0,.n 4]) (n:=ts.length) (d:=7) (by rw [kX];omega) (by rw [kX];omega) rfl rfl rfl
 simp only [go_sem,qa,qb,qc,qd,qe,qf,reduceCtorEq,Zj,zE hv,mk,h]
theorem qfL: ∀ (t:Tm),WT t→ ∀ v,BT t v→cr qj Qs [v]=some (oT t):=by
 refine xh ?_
 intro k s n ks ih hw v hb
 obtain ⟨τ,vs,rfl,hv⟩:=zm hb
 have h:=qlQ τ vs ks hv (xy hw) (fun t ht=>ih t ht (yG hw t ht))
 rw [qF qjF rfl,qX]
 simp only [go_sem,qa,qb,qc,qd,qe,qf,reduceCtorEq,Zi,h]
end Go.Vm
namespace Go.Vm
theorem QH {α:Type} {f:α→V} {l:List α} {i:Nat} {x:α} (h:l[i]? =some x):(l.map f)[i]? =some (f x):=by simp [h]
end Go.Vm
namespace Go.Vm
theorem qlG(x:Cl) (hw:wCl x) (v:V) (left:Int) (h:bCl x v): ∃ m,cr qj XV [v,I left]=some (I m):=by
 obtain ⟨τ0,vs0,τ1,vs1,rfl,h0,h1⟩:=h
 rw [qF qjC rfl]
 obtain ⟨m1,e1⟩:=qfE x.head (hw.1).1 _ left (ki (τ:=τ0) h0)
 by_cases n1:m1 < 0
 ·simp only [go_sem,qa,qb,qc,qd,qe,qf,reduceCtorEq,ji,e1,n1];exact ⟨_,rfl⟩
 obtain ⟨m2,e2⟩:=qfE x.body (hw.2.1).1 _ m1 (ki (τ:=τ1) h1)
 by_cases n2:m2 < 0
 ·simp only [go_sem,qa,qb,qc,qd,qe,qf,reduceCtorEq,ji,e1,n1,e2,n2];exact ⟨_,rfl⟩
 by_cases n3:w64 (m2 - x.file.length) < 0
 ·simp only [go_sem,qa,qb,qc,qd,qe,qf,reduceCtorEq,ji,e1,n1,e2,n2,n3];exact ⟨_,rfl⟩
 simp only [go_sem,qa,qb,qc,qd,qe,qf,reduceCtorEq,ji,e1,n1,e2,n2,n3];exact ⟨_,rfl⟩
theorem qlO(x:Cl) (hw:wCl x) (v:V) (h:bCl x v):cr qj Qr [v]=some (oCl x):=by
 obtain ⟨τ0,vs0,τ1,vs1,rfl,h0,h1⟩:=h
 have e1:=qfL x.head (hw.1).1 _ (ki (τ:=τ0) h0)
 rw [qX]at e1
 have e2:=qfL x.body (hw.2.1).1 _ (ki (τ:=τ1) h1)
 rw [qX]at e2
 rw [qF qjE rfl,oCl]
 simp only [go_sem,qa,qb,qc,qd,qe,qf,reduceCtorEq,Zh,e1,e2]
theorem qgY(x:Cl) (hw:wCl x) (y:Cl) (v v':V) (h:bCl x v) (h':bCl y v'):cr qj XT [v,v']=some (B (decide (x=y))):=by
 obtain ⟨τ0,vs0,τ1,vs1,rfl,h0,h1⟩:=h
 obtain ⟨τ0',vs0',τ1',vs1',rfl,h0',h1'⟩:=h'
 have e1:=Kq x.head (hw.1).1 y.head _ _ (ki (τ:=τ0) h0) (ki (τ:=τ0') h0')
 have e2:=Kq x.body (hw.2.1).1 y.body _ _ (ki (τ:=τ1) h1) (ki (τ:=τ1') h1')
 rw [qF qju rfl]
 by_cases c0:x.head=y.head
 case neg=>
  have d0:decide (x.head=y.head)=false:=decide_eq_false c0
  have hf:decide (x=y)=false:=decide_eq_false fun h=>c0 (by rw [h])
  simp only [go_sem,qa,qb,qc,qd,qe,qf,reduceCtorEq,jh,e1,e2,d0,hf]
 have d0:decide (x.head=y.head)=true:=decide_eq_true c0
 by_cases c1:x.body=y.body
 case neg=>
  have d1:decide (x.body=y.body)=false:=decide_eq_false c1
  have hf:decide (x=y)=false:=decide_eq_false fun h=>c1 (by rw [h])
  simp only [go_sem,qa,qb,qc,qd,qe,qf,reduceCtorEq,jh,e1,e2,d0,d1,hf]
 have d1:decide (x.body=y.body)=true:=decide_eq_true c1
 by_cases c2:x.file=y.file
 case neg=>
  have d2:decide (x.file=y.file)=false:=decide_eq_false c2
  have hf:decide (x=y)=false:=decide_eq_false fun h=>c2 (by rw [h])
  simp only [go_sem,qa,qb,qc,qd,qe,qf,reduceCtorEq,jh,e1,e2,d0,d1,d2,hf]
 have d2:decide (x.file=y.file)=true:=decide_eq_true c2
 have hf:decide (x=y)=true:=decide_eq_true (by cases x;cases y;simp only at c0 c1 c2;simp only [Cl.mk.injEq];exact ⟨c0,c1,c2⟩)
 simp only [go_sem,qa,qb,qc,qd,qe,qf,reduceCtorEq,jh,e1,e2,d0,d1,d2,hf]
end Go.Vm
namespace Go.Vm
def qdq(n:Int):Nat→List Int→Int
 |_,[]=> -1
 |i,x::xs=>if n=x then (i:Int)else qdq n (i+1) xs
end Go.Vm
namespace Go.Vm
mutual
def Y0(l:List Int):Tm→List Int
 | .mk k _ n ks=>Y1 (if k=1∧n ∉ l then l++[n]else l) ks
def Y1(l:List Int):List Tm→List Int
 |[]=>l
 |t::ts=>Y1 (Y0 l t) ts
end
def qlW(t:Tm):List Int:=Y0 [] t
mutual
theorem qf7: ∀ (t:Tm) (l:List Int),(Y0 l t).length≤l.length+nT t
 | .mk k s n ks,l=>by
   simp only [Y0,nT]
   have:=qb0 ks (if k=1∧n ∉ l then l++[n]else l)
   have h2:(if k=1∧n ∉ l then l++[n]else l).length≤l.length+1:=by split<;>simp
   omega
theorem qb0: ∀ (ts:List Tm) (l:List Int),(Y1 l ts).length≤l.length+nTs ts
 |[],l=>by simp [Y1,nTs]
 |t::ts,l=>by
  simp only [Y1,nTs]
  have:=qf7 t l
  have:=qb0 ts (Y0 l t)
  omega
end
end Go.Vm
namespace Go.Vm
def kq(caps:List V):Prop:= ∀ c ∈ caps,∃ xs i o,c= .q true xs i o
theorem qbp {caps:List V} (h:kq caps) (m:Nat) (T:Mem):qx (qq (m+1)) T caps=(caps,T):=by
 induction caps with
 |nil=>rfl
 |cons c cs ih=>
  obtain ⟨xs,i,o,rfl⟩:=h c (by simp)
  simp only [qx,qcF,ih fun u hu=>h u (by simp [hu])]
theorem qbq {caps:List V} (h:kq caps) (τ:Bool):qO τ caps=caps:=by
 induction caps with
 |nil=>rfl
 |cons c cs ih=>
  obtain ⟨xs,i,o,rfl⟩:=h c (by simp)
  simp only [qO,qM,ih fun u hu=>h u (by simp [hu])]
theorem qbw {caps:List V} (h:kq caps):ya caps=true:=by
 induction caps with
 |nil=>rfl
 |cons c cs ih=>
  obtain ⟨xs,i,o,rfl⟩:=h c (by simp)
  simp only [ya,qZ,ih fun u hu=>h u (by simp [hu]),Bool.and_self]
theorem qbs {caps:List V} (h:kq caps) (d:Nat):qz d caps=caps:=by
 induction caps with
 |nil=>rfl
 |cons c cs ih=>
  obtain ⟨xs,i,o,rfl⟩:=h c (by simp)
  simp only [qz,qA,ih fun u hu=>h u (by simp [hu])]
theorem qbr {caps:List V} (h:kq caps):j1 caps=[]:=by
 induction caps with
 |nil=>rfl
 |cons c cs ih=>
  obtain ⟨xs,i,o,rfl⟩:=h c (by simp)
  simp only [j1,yg,ih fun u hu=>h u (by simp [hu]),List.append_nil]
theorem qbt {caps:List V} (h:kq caps) (d i:Nat) (nm:Bool):zN d i nm caps=caps:=by
 induction caps generalizing i with
 |nil=>rfl
 |cons c cs ih=>
  obtain ⟨xs,a,o,rfl⟩:=h c (by simp)
  simp only [zN,qi5,ih (fun u hu=>h u (by simp [hu]))]
theorem qbv {caps:List V} (h:kq caps) (tb:List Key):zV tb caps=caps:=by
 induction caps with
 |nil=>rfl
 |cons c cs ih=>
  obtain ⟨xs,i,o,rfl⟩:=h c (by simp)
  simp only [zV,qkw,ih fun u hu=>h u (by simp [hu])]
theorem qbu {caps:List V} (h:kq caps) (d j:Nat):zb d j caps=(caps,j,[]):=by
 induction caps generalizing j with
 |nil=>rfl
 |cons c cs ih=>
  obtain ⟨xs,i,o,rfl⟩:=h c (by simp)
  simp only [zb,qje,ih (fun u hu=>h u (by simp [hu])),List.append_nil]
theorem qft {caps:List V} (h:kq caps) (T:Mem):xr T caps=caps:=by
 induction caps with
 |nil=>rfl
 |cons c cs ih=>
  obtain ⟨xs,i,o,rfl⟩:=h c (by simp)
  simp only [xr,qcF,qM,ih fun u hu=>h u (by simp [hu])]
@[go_sem] theorem qz4 {α β:Type} {f:α→β} {g:β→V} {l:List α}:((l.map f).map g).take l.length=(l.map f).map g:=by
 apply List.take_of_length_le;simp
mutual
def rnm(φ:Int→Int):Tm→Tm
 | .mk k s n ks=> .mk k s (if k=1 then φ n else n) (Jg φ ks)
def Jg(φ:Int→Int):List Tm→List Tm
 |[]=>[]
 |t::ts=>rnm φ t::Jg φ ts
end
theorem qbf(φ:Int→Int): ∀ (ts:List Tm),Jg φ ts=ts.map (rnm φ)
 |[]=>rfl
 |t::ts=>by simp only [Jg,List.map_cons,qbf φ ts]
theorem qkC(φ:Int→Int) (t:Tm):rnm φ t= .mk t.kind t.name (if t.kind=1 then φ t.num else t.num) (t.kids.map (rnm φ)):=by
 cases t;simp only [rnm,qbf];rfl
theorem qiS {α β:Type} (f:α→β) {ts:List α} {i:Nat} {t:α} (h:ts[i]? =some t):(ts.take i).map f++[f t]=(ts.take (i+1)).map f:=by
 rw [List.take_succ_eq_append_getElem (List.getElem?_eq_some_iff.1 h).1]
 simp [(List.getElem?_eq_some_iff.1 h).2]
theorem qkx(g:Nat) (caps:List V) (hs:kq caps) (φ:Int→Int) (τ:Bool) (vs:List V) (ts:List Tm) (hv:RL BT ts vs) (hlim:ts.length≤Lm) (k num:Int) (s:Str)
 (hc: ∀ t ∈ ts,∀ v,BT t v→cr qj Zs [v,.f (.func g) [] caps]=some (oT (rnm φ t))):
 lw qj Zy ⟨[(1,.f (.func g) [] caps),(4,.p (100000,0) 0 0),(5,.p (100000,1) 0 0),(19,.i τ vs),(20,I ts.length),(21,I 0)],
  [((100000,0),4,[.a [I 0,S [],I 0,.s (100000,2) 0 0]]),((100000,1),4,[.a [I k,S s,I num,.s (100000,3) 0 0]]),((100000,2),4,[]),((100000,3),4,[])]⟩=
  some (.exit 0,⟨[(4,.p (100000,0) 0 0),(5,.p (100000,1) 0 0)],
   [((100000,0),4,[.a [I 0,S [],I 0,.s (100000,2) 0 0]]),((100000,1),4,[.a [I k,S s,I num,.s (100000,3) 0 ts.length]]),((100000,2),4,[]),((100000,3),4,(ts.map (rnm φ)).map oT)]⟩):=by
 unfold Lm at hlim
 refine ju ts (fun i r=> ∀ acc:List Tm,acc.length=i→lw qj Zy ⟨[(1,.f (.func g) [] caps),(4,.p (100000,0) 0 0),(5,.p (100000,1) 0 0),(19,.i τ vs),(20,I ts.length),(21,I i)],
  [((100000,0),4,[.a [I 0,S [],I 0,.s (100000,2) 0 0]]),((100000,1),4,[.a [I k,S s,I num,.s (100000,3) 0 acc.length]]),((100000,2),4,[]),((100000,3),4,acc.map oT)]⟩=
  some (.exit 0,⟨[(4,.p (100000,0) 0 0),(5,.p (100000,1) 0 0)],
   [((100000,0),4,[.a [I 0,S [],I 0,.s (100000,2) 0 0]]),((100000,1),4,[.a [I k,S s,I num,.s (100000,3) 0 ts.length]]),((100000,2),4,[]),((100000,3),4,(acc++r.map (rnm φ)).map oT)]⟩)) (by omega) ?_ ?_ [] rfl
 ·intro acc ha
  rw [qY]
  simp only [go_sem,qa,qb,qc,qd,qe,qf,reduceCtorEq,X4,ha,List.map_nil]
 ·intro i t r ht hi hlt e1 hir hm hr ih acc ha
  obtain ⟨v,gv,hbt⟩:=ko hv ht
  have hcc:=hc t hm v hbt
  have a1:=fun T=>zL (τ:=τ) (T:=T) gv (kg hbt)
  have i1:=ih (acc++[rnm φ t]) (by simp;omega)
  obtain ⟨σ1,ks,rfl,-⟩:=zm hbt
  rw [qX]at hcc
  have b1:(acc.length+1)*56≤lim:=by rw [kX];omega
  have b2:acc.length+1≤lim:=by rw [kX];omega
  have rp:=fun k ob (y:V) (ys:List V)=>Jc k ob (acc.map oT) (y::ys) (Y7 _)
  simp only [List.length_append,List.length_cons,List.length_nil,Nat.zero_add]at i1
  rw [qY]
  simp only [go_sem,qa,qb,qc,qd,qe,qf,reduceCtorEq,X4,hlt,a1,gv,rp,hcc,e1,qbp hs,qbq hs,qbw hs,qbs hs,qbr hs,qbt hs,qbv hs,qbu hs,b1,b2,List.map_cons]
  rw [i1]
  simp
theorem qky(g:Nat) (caps:List V) (hs:kq caps) (φ:Int→Int) (hg: ∀ n,cr qj g ([I n]++caps)=some (I (φ n))):
 ∀ (t:Tm),WT t→ ∀ v,BT t v→cr qj Zs [v,.f (.func g) [] caps]=some (oT (rnm φ t)):=by
 refine xh ?_
 intro k s n ks ih hw v hbt
 obtain ⟨τ,vs,rfl,hv⟩:=zm hbt
 rw [qF qjp rfl,qkC,qX]
 have hlp:=fun num=>qkx g caps hs φ τ vs ks hv (xy hw) k num s (fun t ht v hb=>ih t ht (yG hw t ht) v hb)
 have hg':=hg n
 simp only [List.cons_append,List.nil_append]at hg'
 by_cases h1:k=1
 ·subst h1
  have h:=hlp (φ n)
  simp only [go_sem,qa,qb,qc,qd,qe,qf,reduceCtorEq,Qh,zE hv,h,hg',qbp hs,qbq hs,qbw hs,qbs hs,qbr hs,qbt hs,qbv hs,qbu hs,qft hs]
 ·have h:=hlp n
  simp only [go_sem,qa,qb,qc,qd,qe,qf,reduceCtorEq,Qh,zE hv,h,h1,qbp hs,qbq hs,qbw hs,qbs hs,qbr hs,qbt hs,qbv hs,qbu hs,qft hs]
end Go.Vm
namespace Go.Vm
theorem qdI {α:Type} {f:α→α}: ∀ {l:List α},(∀ x ∈ l,f x=x)→l.map f=l
 |[],_=>rfl
 |x::l,h=>by rw [List.map_cons,h x (by simp),qdI fun u hu=>h u (by simp [hu])]
theorem qkB: ∀ (t:Tm),rnm (fun n=>n) t=t:=by
 refine xh ?_
 intro k s n ks ih
 simp only [rnm,qbf,qdI ih,ite_self]
theorem qgF(n:Int):cr qj YE [I n]=some (I n):=by
 rw [qF qjn rfl]
 simp only [go_sem,qa,qb,qc,qd,qe,qf,reduceCtorEq,Q8]
theorem qgG(t:Tm) (hw:WT t) (v:V) (hb:BT t v):cr qj JE [v]=some (oT t):=by
 have h:=qky YE [] (fun _ h=>by cases h) (fun n=>n) (fun n=>qgF n) t hw v hb
 rw [qkB]at h
 have h':cr qj Zs [v,Fc YE]=some (oT t):=h
 obtain ⟨τ,vs,rfl,hv⟩:=zm hb
 rw [qF qjm rfl,qX]
 rw [qX]at h'
 simp only [go_sem,qa,qb,qc,qd,qe,qf,reduceCtorEq,Q7,h']
def qhb(fr:Int) (l:List Int):Int→Int:=fun n=>w64 (fr+qdq n 0 l)
def qgu(c:Cl):Tm:= .mk 4 [58,45] 0 [c.head,c.body]
theorem qfB(s:Str) (xs:List V) (hc:qu xs=true):cw qj JF [S s,.o 4 xs]=some (.a [I 4,S s,I 0,.o 4 xs],[S s,.d]):=by
 rw [jZ qjr rfl]
 have hk: ∀ d,qz d xs=xs:=fun d=>j4 d xs hc
 simp only [go_sem,qa,qb,qc,qd,qe,qf,reduceCtorEq,Q9,z6,hc,hk]
def qi1(φ:Int→Int) (c:Cl):Cl:=⟨rnm φ c.head,rnm φ c.body,c.file⟩
def qvH(c:Cl):Cl:=qi1 (qhb 0 (qlW (qgu c))) c
end Go.Vm
namespace Go.Vm
theorem qiA(τ:Bool) (vs:List V) (ts:List Tm) (n:Nat) (hl:ts.length=n) (hv:RL BT ts vs) (hlim:n≤Lm)
 (hc: ∀ t ∈ ts,∀ v,BT t v→cr qj Qt [v]=some (oT t)) (m:Nat): ∀ i,i+m=n→
 lw qj YU ⟨[(0,.i τ vs),(3,.s (100000,0) 0 i),(4,I i)],[((100000,0),4,(ts.take i).map oT)]⟩=
  some (.exit 0,⟨[(3,.s (100000,0) 0 n)],[((100000,0),4,ts.map oT)]⟩):=by
 unfold Lm at hlim
 have hn:=zE hv
 rw [hl]at hn
 induction m with
 |zero=>
  intro i hi
  obtain rfl:i=n:=by omega
  rw [qY]
  have h1: ¬ (i:Int) < (i:Int):=by omega
  rw [List.take_of_length_le (Nat.le_of_eq hl)]
  simp only [go_sem,qa,qb,qc,qd,qe,qf,reduceCtorEq,X8,hn,h1]
 |succ m ih=>
  intro i hi
  rw [qY]
  have hlt:(i:Int) < (n:Int):=by omega
  obtain ⟨t,ht⟩:=xX (l:=ts) (i:=i) (by omega)
  obtain ⟨v,gv,hbt⟩:=ko hv ht
  have hcc:=hc t (List.mem_of_getElem? ht) v hbt
  have a1:=fun T=>zL (τ:=τ) (T:=T) gv (kg hbt)
  have e1:w64 ((i:Int)+1)=((i+1:Nat):Int):=by rw [zn]<;>omega
  have i1:=ih (i+1) (by omega)
  obtain ⟨σ1,ks,rfl,-⟩:=zm hbt
  rw [qX]at hcc
  have b1:(i+1)*56≤lim:=by rw [kX];omega
  have b2:i+1≤lim:=by rw [kX];omega
  have ln:(ts.take i).length=i:=by simp;omega
  have tk:(ts.take i).map oT=((ts.take i).map oT).take i:=
   (List.take_of_length_le (l:=(ts.take i).map oT) (by rw [List.length_map,ln];exact Nat.le_refl _)).symm
  have r4:(ts.take i).map oT++[oT t]=(ts.take (i+1)).map oT:=qiS oT ht
  rw [qX t]at r4
  simp only [go_sem,qa,qb,qc,qd,qe,qf,reduceCtorEq,X8,hn,hlt,a1,gv,hcc,e1, ← tk,r4,b1,b2,ln]
  exact i1
theorem qdD(τ:Bool) (vs:List V) (ts:List Tm) (hv:RL BT ts vs) (hlim:ts.length≤Lm)
 (hc: ∀ t ∈ ts,∀ v,BT t v→cr qj Qt [v]=some (oT t)):cr qj YM [.i τ vs]=some (.o 4 (ts.map oT)):=by
 rw [qF qj0 rfl]
 have h:=qiA τ vs ts ts.length rfl hv hlim hc ts.length 0 (by omega)
 simp only [Int.natCast_zero,List.take_zero,List.map_nil]at h
 simp only [go_sem,qa,qb,qc,qd,qe,qf,reduceCtorEq,Zr,h]
theorem KK: ∀ (t:Tm),WT t→ ∀ v,BT t v→cr qj Qt [v]=some (oT t):=by
 refine xh ?_
 intro k s n ks ih hw v hb
 obtain ⟨τ,vs,rfl,hv⟩:=zm hb
 have h:=qdD τ vs ks hv (xy hw) (fun t ht=>ih t ht (yG hw t ht))
 rw [qF qjZ rfl,qX]
 simp only [go_sem,qa,qb,qc,qd,qe,qf,reduceCtorEq,Zq,h]
end Go.Vm
namespace Go.Vm
end Go.Vm
namespace Go.Vm
theorem KJ(x lo hi:Int):cr qj Zu [I x,I lo,I hi]=some (B (decide (lo≤x∧x≤hi))):=by
 rw [qF qjQ rfl]
 by_cases h1:lo≤x<;>by_cases h2:x≤hi<;>simp only [go_sem,qa,qb,qc,qd,qe,qf,reduceCtorEq,Zn,h1,h2]
theorem XM(x lo hi:Int):cr qj Qq [I x,I lo,I hi]=some (B (decide (lo≤x∧x≤hi))):=by
 rw [qF qjs rfl]
 by_cases h1:lo≤x<;>by_cases h2:x≤hi<;>simp only [go_sem,qa,qb,qc,qd,qe,qf,reduceCtorEq,Za,h1,h2]
def KT(c:UInt8):Bool:=decide (33≤c.toNat∧c.toNat≤126∧c.toNat ≠ 39∧c.toNat ≠ 34)
def kD(s:Str):Bool:=s.all KT
def kZ(s:Str):Bool:=kD s&&decide (1≤s.length∧s.length≤20)
theorem qd9(c:UInt8):(KT c=true∧ ¬ (c.toNat:Int) < 33∧ ¬ (126:Int) < c.toNat∧decide ((c.toNat:Int)=39)=false∧decide ((c.toNat:Int)=34)=false)∨(KT c=false∧((c.toNat:Int) < 33∨ ¬ (c.toNat:Int) < 33∧((126:Int) < c.toNat∨ ¬ (126:Int) < c.toNat∧(decide ((c.toNat:Int)=39)=true∨decide ((c.toNat:Int)=39)=false∧decide ((c.toNat:Int)=34)=true)))):=by
 unfold KT
 by_cases h:33≤c.toNat∧c.toNat≤126∧c.toNat ≠ 39∧c.toNat ≠ 34
 ·left;exact ⟨decide_eq_true h,by omega,by omega,decide_eq_false (by omega),decide_eq_false (by omega)⟩
 ·right;refine ⟨decide_eq_false h, ?_⟩
  simp only [decide_eq_true_eq,decide_eq_false_iff_not]
  omega
theorem qir(s:Str) (hl:s.length≤2^61):
 lw qj ZB ⟨[(0,S s),(3,I 0)],[]⟩=if kD s=true then some (.exit 0,⟨[(0,S s)],[]⟩)else some (.ret,⟨[(2,B false)],[]⟩):=by
 refine ju s (fun i r=>lw qj ZB ⟨[(0,S s),(3,I i)],[]⟩=if kD r=true then some (.exit 0,⟨[(0,S s)],[]⟩)else some (.ret,⟨[(2,B false)],[]⟩)) (by omega) ?_ ?_
 ·rw [qY]
  simp only [go_sem,qa,qb,qc,qd,qe,qf,reduceCtorEq,jT,kD,List.all_nil]
 ·intro i c r ht hi hlt e1 hir hm hr ih
  have ix:=qdv (l:=s) (i:=(i:Int)) (c:=c) (by omega) (by simpa using ht)
  rw [qY]
  unfold kD at ih ⊢
  rcases qd9 c with ⟨h0,h1,h2,h3,h4⟩|⟨h0,h1|⟨h1,h2|⟨h2,h3|⟨h3,h4⟩⟩⟩⟩
  ·rw [List.all_cons,h0,Bool.true_and, ← ih]
   simp only [go_sem,qa,qb,qc,qd,qe,qf,reduceCtorEq,jT,hlt,ix,e1,h1,h2,h3,h4]
  ·simp only [go_sem,qa,qb,qc,qd,qe,qf,reduceCtorEq,jT,hlt,ix,e1,h1,List.all_cons,h0]
  ·simp only [go_sem,qa,qb,qc,qd,qe,qf,reduceCtorEq,jT,hlt,ix,e1,h1,h2,List.all_cons,h0]
  ·simp only [go_sem,qa,qb,qc,qd,qe,qf,reduceCtorEq,jT,hlt,ix,e1,h1,h2,h3,List.all_cons,h0]
  ·simp only [go_sem,qa,qb,qc,qd,qe,qf,reduceCtorEq,jT,hlt,ix,e1,h1,h2,h3,h4,List.all_cons,h0]
theorem qis(s:Str) (hl:s.length≤2^61):cr qj XX [S s]=some (B (kZ s)):=by
 rw [qF qjT rfl]
 have h:=qir s hl
 have h2:=KJ s.length 1 20
 have h3:decide ((1:Int)≤s.length∧(s.length:Int)≤20)=decide (1≤s.length∧s.length≤20):=decide_eq_decide.2 (by omega)
 rw [h3]at h2
 unfold kZ
 cases hb:kD s with
 |true=>rw [hb,if_pos rfl]at h;simp only [go_sem,qa,qb,qc,qd,qe,qf,reduceCtorEq,Ql,h,h2]
 |false=>rw [hb]at h;simp only [go_sem,qa,qb,qc,qd,qe,qf,reduceCtorEq,Ql,h]
theorem qhp(s:Str) (hl:s.length≤2^61):
 lw qj Zx ⟨[(0,S s),(3,I 0)],[]⟩=if kD s=true then some (.exit 0,⟨[(0,S s)],[]⟩)else some (.ret,⟨[(2,B false)],[]⟩):=by
 refine ju s (fun i r=>lw qj Zx ⟨[(0,S s),(3,I i)],[]⟩=if kD r=true then some (.exit 0,⟨[(0,S s)],[]⟩)else some (.ret,⟨[(2,B false)],[]⟩)) (by omega) ?_ ?_
 ·rw [qY]
  simp only [go_sem,qa,qb,qc,qd,qe,qf,reduceCtorEq,jS,kD,List.all_nil]
 ·intro i c r ht hi hlt e1 hir hm hr ih
  have ix:=qdv (l:=s) (i:=(i:Int)) (c:=c) (by omega) (by simpa using ht)
  have hc:=UInt8.toNat_lt c
  have hw:w64 (c.toNat:Int)=c.toNat:=by rw [zn]<;>omega
  have hin:=XM c.toNat 33 126
  rw [qY]
  unfold kD at ih ⊢
  rcases qd9 c with ⟨h0,h1,h2,h3,h4⟩|⟨h0,h1|⟨h1,h2|⟨h2,h3|⟨h3,h4⟩⟩⟩⟩
  ·rw [decide_eq_true (show (33:Int)≤c.toNat∧(c.toNat:Int)≤126 by first|omega|(simp only [decide_eq_true_eq,decide_eq_false_iff_not]at*;omega))]at hin
   rw [List.all_cons,h0,Bool.true_and, ← ih]
   simp only [go_sem,qa,qb,qc,qd,qe,qf,reduceCtorEq,jS,hlt,ix,e1,hw,hin,h1,h2,h3,h4]
  ·rw [decide_eq_false (show ¬ ((33:Int)≤c.toNat∧(c.toNat:Int)≤126)by omega)]at hin
   simp only [go_sem,qa,qb,qc,qd,qe,qf,reduceCtorEq,jS,hlt,ix,e1,hw,hin,List.all_cons,h0]
  ·rw [decide_eq_false (show ¬ ((33:Int)≤c.toNat∧(c.toNat:Int)≤126)by omega)]at hin
   simp only [go_sem,qa,qb,qc,qd,qe,qf,reduceCtorEq,jS,hlt,ix,e1,hw,hin,List.all_cons,h0]
  ·rw [decide_eq_true (show (33:Int)≤c.toNat∧(c.toNat:Int)≤126 by first|omega|(simp only [decide_eq_true_eq,decide_eq_false_iff_not]at*;omega))]at hin
   simp only [go_sem,qa,qb,qc,qd,qe,qf,reduceCtorEq,jS,hlt,ix,e1,hw,hin,h3,List.all_cons,h0]
  ·rw [decide_eq_true (show (33:Int)≤c.toNat∧(c.toNat:Int)≤126 by first|omega|(simp only [decide_eq_true_eq,decide_eq_false_iff_not]at*;omega))]at hin
   simp only [go_sem,qa,qb,qc,qd,qe,qf,reduceCtorEq,jS,hlt,ix,e1,hw,hin,h3,h4,List.all_cons,h0]
theorem qhq(s:Str) (hl:s.length≤2^61):cr qj XR [S s]=some (B (kZ s)):=by
 rw [qF qjo rfl]
 have h:=qhp s hl
 have h2:=XM s.length 1 20
 have h3:decide ((1:Int)≤s.length∧(s.length:Int)≤20)=decide (1≤s.length∧s.length≤20):=decide_eq_decide.2 (by omega)
 rw [h3]at h2
 unfold kZ
 cases hb:kD s with
 |true=>rw [hb,if_pos rfl]at h;simp only [go_sem,qa,qb,qc,qd,qe,qf,reduceCtorEq,Qg,h,h2]
 |false=>rw [hb]at h;simp only [go_sem,qa,qb,qc,qd,qe,qf,reduceCtorEq,Qg,h]
end Go.Vm
namespace Go.Vm
def QO(t:Tm):Bool:=
 if t.kind=1 then decide (0≤t.num∧t.num≤99999)&&(decide (t.name=[])&&decide ((t.kids.length:Int)=0))
 else if t.kind=2 then kZ t.name&&(decide (t.num=0)&&decide ((t.kids.length:Int)=0))
 else if t.kind=3 then decide (-999999999≤t.num∧t.num≤999999999)&&(decide (t.name=[])&&decide ((t.kids.length:Int)=0))
 else if t.kind=4 then kZ t.name&&(decide (t.num=0)&&decide (1≤(t.kids.length:Int)∧(t.kids.length:Int)≤5))
 else false
mutual
def yB:Int→Tm→Bool
 |d,.mk k s n ks=>decide (d≤40)&&(QO (.mk k s n ks)&&zG (d+1) ks)
def zG:Int→List Tm→Bool
 |_,[]=>true
 |d,t::ts=>yB d t&&zG d ts
end
def yU(t:Tm):Bool:=decide (nT t≤400)&&yB 1 t
theorem qit(t:Tm) (hn:t.name.length≤2^61) (v:V) (hb:BT t v):cr qj JR [v]=some (B (QO t)):=by
 obtain ⟨τ,vs,rfl,hv⟩:=zm hb
 have hl:=zE hv
 rw [qF qjU rfl]
 have i1:=KJ t.num 0 99999
 have i2:=KJ t.num (-999999999) 999999999
 have i3:=KJ t.kids.length 1 5
 have nm:=qis t.name hn
 unfold QO
 by_cases k1:t.kind=1
 ·have d1:decide (t.kind=1)=true:=decide_eq_true k1
  rw [if_pos k1]
  cases c1:decide (0≤t.num∧t.num≤99999)with
  |false=>rw [c1]at i1;simp only [go_sem,qa,qb,qc,qd,qe,qf,reduceCtorEq,yl,d1,i1]
  |true=>
   rw [c1]at i1
   cases c2:decide (t.name=[])with
   |false=>simp only [go_sem,qa,qb,qc,qd,qe,qf,reduceCtorEq,yl,d1,i1,c2]
   |true=>simp only [go_sem,qa,qb,qc,qd,qe,qf,reduceCtorEq,yl,d1,i1,c2,hl]
 rw [if_neg k1]
 have d1:decide (t.kind=1)=false:=decide_eq_false k1
 by_cases k2:t.kind=2
 ·have d2:decide (t.kind=2)=true:=decide_eq_true k2
  rw [if_pos k2]
  cases c1:kZ t.name with
  |false=>rw [c1]at nm;simp only [go_sem,qa,qb,qc,qd,qe,qf,reduceCtorEq,yl,d1,d2,nm]
  |true=>
   rw [c1]at nm
   cases c2:decide (t.num=0)with
   |false=>simp only [go_sem,qa,qb,qc,qd,qe,qf,reduceCtorEq,yl,d1,d2,nm,c2]
   |true=>simp only [go_sem,qa,qb,qc,qd,qe,qf,reduceCtorEq,yl,d1,d2,nm,c2,hl]
 rw [if_neg k2]
 have d2:decide (t.kind=2)=false:=decide_eq_false k2
 by_cases k3:t.kind=3
 ·have d3:decide (t.kind=3)=true:=decide_eq_true k3
  rw [if_pos k3]
  cases c1:decide (-999999999≤t.num∧t.num≤999999999)with
  |false=>rw [c1]at i2;simp only [go_sem,qa,qb,qc,qd,qe,qf,reduceCtorEq,yl,d1,d2,d3,i2]
  |true=>
   rw [c1]at i2
   cases c2:decide (t.name=[])with
   |false=>simp only [go_sem,qa,qb,qc,qd,qe,qf,reduceCtorEq,yl,d1,d2,d3,i2,c2]
   |true=>simp only [go_sem,qa,qb,qc,qd,qe,qf,reduceCtorEq,yl,d1,d2,d3,i2,c2,hl]
 rw [if_neg k3]
 have d3:decide (t.kind=3)=false:=decide_eq_false k3
 by_cases k4:t.kind=4
 ·have d4:decide (t.kind=4)=true:=decide_eq_true k4
  rw [if_pos k4]
  cases c1:kZ t.name with
  |false=>rw [c1]at nm;simp only [go_sem,qa,qb,qc,qd,qe,qf,reduceCtorEq,yl,d1,d2,d3,d4,nm]
  |true=>
   rw [c1]at nm
   cases c2:decide (t.num=0)with
   |false=>simp only [go_sem,qa,qb,qc,qd,qe,qf,reduceCtorEq,yl,d1,d2,d3,d4,nm,c2]
   |true=>simp only [go_sem,qa,qb,qc,qd,qe,qf,reduceCtorEq,yl,d1,d2,d3,d4,nm,c2,hl,i3]
 rw [if_neg k4]
 have d4:decide (t.kind=4)=false:=decide_eq_false k4
 simp only [go_sem,qa,qb,qc,qd,qe,qf,reduceCtorEq,yl,d1,d2,d3,d4]
mutual
def xj:Tm→Int→Int
 | .mk _ _ _ ks,r=>kx ks (r - 1)
def kx:List Tm→Int→Int
 |[],r=>r
 |t::ts,r=>if 0≤r then kx ts (xj t r)else r
end
mutual
theorem qab: ∀ (t:Tm) (r:Int),0≤r→(nT t≤r→xj t r=r - nT t)∧(¬ (nT t:Int)≤r→xj t r < 0∧ -1≤xj t r)
 | .mk k s n ks,r,h=>by
   have:=qac ks (r - 1) (by omega)
   simp only [xj,nT]
   refine ⟨fun h1=> ?_,fun h1=> ?_⟩
   ·rw [this.1 (by omega)];omega
   ·exact this.2 (by omega)
theorem qac: ∀ (ts:List Tm) (r:Int),-1≤r→(nTs ts≤r→kx ts r=r - nTs ts)∧(¬ (nTs ts:Int)≤r→kx ts r < 0∧ -1≤kx ts r)
 |[],r,h=>by simp only [kx,nTs];omega
 |t::ts,r,h=>by
  simp only [kx,nTs]
  by_cases h0:0≤r
  ·rw [if_pos h0]
   have h1:=qab t r h0
   have hp:=Xq t
   by_cases h2:(nT t:Int)≤r
   ·rw [h1.1 h2]
    have h3:=qac ts (r - nT t) (by omega)
    refine ⟨fun h4=> ?_,fun h4=> ?_⟩
    ·rw [h3.1 (by omega)];omega
    ·exact h3.2 (by omega)
   ·have h3:=h1.2 h2
    have h4:=qac ts (xj t r) h3.2
    refine ⟨fun h5=>by omega,fun h5=> ?_⟩
    exact h4.2 (by omega)
  ·rw [if_neg h0]
   have:=Xq t
   omega
end
theorem qgy(t:Tm) (r:Int) (h:0≤r): -1≤xj t r∧xj t r≤r:=by
 have h1:=qab t r h
 have:=Xq t
 by_cases h2:(nT t:Int)≤r
 ·rw [h1.1 h2];omega
 ·have:=h1.2 h2;omega
theorem qip(t:Tm) (τ:Bool) (vs:List V) (hv:RL BT t.kids vs) (hlim:t.kids.length≤Lm)
 (hc: ∀ u ∈ t.kids,∀ v r,BT u v→0≤r→r≤2^40→cr qj YJ [v,I r]=some (I (xj u r))): ∀ r:Int,-1≤r→r≤2^40→
 lw qj ZA ⟨[(1,I r),(2,.p (100000,0) 0 0),(5,I 0)],[((100000,0),4,[.a [I t.kind,S t.name,I t.num,.i τ vs]])]⟩=some (.exit 0,⟨[(1,I (kx t.kids r))],[((100000,0),4,[.a [I t.kind,S t.name,I t.num,.i τ vs]])]⟩):=by
 unfold Lm at hlim
 have hn:=zE hv
 refine ju t.kids (fun i ks=> ∀ r:Int,-1≤r→r≤2^40→lw qj ZA ⟨[(1,I r),(2,.p (100000,0) 0 0),(5,I i)],[((100000,0),4,[.a [I t.kind,S t.name,I t.num,.i τ vs]])]⟩=some (.exit 0,⟨[(1,I (kx ks r))],[((100000,0),4,[.a [I t.kind,S t.name,I t.num,.i τ vs]])]⟩)) (by omega) ?_ ?_
 ·intro r h1 h2
  rw [qY]
  simp only [go_sem,qa,qb,qc,qd,qe,qf,reduceCtorEq,YY,hn,kx]
 ·intro i u ks ht hi hlt e1 hir hm hr ih r h1 h2
  obtain ⟨v,gv,hbt⟩:=ko hv ht
  have a1:=fun T=>zL (τ:=τ) (T:=T) gv (kg hbt)
  rw [qY,kx]
  by_cases h0:0≤r
  ·have hcc:=hc u hm v r hbt h0 h2
   have hb:=qgy u r h0
   have i1:=ih (xj u r) hb.1 (by omega)
   obtain ⟨σ1,ws,rfl,-⟩:=zm hbt
   simp only [go_sem,qa,qb,qc,qd,qe,qf,reduceCtorEq,YY,hn,hlt,h0,a1,gv,hcc,e1]
   exact i1
  ·simp only [go_sem,qa,qb,qc,qd,qe,qf,reduceCtorEq,YY,hn,hlt,h0]
theorem qiq: ∀ (t:Tm),WT t→ ∀ v r,BT t v→0≤r→r≤2^40→cr qj YJ [v,I r]=some (I (xj t r)):=by
 refine xh ?_
 intro k s n ks ih hw v r hb h0 h1
 obtain ⟨τ,vs,rfl,hv⟩:=zm hb
 have e1:w64 (r - 1)=r - 1:=by rw [zn]<;>omega
 have h:=qip (.mk k s n ks) τ vs hv (xy hw) (fun u hu=>ih u hu (yG hw u hu)) (r - 1) (by omega) (by omega)
 simp only [yD,yE,yF,ye]at h
 rw [qF qjS rfl,xj]
 simp only [go_sem,qa,qb,qc,qd,qe,qf,reduceCtorEq,Zp,e1,h]
theorem qiu(t:Tm) (τ:Bool) (vs:List V) (hv:RL BT t.kids vs) (hlim:t.kids.length≤Lm) (d:Int) (hd0:0≤d) (hd:d≤40)
 (hc: ∀ u ∈ t.kids,∀ v,BT u v→cr qj YK [v,I (d+1)]=some (B (yB (d+1) u))):
 lw qj ZC ⟨[(1,I d),(2,.p (100000,0) 0 0),(5,I 0)],[((100000,0),4,[.a [I t.kind,S t.name,I t.num,.i τ vs]])]⟩=if zG (d+1) t.kids=true then some (.exit 0,⟨[],[((100000,0),4,[.a [I t.kind,S t.name,I t.num,.i τ vs]])]⟩)else some (.ret,⟨[(4,B false)],[((100000,0),4,[.a [I t.kind,S t.name,I t.num,.i τ vs]])]⟩):=by
 unfold Lm at hlim
 have hn:=zE hv
 refine ju t.kids (fun i ks=>lw qj ZC ⟨[(1,I d),(2,.p (100000,0) 0 0),(5,I i)],[((100000,0),4,[.a [I t.kind,S t.name,I t.num,.i τ vs]])]⟩=if zG (d+1) ks=true then some (.exit 0,⟨[],[((100000,0),4,[.a [I t.kind,S t.name,I t.num,.i τ vs]])]⟩)else some (.ret,⟨[(4,B false)],[((100000,0),4,[.a [I t.kind,S t.name,I t.num,.i τ vs]])]⟩)) (by omega) ?_ ?_
 ·rw [qY]
  simp only [go_sem,qa,qb,qc,qd,qe,qf,reduceCtorEq,YZ,hn,zG]
 ·intro i u ks ht hi hlt e1 hir hm hr ih
  obtain ⟨v,gv,hbt⟩:=ko hv ht
  have a1:=fun T=>zL (τ:=τ) (T:=T) gv (kg hbt)
  have hcc:=hc u hm v hbt
  have e2:w64 (d+1)=d+1:=by rw [zn]<;>omega
  obtain ⟨σ1,ws,rfl,-⟩:=zm hbt
  rw [qY,zG]
  cases hr:yB (d+1) u with
  |true=>
   rw [hr]at hcc
   rw [Bool.true_and, ← ih]
   simp only [go_sem,qa,qb,qc,qd,qe,qf,reduceCtorEq,YZ,hn,hlt,a1,gv,hcc,e1,e2]
  |false=>
   rw [hr]at hcc
   simp only [go_sem,qa,qb,qc,qd,qe,qf,reduceCtorEq,YZ,hn,hlt,a1,gv,hcc,e1,e2]
theorem qiv: ∀ (t:Tm),WT t→ ∀ (d:Int) v,0≤d→d≤41→BT t v→cr qj YK [v,I d]=some (B (yB d t)):=by
 refine xh ?_
 intro k s n ks ih hw d v h0 h1 hb
 have ho:=qit (.mk k s n ks) (by have:=Kb hw;unfold Lm at this;omega) v hb
 obtain ⟨τ,vs,rfl,hv⟩:=zm hb
 simp only [yD,yE,yF,ye]at ho
 rw [qF qjV rfl,yB]
 by_cases hd:40 < d
 ·have:decide (d≤40)=false:=decide_eq_false (by omega)
  simp only [go_sem,qa,qb,qc,qd,qe,qf,reduceCtorEq,jk,hd,this]
 ·have hdt:decide (d≤40)=true:=decide_eq_true (by omega)
  cases h2:QO (.mk k s n ks)with
  |false=>
   rw [h2]at ho
   simp only [go_sem,qa,qb,qc,qd,qe,qf,reduceCtorEq,jk,hd,hdt,ho]
  |true=>
   rw [h2]at ho
   have h:=qiu (.mk k s n ks) τ vs hv (xy hw) d h0 (by omega) (fun u hu v hb=>ih u hu (yG hw u hu) (d+1) v (by omega) (by omega) hb)
   simp only [yD,yE,yF,ye]at h
   cases h3:zG (d+1) ks with
   |true=>rw [h3,if_pos rfl]at h;simp only [go_sem,qa,qb,qc,qd,qe,qf,reduceCtorEq,jk,hd,hdt,ho,h]
   |false=>rw [h3]at h;simp only [go_sem,qa,qb,qc,qd,qe,qf,reduceCtorEq,jk,hd,hdt,ho,h]
theorem qlx(t:Tm) (hw:WT t) (v:V) (hb:BT t v):cr qj JO [v]=some (B (yU t)):=by
 have h1:=qiq t hw v 400 hb (by decide) (by decide)
 have h2:=qiv t hw 1 v (by decide) (by decide) hb
 have hc:=qab t 400 (by decide)
 obtain ⟨τ,vs,rfl,hv⟩:=zm hb
 rw [qF qjO rfl]
 unfold yU
 by_cases h:nT t≤400
 ·have h3:0≤xj t 400:=by rw [hc.1 (by omega)];omega
  have h4:decide (nT t≤400)=true:=decide_eq_true h
  simp only [go_sem,qa,qb,qc,qd,qe,qf,reduceCtorEq,Qk,h1,h2,h3,h4]
 ·have h3: ¬ 0≤xj t 400:=by have:=(hc.2 (by omega)).1;omega
  have h4:decide (nT t≤400)=false:=decide_eq_false h
  simp only [go_sem,qa,qb,qc,qd,qe,qf,reduceCtorEq,Qk,h1,h3,h4]
end Go.Vm
set_option maxHeartbeats 4000000
namespace Go.Vm
def szI(d:Int) (t:Tm):Int:=if yB d t=true∧nT t≤400 then nT t else 401
theorem qfD(d:Int) (t:Tm):1≤szI d t∧szI d t≤401:=by
 have:=Xq t
 unfold szI
 split<;>omega
theorem qlo(t:Tm) (τ:Bool) (vs:List V) (hv:RL BT t.kids vs) (hlim:t.kids.length≤Lm) (d:Int) (hd0:0≤d) (hd:d≤40)
 (hc: ∀ u ∈ t.kids,∀ v,BT u v→cr qj YF [v,I (d+1)]=some (I (szI (d+1) u))): ∀ n:Int,0≤n→n≤400→
 (zG (d+1) t.kids=true∧n+(nTs t.kids:Int)≤400→lw qj kJ ⟨[(1,I d),(5,I n),(82,.i τ vs),(83,I t.kids.length),(84,I 0)],[]⟩=some (.exit 1,⟨[(5,I (n+(nTs t.kids:Int)))],[]⟩))∧(¬ (zG (d+1) t.kids=true∧n+(nTs t.kids:Int)≤400)→ ∃ T,lw qj kJ ⟨[(1,I d),(5,I n),(82,.i τ vs),(83,I t.kids.length),(84,I 0)],[]⟩=some (.ret,⟨[(4,I 401)],T⟩)):=by
 unfold Lm at hlim
 have hn:=zE hv
 refine ju t.kids (fun i ks=> ∀ n:Int,0≤n→n≤400→(zG (d+1) ks=true∧n+(nTs ks:Int)≤400→lw qj kJ ⟨[(1,I d),(5,I n),(82,.i τ vs),(83,I t.kids.length),(84,I i)],[]⟩=some (.exit 1,⟨[(5,I (n+(nTs ks:Int)))],[]⟩))∧(¬ (zG (d+1) ks=true∧n+(nTs ks:Int)≤400)→ ∃ T,lw qj kJ ⟨[(1,I d),(5,I n),(82,.i τ vs),(83,I t.kids.length),(84,I i)],[]⟩=some (.ret,⟨[(4,I 401)],T⟩))) (by omega) ?_ ?_
 ·intro n h0 h1
  have e0:n+((nTs []:Nat):Int)=n:=by simp only [nTs];omega
  refine ⟨fun _=> ?_,fun hx=>absurd ⟨rfl,by rw [e0];exact h1⟩ hx⟩
  rw [qY,e0]
  simp only [go_sem,qa,qb,qc,qd,qe,qf,reduceCtorEq,YV,hn]
 ·intro i u ks ht hi hlt e1 hir hm hr ih n h0 h1
  obtain ⟨v,gv,hbt⟩:=ko hv ht
  have a1:=fun T=>zL (τ:=τ) (T:=T) gv (kg hbt)
  have hcc:=hc u hm v hbt
  have hb:=qfD (d+1) u
  have e2:w64 (d+1)=d+1:=by rw [zn]<;>omega
  have e3:w64 (n+szI (d+1) u)=n+szI (d+1) u:=by rw [zn]<;>omega
  obtain ⟨σ1,ws,rfl,-⟩:=zm hbt
  have hp:=Xq u
  have e4:((nTs (u::ks):Nat):Int)=(nT u:Int)+nTs ks:=by simp only [nTs];omega
  rw [e4]
  by_cases hbad:400 < n+szI (d+1) u
  ·refine ⟨fun hy=> ?_,fun _=>⟨[((7,0),4,[.a [I u.kind,S u.name,I u.num,.i σ1 ws]])], ?_⟩⟩
   ·simp only [zG,Bool.and_eq_true]at hy
    unfold szI at hbad
    rw [if_pos ⟨hy.1.1,by omega⟩]at hbad
    omega
   rw [qY]
   simp only [go_sem,qa,qb,qc,qd,qe,qf,reduceCtorEq,YV,hn,hlt,a1,gv,hcc,e1,e2,e3,hbad]
  ·have hr:yB (d+1) u=true∧nT u≤400:=by
    apply Classical.byContradiction
    intro hx
    unfold szI at hbad
    rw [if_neg hx]at hbad
    omega
   have hs:szI (d+1) u=nT u:=by unfold szI;rw [if_pos hr]
   rw [hs]at hcc e3 hbad
   have i1:=ih (n+nT u) (by omega) (by omega)
   have e5:n+((nT u:Int)+nTs ks)=n+nT u+nTs ks:=by omega
   have e6:lw qj kJ ⟨[(1,I d),(5,I n),(82,.i τ vs),(83,I t.kids.length),(84,I i)],[]⟩=lw qj kJ ⟨[(1,I d),(5,I (n+nT u)),(82,.i τ vs),(83,I t.kids.length),(84,I (↑(i+1)))],[]⟩:=by
    rw [qY]
    simp only [go_sem,qa,qb,qc,qd,qe,qf,reduceCtorEq,YV,hn,hlt,a1,gv,hcc,e1,e2,e3,hbad]
   rw [zG,hr.1,Bool.true_and,e5,e6]
   exact i1
theorem qhr: ∀ (t:Tm),WT t→ ∀ (d:Int) v,0≤d→d≤41→BT t v→cr qj YF [v,I d]=some (I (szI d t)):=by
 refine xh ?_
 intro k s n ks ih hw d v h0 h1 hb
 have hnm:=qhq s (by have:=Kb hw;unfold Lm at this;exact Nat.le_trans this (by decide))
 have i1:=XM n 0 99999
 have i2:=XM n (-999999999) 999999999
 have i3:=XM ks.length 1 5
 have hlen:=xy hw
 unfold Lm at hlen
 simp only [ye]at hlen
 obtain ⟨τ,vs,rfl,hv⟩:=zm hb
 have hn:=zE hv
 simp only [ye]at hn hv
 rw [qF qjq rfl]
 have hbad:QO (.mk k s n ks)=false∨ ¬ d≤40→szI d (.mk k s n ks)=401:=by
  intro h
  unfold szI
  rw [if_neg]
  simp only [yB,Bool.and_eq_true,decide_eq_true_eq]
  rcases h with h|h
  ·rw [h];simp
  ·omega
 by_cases hd:40 < d
 ·rw [hbad (.inr (by omega))]
  simp only [go_sem,qa,qb,qc,qd,qe,qf,reduceCtorEq,zy,hd]
 have h:=qlo (.mk k s n ks) τ vs hv (xy hw) d h0 (by omega) (fun u hu v hb=>ih u hu (yG hw u hu) (d+1) v (by omega) (by omega) hb) 1 (by decide) (by decide)
 simp only [yD,yE,yF,ye]at h
 have hgood:QO (.mk k s n ks)=true→szI d (.mk k s n ks)=if zG (d+1) ks=true∧(1:Int)+(nTs ks:Int)≤400 then 1+(nTs ks:Int)else 401:=by
  intro ho
  unfold szI
  have hdt:decide (d≤40)=true:=decide_eq_true (by omega)
  rw [yB,ho,hdt,Bool.true_and,Bool.true_and]
  have e:nT (.mk k s n ks)=nTs ks+1:=by simp only [nT]
  by_cases hx:zG (d+1) ks=true∧nT (.mk k s n ks)≤400
  ·rw [if_pos (show zG (d+1) ks=true∧(1:Int)+(nTs ks:Int)≤400 from ⟨hx.1,by omega⟩),if_pos hx];omega
  ·rw [if_neg (show ¬ (zG (d+1) ks=true∧(1:Int)+(nTs ks:Int)≤400)from fun hy=>hx ⟨hy.1,by omega⟩),if_neg hx]
 have hz: ¬ (0:Int) < ks.length→ks.length=0:=by omega
 have p0:(0:Int) < ks.length∨ ¬ (0:Int) < ks.length:=by omega
 unfold QO at hbad hgood
 simp only [yD,yE,yF,ye]at hbad hgood
 by_cases k1:k=1
 ·have d1:decide (k=1)=true:=decide_eq_true k1
  rw [if_pos k1]at hbad hgood
  cases c2:decide (s=[])with
  |false=>rw [hbad (.inl (by rw [c2];simp))];simp only [go_sem,qa,qb,qc,qd,qe,qf,reduceCtorEq,zy,hd,d1,c2]
  |true=>
  cases c1:decide (0≤n∧n≤99999)with
  |false=>rw [hbad (.inl (by rw [c1];simp))];rw [c1]at i1;simp only [go_sem,qa,qb,qc,qd,qe,qf,reduceCtorEq,zy,hd,d1,c2,i1]
  |true=>
  rw [c1]at i1
  by_cases c3:(0:Int) < ks.length
  ·rw [hbad (.inl (by rw [decide_eq_false (show ¬ (ks.length:Int)=0 by omega)];simp))];simp only [go_sem,qa,qb,qc,qd,qe,qf,reduceCtorEq,zy,hd,d1,c2,i1,hn,c3]
  ·rw [hgood (by rw [c1,c2,decide_eq_true (show (ks.length:Int)=0 by omega)];rfl)]
   by_cases hx:zG (d+1) ks=true∧(1:Int)+(nTs ks:Int)≤400
   ·have h:=h.1 hx;rw [if_pos hx];simp only [go_sem,qa,qb,qc,qd,qe,qf,reduceCtorEq,zy,hd,d1,c2,i1,hn,c3,h]
   ·obtain ⟨T,h⟩:=h.2 hx;rw [if_neg hx];simp only [go_sem,qa,qb,qc,qd,qe,qf,reduceCtorEq,zy,hd,d1,c2,i1,hn,c3,h]
 rw [if_neg k1]at hbad hgood
 have d1:decide (k=1)=false:=decide_eq_false k1
 by_cases k2:k=2
 ·have d2:decide (k=2)=true:=decide_eq_true k2
  rw [if_pos k2]at hbad hgood
  cases c1:kZ s with
  |false=>rw [hbad (.inl (by rw [c1];simp))];rw [c1]at hnm;simp only [go_sem,qa,qb,qc,qd,qe,qf,reduceCtorEq,zy,hd,d1,d2,hnm]
  |true=>
  rw [c1]at hnm
  cases c2:decide (n=0)with
  |false=>rw [hbad (.inl (by rw [c2];simp))];simp only [go_sem,qa,qb,qc,qd,qe,qf,reduceCtorEq,zy,hd,d1,d2,hnm,c2]
  |true=>
  by_cases c3:(0:Int) < ks.length
  ·rw [hbad (.inl (by rw [decide_eq_false (show ¬ (ks.length:Int)=0 by omega)];simp))];simp only [go_sem,qa,qb,qc,qd,qe,qf,reduceCtorEq,zy,hd,d1,d2,hnm,c2,hn,c3]
  ·rw [hgood (by rw [c1,c2,decide_eq_true (show (ks.length:Int)=0 by omega)];rfl)]
   by_cases hx:zG (d+1) ks=true∧(1:Int)+(nTs ks:Int)≤400
   ·have h:=h.1 hx;rw [if_pos hx];simp only [go_sem,qa,qb,qc,qd,qe,qf,reduceCtorEq,zy,hd,d1,d2,hnm,c2,hn,c3,h]
   ·obtain ⟨T,h⟩:=h.2 hx;rw [if_neg hx];simp only [go_sem,qa,qb,qc,qd,qe,qf,reduceCtorEq,zy,hd,d1,d2,hnm,c2,hn,c3,h]
 rw [if_neg k2]at hbad hgood
 have d2:decide (k=2)=false:=decide_eq_false k2
 by_cases k3:k=3
 ·have d3:decide (k=3)=true:=decide_eq_true k3
  rw [if_pos k3]at hbad hgood
  cases c2:decide (s=[])with
  |false=>rw [hbad (.inl (by rw [c2];simp))];simp only [go_sem,qa,qb,qc,qd,qe,qf,reduceCtorEq,zy,hd,d1,d2,d3,c2]
  |true=>
  cases c1:decide (-999999999≤n∧n≤999999999)with
  |false=>rw [hbad (.inl (by rw [c1];simp))];rw [c1]at i2;simp only [go_sem,qa,qb,qc,qd,qe,qf,reduceCtorEq,zy,hd,d1,d2,d3,c2,i2]
  |true=>
  rw [c1]at i2
  by_cases c3:(0:Int) < ks.length
  ·rw [hbad (.inl (by rw [decide_eq_false (show ¬ (ks.length:Int)=0 by omega)];simp))];simp only [go_sem,qa,qb,qc,qd,qe,qf,reduceCtorEq,zy,hd,d1,d2,d3,c2,i2,hn,c3]
  ·rw [hgood (by rw [c1,c2,decide_eq_true (show (ks.length:Int)=0 by omega)];rfl)]
   by_cases hx:zG (d+1) ks=true∧(1:Int)+(nTs ks:Int)≤400
   ·have h:=h.1 hx;rw [if_pos hx];simp only [go_sem,qa,qb,qc,qd,qe,qf,reduceCtorEq,zy,hd,d1,d2,d3,c2,i2,hn,c3,h]
   ·obtain ⟨T,h⟩:=h.2 hx;rw [if_neg hx];simp only [go_sem,qa,qb,qc,qd,qe,qf,reduceCtorEq,zy,hd,d1,d2,d3,c2,i2,hn,c3,h]
 rw [if_neg k3]at hbad hgood
 have d3:decide (k=3)=false:=decide_eq_false k3
 by_cases k4:k=4
 ·have d4:decide (k=4)=true:=decide_eq_true k4
  rw [if_pos k4]at hbad hgood
  cases c1:kZ s with
  |false=>rw [hbad (.inl (by rw [c1];simp))];rw [c1]at hnm;simp only [go_sem,qa,qb,qc,qd,qe,qf,reduceCtorEq,zy,hd,d1,d2,d3,d4,hnm]
  |true=>
  rw [c1]at hnm
  cases c2:decide (n=0)with
  |false=>rw [hbad (.inl (by rw [c2];simp))];simp only [go_sem,qa,qb,qc,qd,qe,qf,reduceCtorEq,zy,hd,d1,d2,d3,d4,hnm,c2]
  |true=>
  cases c3:decide (1≤(ks.length:Int)∧(ks.length:Int)≤5)with
  |false=>rw [hbad (.inl (by rw [c3];simp))];rw [c3]at i3;simp only [go_sem,qa,qb,qc,qd,qe,qf,reduceCtorEq,zy,hd,d1,d2,d3,d4,hnm,c2,hn,i3]
  |true=>
   rw [c3]at i3
   rw [hgood (by rw [c1,c2,c3];rfl)]
   by_cases hx:zG (d+1) ks=true∧(1:Int)+(nTs ks:Int)≤400
   ·have h:=h.1 hx;rw [if_pos hx];simp only [go_sem,qa,qb,qc,qd,qe,qf,reduceCtorEq,zy,hd,d1,d2,d3,d4,hnm,c2,hn,i3,h]
   ·obtain ⟨T,h⟩:=h.2 hx;rw [if_neg hx];simp only [go_sem,qa,qb,qc,qd,qe,qf,reduceCtorEq,zy,hd,d1,d2,d3,d4,hnm,c2,hn,i3,h]
 rw [if_neg k4]at hbad
 have d4:decide (k=4)=false:=decide_eq_false k4
 rw [hbad (.inl rfl)]
 simp only [go_sem,qa,qb,qc,qd,qe,qf,reduceCtorEq,zy,hd,d1,d2,d3,d4]
theorem qhn(t:Tm) (hw:WT t) (v:V) (hb:BT t v):cr qj JC [v]=some (B (yU t)):=by
 have h1:=qhr t hw 1 v (by decide) (by decide) hb
 have hbd:=qfD 1 t
 obtain ⟨τ,vs,rfl,hv⟩:=zm hb
 rw [qF qjk rfl]
 by_cases h:yB 1 t=true∧nT t≤400
 ·have h2:szI 1 t≤400:=by unfold szI;rw [if_pos h];omega
  have h3:yU t=true:=by unfold yU;rw [h.1,decide_eq_true h.2];rfl
  rw [h3]
  simp only [go_sem,qa,qb,qc,qd,qe,qf,reduceCtorEq,Qf,h1,h2]
 ·have h2: ¬ szI 1 t≤400:=by unfold szI;rw [if_neg h];omega
  have h3:yU t=false:=by
   unfold yU
   cases e1:yB 1 t with
   |false=>rw [Bool.and_false]
   |true=>rw [decide_eq_false (fun hx=>h ⟨e1,hx⟩)];rfl
  rw [h3]
  simp only [go_sem,qa,qb,qc,qd,qe,qf,reduceCtorEq,Qf,h1,h2]
end Go.Vm
namespace Go.Vm
open Go.Lib (itoa decDigits)
def QC(m:Nat):Str:=if m=0 then []else decDigits m
theorem qgM {m:Nat} (h:m ≠ 0):QC m=QC (m / 10)++[UInt8.ofNat (48+m % 10)]:=by
 unfold QC
 rw [if_neg h,decDigits]
 by_cases h1:m < 10
 ·rw [dif_pos h1,if_pos (by omega),Nat.mod_eq_of_lt h1];rfl
 ·rw [dif_neg h1,if_neg (by omega)]
theorem qio(d:Int) (h0:0≤d) (h1:d≤9):cr qj JP [I d]=some (U8 (48+d)):=by
 rw [qF qjP rfl]
 have h2:d < 10:=by omega
 have e4:w64 (48+d)=48+d:=by rw [zn]<;>omega
 have e5:IntKind.u8.wrap (48+d)=48+d:=by
  have:(48+d) % 256=48+d:=by omega
  exact this
 simp only [go_sem,qa,qb,qc,qd,qe,qf,reduceCtorEq,Zm,h2,e4,e5]
theorem qbI(b:Bool): ∀ (k:Nat) (n:Int) (s:Str),n.natAbs < 10^k→k≤19→ -9223372036854775808≤n→n≤9223372036854775807→s.length+k≤100→
 lw qj YT ⟨[(0,I n),(3,B b),(4,S s)],[]⟩=some (.exit 0,⟨[(3,B b),(4,S (QC n.natAbs++s))],[]⟩):=by
 intro k
 induction k with
 |zero=>
  intro n s h1 h2 h3 h4 h5
  obtain rfl:n=0:=by omega
  rw [show QC (Int.natAbs 0)++s=s from rfl,qY]
  simp only [go_sem,qa,qb,qc,qd,qe,qf,reduceCtorEq,ZE]
 |succ k ih=>
  intro n s h1 h2 h3 h4 h5
  by_cases h0:n=0
  ·subst h0
   rw [show QC (Int.natAbs 0)++s=s from rfl,qY]
   simp only [go_sem,qa,qb,qc,qd,qe,qf,reduceCtorEq,ZE]
  have d0:decide (n=0)=false:=decide_eq_false h0
  have e1:q6 .rem (I n) (I 10)=_:=qcf (by decide)
  have e2:q6 .quo (I n) (I 10)=_:=qce (by decide)
  have q1:(n.tdiv 10).natAbs=n.natAbs / 10:=Int.natAbs_tdiv n 10
  have r1:(n.tmod 10).natAbs=n.natAbs % 10:=Int.natAbs_tmod n 10
  have e3:w64 (n.tdiv 10)=n.tdiv 10:=by rw [zn]<;>omega
  have e4:w64 (n.tmod 10)=n.tmod 10:=by rw [zn]<;>omega
  have e5:w64 (0 - n.tmod 10)=0 - n.tmod 10:=by rw [zn]<;>omega
  have e6:xD [U8 (48+((n.natAbs % 10:Nat):Int))]=some [UInt8.ofNat (48+((n.natAbs % 10:Nat):Int)).toNat]:=rfl
  have e8:(48+((n.natAbs % 10:Nat):Int)).toNat=48+n.natAbs % 10:=by omega
  rw [e8]at e6
  have e7:q6 .add (S [UInt8.ofNat (48+n.natAbs % 10)]) (S s)=_:=jV (by simp only [List.length_cons,List.length_nil];omega)
  have hp:n.natAbs / 10 < 10^k:=by rw [Nat.pow_succ]at h1;omega
  have ih1:=ih (n.tdiv 10) ([UInt8.ofNat (48+n.natAbs % 10)]++s) (by omega) (by omega) (by omega) (by omega) (by simp only [List.length_append,List.length_cons,List.length_nil];omega)
  rw [q1, ← List.append_assoc, ← qgM (show n.natAbs ≠ 0 by omega)]at ih1
  have f:=qio ((n.natAbs % 10:Nat):Int) (by omega) (by omega)
  rw [qY]
  by_cases hneg:n.tmod 10 < 0
  ·have e9:0 - n.tmod 10=((n.natAbs % 10:Nat):Int):=by omega
   rw [e9]at e5
   simp only [go_sem,qa,qb,qc,qd,qe,qf,reduceCtorEq,ZE,d0,e1,e2,e3,e4,hneg,e9,e5,f,e6,e7]at ih1 ⊢
   exact ih1
  ·have e9:n.tmod 10=((n.natAbs % 10:Nat):Int):=by omega
   have e10: ¬ ((n.natAbs % 10:Nat):Int) < 0:=by omega
   rw [e9]at e1 e4
   simp only [go_sem,qa,qb,qc,qd,qe,qf,reduceCtorEq,ZE,d0,e1,e2,e3,e4,e10,f,e6,e7]at ih1 ⊢
   exact ih1
theorem qcU {m:Nat} (h:m ≠ 0):QC m=decDigits m:=if_neg h
theorem qlt(n:Int) (h0: -9223372036854775808≤n) (h1:n≤9223372036854775807):cr qj JL [I n]=some (S (itoa n)):=by
 rw [qF qjK rfl]
 by_cases hz:n=0
 ·subst hz
  have:itoa 0=[48]:=by unfold itoa;rw [if_neg (by decide),decDigits];rfl
  rw [this]
  simp only [go_sem,qa,qb,qc,qd,qe,qf,reduceCtorEq,jK]
 have d0:decide (n=0)=false:=decide_eq_false hz
 by_cases hneg:n < 0
 ·have h:=qbI true 19 n [] (by omega) (by decide) h0 h1 (by decide)
  rw [List.append_nil,qcU (by omega)]at h
  have hl:(decDigits n.natAbs).length < 2^62:=by
   have: ∀ (k m:Nat),m < 10^(k+1)→(decDigits m).length≤k+1:=by
    intro k
    induction k with
    |zero=>intro m hm;rw [decDigits,dif_pos (by omega)];simp
    |succ k ih=>
     intro m hm
     rw [decDigits]
     split
     ·simp
     ·rw [List.length_append]
      have:=ih (m / 10) (by rw [Nat.pow_succ]at hm;omega)
      simp only [List.length_cons,List.length_nil];omega
   have:=this 18 n.natAbs (by omega)
   omega
  have e7:q6 .add (S [45]) (S (decDigits n.natAbs))=_:=jV (by simp only [List.length_cons,List.length_nil];omega)
  have hi:itoa n=[45]++decDigits n.natAbs:=by unfold itoa;rw [if_pos hneg];rfl
  rw [hi]
  simp only [go_sem,qa,qb,qc,qd,qe,qf,reduceCtorEq,jK,d0,hneg,h,e7]
 ·have h:=qbI false 19 n [] (by omega) (by decide) h0 h1 (by decide)
  rw [List.append_nil,qcU (by omega)]at h
  have hi:itoa n=decDigits n.natAbs:=by unfold itoa;rw [if_neg hneg,show n.toNat=n.natAbs by omega]
  rw [hi]
  simp only [go_sem,qa,qb,qc,qd,qe,qf,reduceCtorEq,jK,d0,hneg,h]
theorem qhl(n:Int) (h0: -9223372036854775808≤n) (h1:n≤9223372036854775807):cr qj JA [I n]=some (S (itoa n)):=by
 rw [qF qjh rfl]
 have h:=qgH qj1 n h0 h1
 simp only [go_sem,qa,qb,qc,qd,qe,qf,reduceCtorEq,Q5,h]
end Go.Vm
namespace Go.Vm
open Go.Lib (itoa decDigits)
@[go_sem] theorem qu4 {n:Nat} {a:Int}:qT false n (I a) 0=some (I a):=(rfl)
@[go_sem] theorem qu6 {n:Nat} {x:Str}:qT false n (S x) 0=some (S x):=(rfl)
@[go_sem] theorem qu8 {n:Nat} {a:Int}:qT false n (U8 a) 0=some (U8 a):=(rfl)
def xF(n:Str):Nat→List Str→Int
 |_,[]=> -1
 |i,x::xs=>if n=x then (i:Int)else xF n (i+1) xs
theorem qaw(n:Str): ∀ (l:List Str) (i:Nat),(n ∈ l→(i:Int)≤xF n i l∧xF n i l < i+l.length)∧(n ∉ l→xF n i l= -1)
 |[],i=>⟨fun h=>(by cases h),fun _=>rfl⟩
 |x::xs,i=>by
  obtain ⟨h1,h2⟩:=qaw n xs (i+1)
  by_cases h:n=x
  ·subst h;simp [xF];omega
  ·simp only [xF,if_neg h,List.mem_cons,h,false_or,List.length_cons]
   exact ⟨fun hm=>by have:=h1 hm;omega,h2⟩
theorem qhi(n:Str) (l:List Str):0≤xF n 0 l↔n ∈ l:=by
 obtain ⟨h1,h2⟩:=qaw n l 0
 by_cases h:n ∈ l
 ·simp only [h,iff_true];have:=h1 h;omega
 ·simp only [h,iff_false,h2 h];omega
theorem qf0(τ:Bool) (l:List Str) (n:Str) (hlim:l.length≤2^40):
 lw qj Zz ⟨[(0,.i τ (l.map S)),(1,S n),(7,I l.length),(8,I (0:Nat))],[]⟩=if n ∈ l then some (.ret,⟨[(4,I (xF n 0 l))],[]⟩)else some (.exit 0,⟨[],[]⟩):=by
 refine ju l (fun i r=>lw qj Zz ⟨[(0,.i τ (l.map S)),(1,S n),(7,I l.length),(8,I i)],[]⟩=if n ∈ r then some (.ret,⟨[(4,I (xF n i r))],[]⟩)else some (.exit 0,⟨[],[]⟩)) (by omega) ?_ ?_
 ·rw [qY]
  simp only [go_sem,qa,qb,qc,qd,qe,qf,reduceCtorEq,YX,List.not_mem_nil]
 ·intro i t r ht hi hlt e1 hir hm hr ih
  have g:=QH (f:=S) ht
  have a1:=zL (τ:=τ) (T:=[]) (e:=1) g rfl
  rw [qY]
  by_cases he:n=t
  ·have d:decide (n=t)=true:=decide_eq_true he
   rw [if_pos (by rw [he];exact List.mem_cons_self),xF,if_pos he]
   simp only [go_sem,qa,qb,qc,qd,qe,qf,reduceCtorEq,YX,hlt,a1,g,e1,d]
  ·have d:decide (n=t)=false:=decide_eq_false he
   have hmm:(n ∈ t::r)=(n ∈ r):=by simp only [List.mem_cons,he,false_or]
   simp only [hmm,xF,if_neg he]
   simp only [go_sem,qa,qb,qc,qd,qe,qf,reduceCtorEq,YX,hlt,a1,g,e1,d]
   exact ih
theorem qf1(τ:Bool) (l:List Str) (n:Str) (hlim:l.length≤2^40):cr qj JJ [.i τ (l.map S),S n]=some (I (xF n 0 l)):=by
 rw [qF qjI rfl]
 have h:=qf0 τ l n hlim
 simp only [Int.natCast_zero]at h
 by_cases hm:n ∈ l
 ·rw [if_pos hm]at h
  simp only [go_sem,qa,qb,qc,qd,qe,qf,reduceCtorEq,Qj,h]
 ·rw [if_neg hm]at h
  simp only [go_sem,qa,qb,qc,qd,qe,qf,reduceCtorEq,Qj,h,(qaw n l 0).2 hm]
theorem qfX(τ:Bool) (l:List Str) (n:Str) (hlim:l.length≤2^40):cr qj JI [.i τ (l.map S),S n]=some (B (decide (n ∈ l))):=by
 rw [qF qjH rfl]
 have h:=qf1 τ l n hlim
 have hm:decide (0≤xF n 0 l)=decide (n ∈ l):=decide_eq_decide.2 (qhi n l)
 simp only [go_sem,qa,qb,qc,qd,qe,qf,reduceCtorEq,Zk,h,hm]
def Y9:List Str:=[[116,114,117,101,47,48],[102,97,105,108,47,48],[33,47,48],[44,47,50],[59,47,50],[45,62,47,50],[92,43,47,49],[99,97,108,108,47,49],[99,97,108,108,47,50],[99,97,108,108,47,51],[99,97,116,99,104,47,51],[116,104,114,111,119,47,49],[61,47,50],[92,61,47,50],[61,61,47,50],[105,115,47,50],[60,47,50],[61,58,61,47,50],[118,97,114,47,49],[97,116,111,109,47,49],[119,114,105,116,101,47,49],[97,115,115,101,114,116,122,47,49],[114,101,116,114,97,99,116,47,49],[58,45,47,50],[58,45,47,49],[45,45,62,47,50]]
def za(p:Str):Bool:=decide (p ∈ Y9)
theorem qhk(p:Str):cr qj Jz [S p]=some (B (za p)):=by
 rw [qF qjg rfl]
 have h:=qfX true Y9 p (by decide)
 have hd:decide (p ∈ Y9)=za p:=rfl
 rw [hd]at h
 simp only [Y9,List.map_cons,List.map_nil]at h
 simp only [go_sem,qa,qb,qc,qd,qe,qf,reduceCtorEq,Q4,h]
theorem qls(p:Str):cr qj JK [S p]=some (B (za p)):=by
 rw [qF qjJ rfl]
 by_cases h0:p=[116,114,117,101,47,48]
 ·have hc:za p=true:=by rw [h0];decide
  rw [hc]
  have d0:decide (p=[116,114,117,101,47,48])=true:=decide_eq_true h0
  clear hc h0
  simp only [go_sem,qa,qb,qc,qd,qe,qf,reduceCtorEq,zk,d0]
 have d0:decide (p=[116,114,117,101,47,48])=false:=decide_eq_false h0
 by_cases h1:p=[102,97,105,108,47,48]
 ·have hc:za p=true:=by rw [h1];decide
  rw [hc]
  have d1:decide (p=[102,97,105,108,47,48])=true:=decide_eq_true h1
  clear hc h1
  simp only [go_sem,qa,qb,qc,qd,qe,qf,reduceCtorEq,zk,d0,d1]
 have d1:decide (p=[102,97,105,108,47,48])=false:=decide_eq_false h1
 by_cases h2:p=[33,47,48]
 ·have hc:za p=true:=by rw [h2];decide
  rw [hc]
  have d2:decide (p=[33,47,48])=true:=decide_eq_true h2
  clear hc h2
  simp only [go_sem,qa,qb,qc,qd,qe,qf,reduceCtorEq,zk,d0,d1,d2]
 have d2:decide (p=[33,47,48])=false:=decide_eq_false h2
 by_cases h3:p=[44,47,50]
 ·have hc:za p=true:=by rw [h3];decide
  rw [hc]
  have d3:decide (p=[44,47,50])=true:=decide_eq_true h3
  clear hc h3
  simp only [go_sem,qa,qb,qc,qd,qe,qf,reduceCtorEq,zk,d0,d1,d2,d3]
 have d3:decide (p=[44,47,50])=false:=decide_eq_false h3
 by_cases h4:p=[59,47,50]
 ·have hc:za p=true:=by rw [h4];decide
  rw [hc]
  have d4:decide (p=[59,47,50])=true:=decide_eq_true h4
  clear hc h4
  simp only [go_sem,qa,qb,qc,qd,qe,qf,reduceCtorEq,zk,d0,d1,d2,d3,d4]
 have d4:decide (p=[59,47,50])=false:=decide_eq_false h4
 by_cases h5:p=[45,62,47,50]
 ·have hc:za p=true:=by rw [h5];decide
  rw [hc]
  have d5:decide (p=[45,62,47,50])=true:=decide_eq_true h5
  clear hc h5
  simp only [go_sem,qa,qb,qc,qd,qe,qf,reduceCtorEq,zk,d0,d1,d2,d3,d4,d5]
 have d5:decide (p=[45,62,47,50])=false:=decide_eq_false h5
 by_cases h6:p=[92,43,47,49]
 ·have hc:za p=true:=by rw [h6];decide
  rw [hc]
  have d6:decide (p=[92,43,47,49])=true:=decide_eq_true h6
  clear hc h6
  simp only [go_sem,qa,qb,qc,qd,qe,qf,reduceCtorEq,zk,d0,d1,d2,d3,d4,d5,d6]
 have d6:decide (p=[92,43,47,49])=false:=decide_eq_false h6
 by_cases h7:p=[99,97,108,108,47,49]
 ·have hc:za p=true:=by rw [h7];decide
  rw [hc]
  have d7:decide (p=[99,97,108,108,47,49])=true:=decide_eq_true h7
  clear hc h7
  simp only [go_sem,qa,qb,qc,qd,qe,qf,reduceCtorEq,zk,d0,d1,d2,d3,d4,d5,d6,d7]
 have d7:decide (p=[99,97,108,108,47,49])=false:=decide_eq_false h7
 by_cases h8:p=[99,97,108,108,47,50]
 ·have hc:za p=true:=by rw [h8];decide
  rw [hc]
  have d8:decide (p=[99,97,108,108,47,50])=true:=decide_eq_true h8
  clear hc h8
  simp only [go_sem,qa,qb,qc,qd,qe,qf,reduceCtorEq,zk,d0,d1,d2,d3,d4,d5,d6,d7,d8]
 have d8:decide (p=[99,97,108,108,47,50])=false:=decide_eq_false h8
 by_cases h9:p=[99,97,108,108,47,51]
 ·have hc:za p=true:=by rw [h9];decide
  rw [hc]
  have d9:decide (p=[99,97,108,108,47,51])=true:=decide_eq_true h9
  clear hc h9
  simp only [go_sem,qa,qb,qc,qd,qe,qf,reduceCtorEq,zk,d0,d1,d2,d3,d4,d5,d6,d7,d8,d9]
 have d9:decide (p=[99,97,108,108,47,51])=false:=decide_eq_false h9
 by_cases h10:p=[99,97,116,99,104,47,51]
 ·have hc:za p=true:=by rw [h10];decide
  rw [hc]
  have d10:decide (p=[99,97,116,99,104,47,51])=true:=decide_eq_true h10
  clear hc h10
  simp only [go_sem,qa,qb,qc,qd,qe,qf,reduceCtorEq,zk,d0,d1,d2,d3,d4,d5,d6,d7,d8,d9,d10]
 have d10:decide (p=[99,97,116,99,104,47,51])=false:=decide_eq_false h10
 by_cases h11:p=[116,104,114,111,119,47,49]
 ·have hc:za p=true:=by rw [h11];decide
  rw [hc]
  have d11:decide (p=[116,104,114,111,119,47,49])=true:=decide_eq_true h11
  clear hc h11
  simp only [go_sem,qa,qb,qc,qd,qe,qf,reduceCtorEq,zk,d0,d1,d2,d3,d4,d5,d6,d7,d8,d9,d10,d11]
 have d11:decide (p=[116,104,114,111,119,47,49])=false:=decide_eq_false h11
 by_cases h12:p=[61,47,50]
 ·have hc:za p=true:=by rw [h12];decide
  rw [hc]
  have d12:decide (p=[61,47,50])=true:=decide_eq_true h12
  clear hc h12
  simp only [go_sem,qa,qb,qc,qd,qe,qf,reduceCtorEq,zk,d0,d1,d2,d3,d4,d5,d6,d7,d8,d9,d10,d11,d12]
 have d12:decide (p=[61,47,50])=false:=decide_eq_false h12
 by_cases h13:p=[92,61,47,50]
 ·have hc:za p=true:=by rw [h13];decide
  rw [hc]
  have d13:decide (p=[92,61,47,50])=true:=decide_eq_true h13
  clear hc h13
  simp only [go_sem,qa,qb,qc,qd,qe,qf,reduceCtorEq,zk,d0,d1,d2,d3,d4,d5,d6,d7,d8,d9,d10,d11,d12,d13]
 have d13:decide (p=[92,61,47,50])=false:=decide_eq_false h13
 by_cases h14:p=[61,61,47,50]
 ·have hc:za p=true:=by rw [h14];decide
  rw [hc]
  have d14:decide (p=[61,61,47,50])=true:=decide_eq_true h14
  clear hc h14
  simp only [go_sem,qa,qb,qc,qd,qe,qf,reduceCtorEq,zk,d0,d1,d2,d3,d4,d5,d6,d7,d8,d9,d10,d11,d12,d13,d14]
 have d14:decide (p=[61,61,47,50])=false:=decide_eq_false h14
 by_cases h15:p=[105,115,47,50]
 ·have hc:za p=true:=by rw [h15];decide
  rw [hc]
  have d15:decide (p=[105,115,47,50])=true:=decide_eq_true h15
  clear hc h15
  simp only [go_sem,qa,qb,qc,qd,qe,qf,reduceCtorEq,zk,d0,d1,d2,d3,d4,d5,d6,d7,d8,d9,d10,d11,d12,d13,d14,d15]
 have d15:decide (p=[105,115,47,50])=false:=decide_eq_false h15
 by_cases h16:p=[60,47,50]
 ·have hc:za p=true:=by rw [h16];decide
  rw [hc]
  have d16:decide (p=[60,47,50])=true:=decide_eq_true h16
  clear hc h16
  simp only [go_sem,qa,qb,qc,qd,qe,qf,reduceCtorEq,zk,d0,d1,d2,d3,d4,d5,d6,d7,d8,d9,d10,d11,d12,d13,d14,d15,d16]
 have d16:decide (p=[60,47,50])=false:=decide_eq_false h16
 by_cases h17:p=[61,58,61,47,50]
 ·have hc:za p=true:=by rw [h17];decide
  rw [hc]
  have d17:decide (p=[61,58,61,47,50])=true:=decide_eq_true h17
  clear hc h17
  simp only [go_sem,qa,qb,qc,qd,qe,qf,reduceCtorEq,zk,d0,d1,d2,d3,d4,d5,d6,d7,d8,d9,d10,d11,d12,d13,d14,d15,d16,d17]
 have d17:decide (p=[61,58,61,47,50])=false:=decide_eq_false h17
 by_cases h18:p=[118,97,114,47,49]
 ·have hc:za p=true:=by rw [h18];decide
  rw [hc]
  have d18:decide (p=[118,97,114,47,49])=true:=decide_eq_true h18
  clear hc h18
  simp only [go_sem,qa,qb,qc,qd,qe,qf,reduceCtorEq,zk,d0,d1,d2,d3,d4,d5,d6,d7,d8,d9,d10,d11,d12,d13,d14,d15,d16,d17,d18]
 have d18:decide (p=[118,97,114,47,49])=false:=decide_eq_false h18
 by_cases h19:p=[97,116,111,109,47,49]
 ·have hc:za p=true:=by rw [h19];decide
  rw [hc]
  have d19:decide (p=[97,116,111,109,47,49])=true:=decide_eq_true h19
  clear hc h19
  simp only [go_sem,qa,qb,qc,qd,qe,qf,reduceCtorEq,zk,d0,d1,d2,d3,d4,d5,d6,d7,d8,d9,d10,d11,d12,d13,d14,d15,d16,d17,d18,d19]
 have d19:decide (p=[97,116,111,109,47,49])=false:=decide_eq_false h19
 by_cases h20:p=[119,114,105,116,101,47,49]
 ·have hc:za p=true:=by rw [h20];decide
  rw [hc]
  have d20:decide (p=[119,114,105,116,101,47,49])=true:=decide_eq_true h20
  clear hc h20
  simp only [go_sem,qa,qb,qc,qd,qe,qf,reduceCtorEq,zk,d0,d1,d2,d3,d4,d5,d6,d7,d8,d9,d10,d11,d12,d13,d14,d15,d16,d17,d18,d19,d20]
 have d20:decide (p=[119,114,105,116,101,47,49])=false:=decide_eq_false h20
 by_cases h21:p=[97,115,115,101,114,116,122,47,49]
 ·have hc:za p=true:=by rw [h21];decide
  rw [hc]
  have d21:decide (p=[97,115,115,101,114,116,122,47,49])=true:=decide_eq_true h21
  clear hc h21
  simp only [go_sem,qa,qb,qc,qd,qe,qf,reduceCtorEq,zk,d0,d1,d2,d3,d4,d5,d6,d7,d8,d9,d10,d11,d12,d13,d14,d15,d16,d17,d18,d19,d20,d21]
 have d21:decide (p=[97,115,115,101,114,116,122,47,49])=false:=decide_eq_false h21
 by_cases h22:p=[114,101,116,114,97,99,116,47,49]
 ·have hc:za p=true:=by rw [h22];decide
  rw [hc]
  have d22:decide (p=[114,101,116,114,97,99,116,47,49])=true:=decide_eq_true h22
  clear hc h22
  simp only [go_sem,qa,qb,qc,qd,qe,qf,reduceCtorEq,zk,d0,d1,d2,d3,d4,d5,d6,d7,d8,d9,d10,d11,d12,d13,d14,d15,d16,d17,d18,d19,d20,d21,d22]
 have d22:decide (p=[114,101,116,114,97,99,116,47,49])=false:=decide_eq_false h22
 by_cases h23:p=[58,45,47,50]
 ·have hc:za p=true:=by rw [h23];decide
  rw [hc]
  have d23:decide (p=[58,45,47,50])=true:=decide_eq_true h23
  clear hc h23
  simp only [go_sem,qa,qb,qc,qd,qe,qf,reduceCtorEq,zk,d0,d1,d2,d3,d4,d5,d6,d7,d8,d9,d10,d11,d12,d13,d14,d15,d16,d17,d18,d19,d20,d21,d22,d23]
 have d23:decide (p=[58,45,47,50])=false:=decide_eq_false h23
 by_cases h24:p=[58,45,47,49]
 ·have hc:za p=true:=by rw [h24];decide
  rw [hc]
  have d24:decide (p=[58,45,47,49])=true:=decide_eq_true h24
  clear hc h24
  simp only [go_sem,qa,qb,qc,qd,qe,qf,reduceCtorEq,zk,d0,d1,d2,d3,d4,d5,d6,d7,d8,d9,d10,d11,d12,d13,d14,d15,d16,d17,d18,d19,d20,d21,d22,d23,d24]
 have d24:decide (p=[58,45,47,49])=false:=decide_eq_false h24
 by_cases h25:p=[45,45,62,47,50]
 ·have hc:za p=true:=by rw [h25];decide
  rw [hc]
  have d25:decide (p=[45,45,62,47,50])=true:=decide_eq_true h25
  clear hc h25
  simp only [go_sem,qa,qb,qc,qd,qe,qf,reduceCtorEq,zk,d0,d1,d2,d3,d4,d5,d6,d7,d8,d9,d10,d11,d12,d13,d14,d15,d16,d17,d18,d19,d20,d21,d22,d23,d24,d25]
 have d25:decide (p=[45,45,62,47,50])=false:=decide_eq_false h25
 have hc:za p=false:=decide_eq_false (by simp only [Y9,List.mem_cons,List.not_mem_nil,or_false,h0,h1,h2,h3,h4,h5,h6,h7,h8,h9,h10,h11,h12,h13,h14,h15,h16,h17,h18,h19,h20,h21,h22,h23,h24,h25,or_self,not_false_eq_true])
 rw [hc]
 simp only [go_sem,qa,qb,qc,qd,qe,qf,reduceCtorEq,zk,d0,d1,d2,d3,d4,d5,d6,d7,d8,d9,d10,d11,d12,d13,d14,d15,d16,d17,d18,d19,d20,d21,d22,d23,d24,d25]
theorem qgK: ∀ (k m:Nat),m < 10^(k+1)→(decDigits m).length≤k+1:=by
 intro k
 induction k with
 |zero=>intro m hm;rw [decDigits,dif_pos (by omega)];simp
 |succ k ih=>
  intro m hm
  rw [decDigits]
  split
  ·simp
  ·rw [List.length_append]
   have:=ih (m / 10) (by rw [Nat.pow_succ]at hm;omega)
   simp only [List.length_cons,List.length_nil];omega
theorem qds(n:Int) (h0: -9223372036854775808≤n) (h1:n≤9223372036854775807):(itoa n).length≤20:=by
 unfold itoa
 have:=qgK 18 n.natAbs (by omega)
 split
 ·simp only [List.length_cons];omega
 ·rw [show n.toNat=n.natAbs by omega];omega
def qJ(t:Tm):Str:=if t.kind=2∨t.kind=4 then t.name++[47]++itoa t.kids.length else []
theorem qlw(t:Tm) (hw:WT t) (v:V) (hb:BT t v):cr qj JN [v]=some (S (qJ t)):=by
 obtain ⟨τ,vs,rfl,hv⟩:=zm hb
 have hl:=zE hv
 have hlen:=xy hw
 have hnm:=Kb hw
 unfold Lm at hlen hnm
 have hd:=qlt t.kids.length (by omega) (by omega)
 have e7:q6 .add (S t.name) (S [47])=_:=jV (by simp only [List.length_cons,List.length_nil];omega)
 have e8:q6 .add (S (t.name++[47])) (S (itoa t.kids.length))=_:=jV (by have:=qds t.kids.length (by omega) (by omega);simp only [List.length_append,List.length_cons,List.length_nil];omega)
 rw [qF qjN rfl]
 unfold qJ
 by_cases k2:t.kind=2
 ·have d2:decide (t.kind=2)=true:=decide_eq_true k2
  rw [if_pos (.inl k2)]
  simp only [go_sem,qa,qb,qc,qd,qe,qf,reduceCtorEq,jL,d2,hl,hd,e7,e8]
 have d2:decide (t.kind=2)=false:=decide_eq_false k2
 by_cases k4:t.kind=4
 ·have d4:decide (t.kind=4)=true:=decide_eq_true k4
  rw [if_pos (.inr k4)]
  simp only [go_sem,qa,qb,qc,qd,qe,qf,reduceCtorEq,jL,d2,d4,hl,hd,e7,e8]
 have d4:decide (t.kind=4)=false:=decide_eq_false k4
 rw [if_neg (by rintro (h|h)<;>contradiction)]
 simp only [go_sem,qa,qb,qc,qd,qe,qf,reduceCtorEq,jL,d2,d4]
theorem qhm(t:Tm) (hw:WT t) (v:V) (hb:BT t v):cr qj JB [v]=some (S (qJ t)):=by
 obtain ⟨τ,vs,rfl,hv⟩:=zm hb
 have hl:=zE hv
 have hlen:=xy hw
 have hnm:=Kb hw
 unfold Lm at hlen hnm
 have hd:=qhl t.kids.length (by omega) (by omega)
 have e7:q6 .add (S t.name) (S [47])=_:=jV (by simp only [List.length_cons,List.length_nil];omega)
 have e8:q6 .add (S (t.name++[47])) (S (itoa t.kids.length))=_:=jV (by have:=qds t.kids.length (by omega) (by omega);simp only [List.length_append,List.length_cons,List.length_nil];omega)
 rw [qF qjj rfl]
 unfold qJ
 by_cases k2:t.kind=2
 ·have d2:decide (t.kind=2)=true:=decide_eq_true k2
  rw [if_pos (.inl k2)]
  simp only [go_sem,qa,qb,qc,qd,qe,qf,reduceCtorEq,jG,d2,hl,hd,e7,e8]
 have d2:decide (t.kind=2)=false:=decide_eq_false k2
 by_cases k4:t.kind=4
 ·have d4:decide (t.kind=4)=true:=decide_eq_true k4
  rw [if_pos (.inr k4)]
  simp only [go_sem,qa,qb,qc,qd,qe,qf,reduceCtorEq,jG,d2,d4,hl,hd,e7,e8]
 have d4:decide (t.kind=4)=false:=decide_eq_false k4
 rw [if_neg (by rintro (h|h)<;>contradiction)]
 simp only [go_sem,qa,qb,qc,qd,qe,qf,reduceCtorEq,jG,d2,d4]
end Go.Vm
namespace Go.Vm
def bkP(k:Key) (i o n:Nat) (x:V) (ob:Option Ob):Mem:=
 match ob with
 |some ob=>if i=0∧o=0∧ob.1=n then [(k,n,[x])]else []
 |none=>[]
@[go_sem] theorem qoN {T:Mem} {k:Key} {i o:Nat} {x:V}:yw T (.p k i o) (.b x)=bkP k i o x.cells.length x (qp T k):=by simp only [yw,bkP];cases qp T k<;>rfl
@[go_sem] theorem qpM {k:Key} {i o n:Nat} {x:V} {e:Nat} {zs:List V}:bkP k i o n x (some (e,zs))=if i=0∧o=0∧e=n then [(k,n,[x])]else []:=(rfl)
end Go.Vm
set_option maxHeartbeats 8000000
namespace Go.Vm
theorem ja(k:Int) (s:Str) (n:Int):oT (.mk k s n [])= .a [I k,S s,I n,.o 4 []]:=rfl
theorem qho(s:Str):cr qj JD [S s]=some (oT (.mk 2 s 0 [])):=by
 rw [qF qjl rfl,ja]
 simp only [go_sem,qa,qb,qc,qd,qe,qf,reduceCtorEq,Q6]
theorem qly(s:Str):cr qj JQ [S s]=some (oT (.mk 2 s 0 [])):=by
 rw [qF qjR rfl,ja]
 simp only [go_sem,qa,qb,qc,qd,qe,qf,reduceCtorEq,Zo]
def dT(t:Tm):V:= .a [I t.kind,S t.name,I t.num,.d]
end Go.Vm
set_option maxHeartbeats 16000000
namespace Go.Vm
theorem qcT(u:Nat):Lib.decDigits u ≠ []:=by
 rw [Lib.decDigits]
 split<;>simp
theorem qgL(u:Nat) (h:Lib.decDigits u=[50]):u=2:=by
 rw [Lib.decDigits]at h
 split at h
 ·rename_i hu
  have:u=0∨u=1∨u=2∨u=3∨u=4∨u=5∨u=6∨u=7∨u=8∨u=9:=by omega
  rcases this with rfl|rfl|rfl|rfl|rfl|rfl|rfl|rfl|rfl|rfl<;>first|rfl|(exact absurd h (by decide))
 ·have:=congrArg List.length h
  have hp:0 < (Lib.decDigits (u / 10)).length:=List.length_pos_iff.2 (qcT _)
  simp only [List.length_append,List.length_cons,List.length_nil]at this
  omega
def jB:Str:=[44,47,50]
def ZS:Str:=[116,114,117,101,47,48]
def pEq:Str:=[61,47,50]
theorem qad {t:Tm} (h:qJ t=jB): ∃ a b,t.kids=[a,b]:=by
 unfold qJ at h
 split at h
 case isFalse=>cases h
 rename_i hk
 have hi:Lib.itoa (t.kids.length:Int)=Lib.decDigits t.kids.length:=by unfold Lib.itoa;rw [if_neg (by omega)];simp
 rw [hi]at h
 have hl:=congrArg List.length h
 have hp:0 < (Lib.decDigits t.kids.length).length:=List.length_pos_iff.2 (qcT _)
 simp only [jB,List.length_append,List.length_cons,List.length_nil]at hl
 have hd:Lib.decDigits t.kids.length=[50]:=by
  match hn:t.name with
  |[]=>rw [hn]at h;simp only [jB,List.nil_append,List.cons_append,List.cons.injEq]at h;exact absurd h.1 (by decide)
  |[x]=>rw [hn]at h;simp only [jB,List.nil_append,List.cons_append,List.cons.injEq,true_and]at h;exact h.2
  |x::y::r=>rw [hn]at hl;simp only [List.length_cons]at hl;omega
 have h2:=qgL _ hd
 match hk:t.kids with
 |[a,b]=>exact ⟨a,b,rfl⟩
 |[]=>rw [hk]at h2;cases h2
 |[a]=>rw [hk]at h2;simp at h2
 |a::b::c::r=>rw [hk]at h2;simp at h2
theorem qkA: ∀ (t:Tm) (d d':Int),d'≤d→yB d t=true→yB d' t=true:=by
 refine xh ?_
 intro k s n ks ih d d' hd h
 rw [yB]at h ⊢
 simp only [Bool.and_eq_true,decide_eq_true_eq]at h ⊢
 refine ⟨by omega,h.2.1, ?_⟩
 have: ∀ ks':List Tm,(∀ t ∈ ks',t ∈ ks)→zG (d+1) ks'=true→zG (d'+1) ks'=true:=by
  intro ks'
  induction ks' with
  |nil=>intro _ _;rfl
  |cons x xs ihx=>
   intro hm hx
   simp only [zG,Bool.and_eq_true]at hx ⊢
   exact ⟨ih x (hm x (by simp)) _ _ (by omega) hx.1,ihx (fun t ht=>hm t (by simp [ht])) hx.2⟩
 exact this ks (fun t h=>h) h.2.2
theorem qe5 {d:Int}: ∀ {ts:List Tm} {u:Tm},zG d ts=true→u ∈ ts→yB d u=true
 |t::ts,u,h,hu=>by
  simp only [zG,Bool.and_eq_true]at h
  rcases List.mem_cons.1 hu with rfl|hu
  ·exact h.1
  ·exact qe5 h.2 hu
theorem qdP: ∀ {ts:List Tm} {u:Tm},u ∈ ts→nT u≤nTs ts
 |t::ts,u,hu=>by
  simp only [nTs]
  rcases List.mem_cons.1 hu with rfl|hu
  ·omega
  ·have:=qdP hu;omega
theorem QL {t u:Tm} (hu:u ∈ t.kids):nT u+1≤nT t:=by
 have e:nT t=nTs t.kids+1:=by cases t;rfl
 have:=qdP hu
 omega
theorem Jn {t u:Tm} (h:yU t=true) (hu:u ∈ t.kids):yU u=true:=by
 unfold yU at*
 simp only [Bool.and_eq_true,decide_eq_true_eq]at*
 refine ⟨by have:=QL hu;omega, ?_⟩
 obtain ⟨k,s,n,ks⟩:=t
 have h2:=h.2
 rw [yB]at h2
 simp only [Bool.and_eq_true]at h2
 exact qkA _ _ _ (by omega) (qe5 h2.2.2 hu)
def giF:Nat→Tm→Option (List Tm)
 |0,_=>none
 |f+1,t=>if yU t=true then
  (if qJ t=jB then (match t.kids with
   |[a,b]=>(match giF f a,giF f b with
    |some x,some y=>some (x++y)
    |_,_=>none)
   |_=>none)
  else if qJ t=ZS then some []
  else if qJ t=[]∨(za (qJ t)=true∧qJ t ≠ pEq)then none else some [t])else none
theorem jv: ∀ (f:Nat) (t:Tm) (l:List Tm),giF f t=some l→l.length≤nT t∧ ∀ u ∈ l,nT u≤nT t∧(WT t→WT u)
 |0,t,l,h=>by cases h
 |f+1,t,l,h=>by
  rw [giF]at h
  split at h
  case isFalse=>cases h
  split at h
  ·split at h
   ·rename_i a b hk
    split at h
    ·rename_i x y hx hy
     cases h
     have h1:=jv f a x hx
     have h2:=jv f b y hy
     have e:nT t=nTs t.kids+1:=by cases t;rfl
     rw [hk]at e
     simp only [nTs]at e
     refine ⟨by rw [List.length_append];omega,fun u hu=> ?_⟩
     rcases List.mem_append.1 hu with hu|hu
     ·exact ⟨by have:=(h1.2 u hu).1;omega,fun w=>(h1.2 u hu).2 (yG w a (by rw [hk];simp))⟩
     ·exact ⟨by have:=(h2.2 u hu).1;omega,fun w=>(h2.2 u hu).2 (yG w b (by rw [hk];simp))⟩
    ·cases h
   ·cases h
  ·split at h
   ·cases h;exact ⟨Nat.zero_le _,fun u hu=>by cases hu⟩
   ·split at h
    ·cases h
    ·cases h
     exact ⟨by have:1≤nT t:=by cases t;simp only [nT];omega
               simpa using this,fun u hu=>by simp only [List.mem_singleton]at hu;subst hu;exact ⟨Nat.le_refl _,id⟩⟩
theorem qax: ∀ (f:Nat) (t:Tm),nT t≤f→nT t≤2^30→WT t→ ∀ v,BT t v→cr qj Qo [v]=some (.t [.o 4 (((giF f t).getD []).map oT),B (giF f t).isSome])
 |0,t,hf,_,hw,v,hb=>by have:1≤nT t:=by cases t;simp only [nT];omega
                       omega
 |f+1,t,hf,hn,hw,v,hb=>by
  have tk:=qhn t hw v hb
  have pr:=qhm t hw v hb
  have ct:=qhk (qJ t)
  have cp:=qgG t hw v hb
  obtain ⟨τ,vs,rfl,hv⟩:=zm hb
  rw [qF qji rfl]
  rw [giF]
  cases h1:yU t with
  |false=>
   rw [h1]at tk
   simp only [Bool.false_eq_true,if_false,Option.isSome_none,Option.getD_none,List.map_nil]
   simp only [go_sem,qa,qb,qc,qd,qe,qf,reduceCtorEq,yW,tk,pr]
  |true=>
  rw [h1]at tk
  simp only [if_true]
  by_cases h2:qJ t=jB
  ·obtain ⟨a,b,hk⟩:=qad h2
   rw [if_pos h2,hk]
   simp only
   rw [hk]at hv
   obtain ⟨va,vs1,rfl,ba,vb,vs2,rfl,bb,rfl⟩:=hv
   have ka:=QL (t:=t) (u:=a) (by rw [hk];simp)
   have kb:=QL (t:=t) (u:=b) (by rw [hk];simp)
   have ca:=qax f a (by omega) (by omega) (yG hw a (by rw [hk];simp)) va ba
   have cb:=qax f b (by omega) (by omega) (yG hw b (by rw [hk];simp)) vb bb
   have i0: ∀ T,yb T 4 (.i τ [va,vb]) 0=some (.q τ [va,vb] 0 0):=fun T=>zL (τ:=τ) (T:=T) (e:=4) (xs:=[va,vb]) (i:=0) rfl (kg ba)
   have i1: ∀ T,yb T 4 (.i τ [va,vb]) 1=some (.q τ [va,vb] 1 0):=fun T=>zL (τ:=τ) (T:=T) (e:=4) (xs:=[va,vb]) (i:=1) rfl (kg bb)
   have d2:decide (qJ t=[44,47,50])=true:=decide_eq_true h2
   obtain ⟨τa,wa,rfl,-⟩:=zm ba
   obtain ⟨τb,wb,rfl,-⟩:=zm bb
   have la:=fun l h=>(jv f a l h).1
   have lb:=fun l h=>(jv f b l h).1
   have tko: ∀ l:List Tm,(l.map oT).take l.length=l.map oT:=fun l=>List.take_of_length_le (by simp)
   cases ga:giF f a with
   |none=>
    rw [ga]at ca
    simp only [Option.isSome_none,Option.getD_none,List.map_nil]at ca ⊢
    cases gb:giF f b with
    |none=>
     rw [gb]at cb
     simp only [Option.isSome_none,Option.getD_none,List.map_nil]at cb
     simp only [go_sem,qa,qb,qc,qd,qe,qf,reduceCtorEq,yW,tk,pr,d2,i0,i1,ca,cb]
    |some y=>
     rw [gb]at cb
     simp only [Option.isSome_some,Option.getD_some]at cb
     simp only [go_sem,qa,qb,qc,qd,qe,qf,reduceCtorEq,yW,tk,pr,d2,i0,i1,ca,cb,tko,List.length_map]
   |some x=>
    rw [ga]at ca
    simp only [Option.isSome_some,Option.getD_some]at ca ⊢
    cases gb:giF f b with
    |none=>
     rw [gb]at cb
     simp only [Option.isSome_none,Option.getD_none,List.map_nil]at cb ⊢
     simp only [go_sem,qa,qb,qc,qd,qe,qf,reduceCtorEq,yW,tk,pr,d2,i0,i1,ca,cb,tko,List.length_map]
    |some y=>
     rw [gb]at cb
     have l1:=la x ga
     have l2:=lb y gb
     simp only [Option.isSome_some,Option.getD_some]at cb ⊢
     have b1:decide ((x.length+y.length)*56≤lim)=true:=decide_eq_true (by rw [kX];omega)
     have b2:decide (x.length+y.length≤lim)=true:=decide_eq_true (by rw [kX];omega)
     have al:jp 4 (y.map oT)=true:=qb1 (f:=oT) (e:=4) (fun t=>⟨by cases t;rfl,by cases t;rfl⟩) y
     have cE: ∀ l:List Tm,qu (l.map oT)=true:=fun l=>Y7 l
     have tkz:(x.map oT++y.map oT).take (x.length+y.length)=x.map oT++y.map oT:=List.take_of_length_le (by simp)
     rw [List.map_append]
     cases hz:ya (y.map oT)
     all_goals simp only [go_sem,qa,qb,qc,qd,qe,qf,reduceCtorEq,yW,tk,pr,d2,i0,i1,ca,cb,tko,tkz,b1,b2,al,hz,cE,KF,J8,qaC,List.length_append,List.length_map]
  ·rw [if_neg h2]
   have d2:decide (qJ t=[44,47,50])=false:=decide_eq_false h2
   by_cases h3:qJ t=ZS
   ·have d3:decide (qJ t=[116,114,117,101,47,48])=true:=decide_eq_true h3
    rw [if_pos h3]
    simp only [Option.isSome_some,Option.getD_some,List.map_nil]
    simp only [go_sem,qa,qb,qc,qd,qe,qf,reduceCtorEq,yW,tk,pr,d2,d3]
   ·have d3:decide (qJ t=[116,114,117,101,47,48])=false:=decide_eq_false h3
    rw [if_neg h3]
    have d5: ∀ q:Bool,decide (qJ t ≠ [61,47,50])=q→decide (qJ t ≠ pEq)=q:=fun q h=>h
    cases d4:decide (qJ t=[])with
    |true=>
     rw [if_pos (.inl (of_decide_eq_true d4))]
     simp only [Option.isSome_none,Option.getD_none,List.map_nil]
     simp only [go_sem,qa,qb,qc,qd,qe,qf,reduceCtorEq,yW,tk,pr,d2,d3,d4,ct]
    |false=>
     have d4':=of_decide_eq_false d4
     cases hc:za (qJ t)with
     |false=>
      rw [hc]at ct
      rw [if_neg (by simp [d4'])]
      simp only [Option.isSome_some,Option.getD_some,List.map_cons,List.map_nil]
      rw [qX]at cp ⊢
      simp only [go_sem,qa,qb,qc,qd,qe,qf,reduceCtorEq,yW,tk,pr,d2,d3,d4,ct,cp]
     |true=>
      rw [hc]at ct
      cases d6:decide (qJ t ≠ [61,47,50])with
      |true=>
       rw [if_pos (.inr ⟨rfl,of_decide_eq_true d6⟩)]
       simp only [Option.isSome_none,Option.getD_none,List.map_nil]
       simp only [go_sem,qa,qb,qc,qd,qe,qf,reduceCtorEq,yW,tk,pr,d2,d3,d4,d6,ct]
      |false=>
       rw [if_neg (by rintro (h|h);exact d4' h;exact of_decide_eq_false d6 h.2)]
       simp only [Option.isSome_some,Option.getD_some,List.map_cons,List.map_nil]
       rw [qX]at cp ⊢
       simp only [go_sem,qa,qb,qc,qd,qe,qf,reduceCtorEq,yW,tk,pr,d2,d3,d4,d6,ct,cp]
end Go.Vm
namespace Go.Vm
def glF:Nat→Tm→List Tm→List Tm × Bool
 |0,_,us=>(us,false)
 |f+1,t,us=>
  if qJ t=ZS then (us,true)
  else if qJ t=jB then (match t.kids with
   |[a,b]=>if (glF f a us).2=true then glF f b (glF f a us).1 else ((glF f a us).1,false)
   |_=>(us,false))
  else if qJ t=pEq then (us++[t],true)
  else if qJ t=[]∨za (qJ t)=true then (us,false)else (us++[t],true)
theorem Kv: ∀ (f:Nat) (t:Tm),nT t≤f→yU t=true→ ∀ us:List Tm,((glF f t us).2=(giF f t).isSome)∧((glF f t us).1.length≤us.length+nT t)∧(∀ l,giF f t=some l→(glF f t us).1=us++l)
 |0,t,hf,_,us=>by have:1≤nT t:=by cases t;simp only [nT];omega
                  omega
 |f+1,t,hf,ht,us=>by
  have h1:1≤nT t:=by cases t;simp only [nT];omega
  rw [glF,giF,if_pos ht]
  by_cases c1:qJ t=jB
  ·have n1:qJ t ≠ ZS:=by rw [c1];decide
   obtain ⟨a,b,hk⟩:=qad c1
   rw [if_neg n1,if_pos c1,if_pos c1,hk]
   simp only
   have ka:=QL (t:=t) (u:=a) (by rw [hk];simp)
   have kb:=QL (t:=t) (u:=b) (by rw [hk];simp)
   have e:nT t=nTs t.kids+1:=by cases t;rfl
   rw [hk]at e
   simp only [nTs]at e
   have oa:=Jn ht (u:=a) (by rw [hk];simp)
   have ob:=Jn ht (u:=b) (by rw [hk];simp)
   obtain ⟨a1,a2,a3⟩:=Kv f a (by omega) oa us
   cases ga:giF f a with
   |none=>
    rw [ga]at a1
    simp only [Option.isSome_none]at a1
    simp only [a1,Bool.false_eq_true,if_false]
    cases gb:giF f b
    all_goals exact ⟨rfl,by omega,fun l h=>by cases h⟩
   |some x=>
    rw [ga]at a1
    simp only [Option.isSome_some]at a1
    have a4:=a3 x ga
    obtain ⟨b1,b2,b3⟩:=Kv f b (by omega) ob (glF f a us).1
    simp only [a1,if_true]
    cases gb:giF f b with
    |none=>
     rw [gb]at b1
     exact ⟨b1,by omega,fun l h=>by cases h⟩
    |some y=>
     rw [gb]at b1
     refine ⟨b1,by omega,fun l h=> ?_⟩
     have h':x++y=l:=Option.some.inj h
     rw [← h',b3 y gb,a4,List.append_assoc]
  ·rw [if_neg c1,if_neg c1]
   by_cases c2:qJ t=ZS
   ·rw [if_pos c2,if_pos c2]
    exact ⟨rfl,by simp only;omega,fun l h=>by cases h;simp⟩
   ·rw [if_neg c2,if_neg c2]
    by_cases c3:qJ t=pEq
    ·have n3: ¬ (qJ t=[]∨(za (qJ t)=true∧qJ t ≠ pEq)):=by rintro (h|h);rw [c3]at h;cases h;exact h.2 c3
     rw [if_pos c3,if_neg n3]
     exact ⟨rfl,by rw [List.length_append];simp;omega,fun l h=>by cases h;rfl⟩
    ·rw [if_neg c3]
     by_cases c4:qJ t=[]∨za (qJ t)=true
     ·rw [if_pos c4,if_pos (c4.imp id fun h=>⟨h,c3⟩)]
      exact ⟨rfl,by simp only;omega,fun l h=>by cases h⟩
     ·rw [if_neg c4,if_neg (fun h=>c4 (h.imp id fun h=>h.1))]
      exact ⟨rfl,by rw [List.length_append];simp;omega,fun l h=>by cases h;rfl⟩
theorem qaA: ∀ (f:Nat) (t:Tm),nT t≤f→yU t=true→WT t→ ∀ us:List Tm,us.length+nT t≤2^31→cw qj YL [iT false t,.o 4 (us.map (iT false))]=some (.t [.o 4 ((glF f t us).1.map (iT false)),B (glF f t us).2],[iT false t,.d])
 |0,t,hf,_,_,us,_=>by have:1≤nT t:=by cases t;simp only [nT];omega
                      omega
 |f+1,t,hf,ht,hw,us,hu=>by
  have h1:1≤nT t:=by cases t;simp only [nT];omega
  have pr:=qlw t hw (iT false t) (xg false t)
  have ct:=qls (qJ t)
  have cE: ∀ l:List Tm,qu (l.map (iT false))=true:=fun l=>xS (xR false) l
  have kL: ∀ (d:Nat) (l:List Tm),qz d (l.map (iT false))=l.map (iT false):=fun d l=>kV (xR false) d l
  have tko: ∀ l:List Tm,(l.map (iT false)).take l.length=l.map (iT false):=fun l=>List.take_of_length_le (by simp)
  rw [jZ qjW rfl]
  rw [glF]
  have b1:decide ((us.length+1)*56≤lim)=true:=decide_eq_true (by rw [kX];omega)
  have b2:decide (us.length+1≤lim)=true:=decide_eq_true (by rw [kX];omega)
  by_cases c1:qJ t=ZS
  ·have d1:decide (qJ t=[116,114,117,101,47,48])=true:=decide_eq_true c1
   rw [if_pos c1]
   rw [qQ]at pr ⊢
   simp only [go_sem,qa,qb,qc,qd,qe,qf,reduceCtorEq,xN,pr,d1,tko,cE,kL,z6,List.length_map]
  ·have d1:decide (qJ t=[116,114,117,101,47,48])=false:=decide_eq_false c1
   rw [if_neg c1]
   by_cases c2:qJ t=jB
   ·obtain ⟨a,b,hk⟩:=qad c2
    have d2:decide (qJ t=[44,47,50])=true:=decide_eq_true c2
    have ka:=QL (t:=t) (u:=a) (by rw [hk];simp)
    have kb:=QL (t:=t) (u:=b) (by rw [hk];simp)
    have e:nT t=nTs t.kids+1:=by cases t;rfl
    rw [hk]at e
    simp only [nTs]at e
    have oa:=Jn ht (u:=a) (by rw [hk];simp)
    have ob:=Jn ht (u:=b) (by rw [hk];simp)
    have ca:=qaA f a (by omega) oa (yG hw a (by rw [hk];simp)) us (by omega)
    have la:=(Kv f a (by omega) oa us).2.1
    have cb:=qaA f b (by omega) ob (yG hw b (by rw [hk];simp)) (glF f a us).1 (by omega)
    rw [if_pos c2]
    rw [qQ false t]at pr ⊢
    rw [hk]at pr ⊢
    simp only [List.map_cons,List.map_nil]at pr ⊢
    have i0: ∀ T,yb T 4 (.i false [iT false a,iT false b]) 0=some (.q false [iT false a,iT false b] 0 0):=fun T=>zL (τ:=false) (T:=T) (e:=4) (xs:=[iT false a,iT false b]) (i:=0) rfl (kg (xg false a))
    have i1: ∀ T,yb T 4 (.i false [iT false a,iT false b]) 1=some (.q false [iT false a,iT false b] 1 0):=fun T=>zL (τ:=false) (T:=T) (e:=4) (xs:=[iT false a,iT false b]) (i:=1) rfl (kg (xg false b))
    simp only [qQ _ a,qQ _ b]at i0 i1 ca cb pr ⊢
    cases hg:(glF f a us).2 with
    |false=>
     rw [hg]at ca
     simp only [Bool.false_eq_true,if_false]
     simp only [go_sem,qa,qb,qc,qd,qe,qf,reduceCtorEq,xN,pr,d1,d2,i0,i1,ca,tko,cE,kL,z6,List.length_map]
    |true=>
     rw [hg]at ca
     simp only [if_true]
     simp only [go_sem,qa,qb,qc,qd,qe,qf,reduceCtorEq,xN,pr,d1,d2,i0,i1,ca,cb,tko,cE,kL,z6,List.length_map]
   ·have d2:decide (qJ t=[44,47,50])=false:=decide_eq_false c2
    have sn:us.map (iT false)++[iT false t]=(us++[t]).map (iT false):=by simp
    have sz:(us++[t]).length=us.length+1:=by simp
    have tks:=tko (us++[t])
    rw [sz]at tks
    rw [if_neg c2]
    rw [qQ false t]at pr sn ⊢
    by_cases c3:qJ t=pEq
    ·have d3:decide (qJ t=[61,47,50])=true:=decide_eq_true c3
     rw [if_pos c3]
     simp only [go_sem,qa,qb,qc,qd,qe,qf,reduceCtorEq,xN,pr,d1,d2,d3,tko,cE,kL,z6,List.length_map,b1,b2,sn,tks]
    ·have d3:decide (qJ t=[61,47,50])=false:=decide_eq_false c3
     rw [if_neg c3]
     cases d4:decide (qJ t=[])with
     |true=>
      rw [if_pos (.inl (of_decide_eq_true d4))]
      simp only [go_sem,qa,qb,qc,qd,qe,qf,reduceCtorEq,xN,pr,d1,d2,d3,d4,ct,tko,cE,kL,z6,List.length_map]
     |false=>
      have d4':=of_decide_eq_false d4
      cases hc:za (qJ t)with
      |true=>
       rw [hc]at ct
       rw [if_pos (.inr rfl)]
       simp only [go_sem,qa,qb,qc,qd,qe,qf,reduceCtorEq,xN,pr,d1,d2,d3,d4,ct,tko,cE,kL,z6,List.length_map]
      |false=>
       rw [hc]at ct
       rw [if_neg (by simp [d4'])]
       simp only [go_sem,qa,qb,qc,qd,qe,qf,reduceCtorEq,xN,pr,d1,d2,d3,d4,ct,tko,cE,kL,z6,List.length_map,b1,b2,sn,tks]
end Go.Vm
namespace Go.Vm
section
variable {x:Value}
theorem KA {d i:Nat} {nm:Bool}:qI d i nm (.v x)= .v x:=rfl
theorem KB {d i:Nat}:yO d i (.v x)=[]:=rfl
theorem Kz:yg (.v x)=[]:=rfl
theorem KD {tb:List Key}:qR tb (.v x)= .v x:=rfl
theorem Kx:clB (.v x)=true:=rfl
theorem Ky {τ:Bool}:qM τ (.v x)= .v x:=rfl
theorem KC:qP (.v x)=true:=rfl
theorem KE:qZ (.v x)=true:=rfl
end
structure RT where
 k:Int
 s:Str
 n:Int
 h:Value
def rV(e:RT):V:= .a [I e.k,S e.s,I e.n,.v e.h]
theorem qaL {e:RT} (h:e.h.oneCell=true):zB (rV e).cells=true:=by
 have:(V.v e.h).one=true:=h
 simp only [rV,V.cells,zB,this]
 rfl
def cjV:List RT→V
 |[]=>oT (.mk 2 [116,114,117,101] 0 [])
 |[e]=>rV e
 |e::r=> .a [I 4,S [44],I 0,.o 4 [rV e,cjV r]]
theorem qct(e:RT) {r:List RT} (h:r ≠ []):cjV (e::r)= .a [I 4,S [44],I 0,.o 4 [rV e,cjV r]]:=by
 cases r with
 |nil=>exact absurd rfl h
 |cons a r=>rfl
theorem qgs: ∀ l:List RT,clE (cjV l)=true
 |[]=>ZJ _
 |[e]=>rfl
 |e::a::r=>rfl
theorem qgA(τ:Bool) (l:List RT) (hone: ∀ e ∈ l,e.h.oneCell=true) (hl:l.length≤2^40) (i:Nat): ∀ (p w:V),i < l.length→cjV (l.drop i)= .a [I 4,S [44],I 0,.o 4 [p,w]]→clE p=true→clE w=true→zB p.cells=true→p.cells.length=4→zB w.cells=true→w.cells.length=4→
 ∃ p' w',lw qj Qv ⟨[(0,.i τ (l.map rV)),(2,.p (100000,0) 0 0),(3,.p (100000,1) 0 0),(4,I ((i:Int) - 1))],[((100000,0),4,[.a [I 0,S [],I 0,.s (100000,2) 0 0]]),((100000,1),4,[.a [I 4,S [44],I 0,.s (100000,3) 0 2]]),((100000,2),4,[]),((100000,3),4,[p,w])]⟩=some (.exit 0,⟨[(2,.p (100000,0) 0 0),(3,.p (100000,1) 0 0)],[((100000,0),4,[.a [I 0,S [],I 0,.s (100000,2) 0 0]]),((100000,1),4,[.a [I 4,S [44],I 0,.s (100000,3) 0 2]]),((100000,2),4,[]),((100000,3),4,[p',w'])]⟩)∧cjV l= .a [I 4,S [44],I 0,.o 4 [p',w']]∧clE p'=true∧clE w'=true:=by
 induction i with
 |zero=>
  intro p w hi he hp hw o1 n1 o2 n2
  have g: ¬ (0:Int)≤ -1:=by decide
  have e0:((0:Int) - 1)= -1:=rfl
  refine ⟨p,w, ?_,by simpa using he,hp,hw⟩
  rw [qY]
  simp only [go_sem,qa,qb,qc,qd,qe,qf,reduceCtorEq,ZD,e0,g]
 |succ i ih=>
  intro p w hi he hp hw o1 n1 o2 n2
  obtain ⟨e,hx⟩:=xX (l:=l) (i:=i) (by omega)
  have gx:=QH (f:=rV) hx
  have a1:=fun T=>zL (τ:=τ) (T:=T) (e:=4) gx rfl
  have e0:((i+1:Nat):Int) - 1=(i:Int):=by omega
  have e1:w64 ((i:Int) - 1)=(i:Int) - 1:=by rw [zn]<;>omega
  have g:(0:Int)≤(i:Int):=by omega
  have st:=qfB [44] [rV e,.a [I 4,S [44],I 0,.o 4 [p,w]]] rfl
  have hc:cjV (l.drop i)= .a [I 4,S [44],I 0,.o 4 [rV e,.a [I 4,S [44],I 0,.o 4 [p,w]]]]:=by
   rw [ky hx,qct e (by intro h;have:=congrArg List.length h;simp at this;omega),he]
  have ho:=hone e (List.mem_of_getElem? hx)
  obtain ⟨p',w',h1,h2⟩:=ih (rV e) (.a [I 4,S [44],I 0,.o 4 [p,w]]) (by omega) hc rfl rfl (qaL ho) rfl rfl rfl
  refine ⟨p',w', ?_,h2⟩
  have kp:=fun d=>kB d p hp
  have kw:=fun d=>kB d w hw
  have kv: ∀ d,qA d (.v e.h)= .v e.h:=fun _=>rfl
  have vo:(V.v e.h).one=true:=ho
  have vc: ∀ n T,qq n T (.v e.h)=match n with|0=>(.d,T)|_=>(.v e.h,T):=fun n T=>by cases n<;>rfl
  rw [rV]at st gx h1
  rw [← h1,e0,qY]
  simp only [go_sem,qa,qb,qc,qd,qe,qf,reduceCtorEq,ZD,a1,gx,e1,g,st,hp,hw,kp,kw,kv,vo,vc]
theorem qgC(τ:Bool) (l:List RT) (hone: ∀ e ∈ l,e.h.oneCell=true) (hl:l.length≤2^40) (hne:l ≠ []):cr qj Qp [.i τ (l.map rV)]=some (cjV l):=by
 have hp:0 < l.length:=List.length_pos_iff.2 hne
 obtain ⟨z,hz⟩:=xX (l:=l) (i:=l.length - 1) (by omega)
 have hoz:=hone z (List.mem_of_getElem? hz)
 have voz:(V.v z.h).one=true:=hoz
 have vcz: ∀ n T,qq n T (.v z.h)=match n with|0=>(.d,T)|_=>(.v z.h,T):=fun n T=>by cases n<;>rfl
 have kvz: ∀ d,qA d (.v z.h)= .v z.h:=fun _=>rfl
 have gz:=QH (f:=rV) hz
 have az: ∀ T,yb T 4 (.i τ (l.map rV)) ((l.length:Int) - 1)=some (.q τ (l.map rV) (l.length - 1) 0):=fun T=>by
  have:=zL (τ:=τ) (T:=T) (e:=4) gz rfl
  rwa [show ((l.length - 1:Nat):Int)=(l.length:Int) - 1 by omega]at this
 have e1:w64 ((l.length:Int) - 1)=(l.length:Int) - 1:=by rw [zn]<;>omega
 have e2:w64 ((l.length:Int) - 2)=(l.length:Int) - 2:=by rw [zn]<;>omega
 have nz:decide ((l.length:Int)=0)=false:=decide_eq_false (by omega)
 rw [rV]at gz
 by_cases h1:l.length=1
 ·have hl1:l=[z]:=by
   match l,h1 with
   |[a],_=>simp at hz;rw [hz]
  have g: ¬ (0:Int)≤(l.length:Int) - 2:=by omega
  have lp:lw qj Qv ⟨[(0,.i τ (l.map rV)),(2,.p (100000,0) 0 0),(3,.p (100000,1) 0 0),(4,I ((l.length:Int) - 2))],[((100000,0),4,[.a [I 0,S [],I 0,.s (100000,2) 0 0]]),((100000,1),4,[.a [I z.k,S z.s,I z.n,.v z.h]]),((100000,2),4,[])]⟩=some (.exit 0,⟨[(2,.p (100000,0) 0 0),(3,.p (100000,1) 0 0)],[((100000,0),4,[.a [I 0,S [],I 0,.s (100000,2) 0 0]]),((100000,1),4,[.a [I z.k,S z.s,I z.n,.v z.h]]),((100000,2),4,[])]⟩):=by
   rw [qY]
   simp only [go_sem,qa,qb,qc,qd,qe,qf,reduceCtorEq,ZD,g]
  have hr:cjV l= .a [I z.k,S z.s,I z.n,.v z.h]:=by rw [hl1];rfl
  rw [qF qaR rfl,hr]
  simp only [go_sem,qa,qb,qc,qd,qe,qf,reduceCtorEq,jH,nz,az,gz,e1,e2,lp,voz,vcz,kvz,KA,KB,Kz,KD,Kx,Ky,KC,KE,List.length_map]
 ·obtain ⟨e,hx⟩:=xX (l:=l) (i:=l.length - 2) (by omega)
  have ho:=hone e (List.mem_of_getElem? hx)
  have vo:(V.v e.h).one=true:=ho
  have vc: ∀ n T,qq n T (.v e.h)=match n with|0=>(.d,T)|_=>(.v e.h,T):=fun n T=>by cases n<;>rfl
  have kv: ∀ d,qA d (.v e.h)= .v e.h:=fun _=>rfl
  have gx:=QH (f:=rV) hx
  have a1: ∀ T,yb T 4 (.i τ (l.map rV)) ((l.length:Int) - 2)=some (.q τ (l.map rV) (l.length - 2) 0):=fun T=>by
   have:=zL (τ:=τ) (T:=T) (e:=4) gx rfl
   rwa [show ((l.length - 2:Nat):Int)=(l.length:Int) - 2 by omega]at this
  have e3:w64 ((l.length:Int) - 2 - 1)=((l.length - 2:Nat):Int) - 1:=by rw [zn]<;>omega
  have g:(0:Int)≤(l.length:Int) - 2:=by omega
  have hd:l.drop (l.length - 2)=[e,z]:=by
   rw [ky hx,show l.length - 2+1=l.length - 1 by omega,ky hz,show l.length - 1+1=l.length by omega,List.drop_length]
  have st:=qfB [44] [rV e,rV z] rfl
  obtain ⟨p',w',lb,hc,kp',kw'⟩:=qgA τ l hone hl (l.length - 2) (rV e) (rV z) (by omega) (by rw [hd];rfl) rfl rfl (qaL ho) rfl (qaL hoz) rfl
  have lp:lw qj Qv ⟨[(0,.i τ (l.map rV)),(2,.p (100000,0) 0 0),(3,.p (100000,1) 0 0),(4,I ((l.length:Int) - 2))],[((100000,0),4,[.a [I 0,S [],I 0,.s (100000,2) 0 0]]),((100000,1),4,[.a [I z.k,S z.s,I z.n,.v z.h]]),((100000,2),4,[])]⟩=some (.exit 0,⟨[(2,.p (100000,0) 0 0),(3,.p (100000,1) 0 0)],[((100000,0),4,[.a [I 0,S [],I 0,.s (100000,2) 0 0]]),((100000,1),4,[.a [I 4,S [44],I 0,.s (100000,3) 0 2]]),((100000,2),4,[]),((100000,3),4,[p',w'])]⟩):=by
   rw [rV,rV]at st lb
   rw [rV]at gx
   rw [← lb,qY]
   simp only [go_sem,qa,qb,qc,qd,qe,qf,reduceCtorEq,ZD,a1,gx,e3,g,st,kv,vo,vc,kvz,voz,vcz]
  rw [qF qaR rfl,hc]
  simp only [go_sem,qa,qb,qc,qd,qe,qf,reduceCtorEq,jH,nz,az,gz,e1,e2,lp,kp',kw',voz,vcz,kvz,KA,KB,Kz,KD,Kx,Ky,KC,KE,List.length_map]
end Go.Vm
namespace Go.Vm
def zA(t:Tm):Option (List Tm):=giF (nT t) t
theorem qhe(f:Nat) (t:Tm) (h:yU t=false):giF f t=none:=by
 cases f with
 |zero=>rfl
 |succ f=>rw [giF,h];rfl
theorem qiy(t:Tm) (hn:nT t≤2^30) (hw:WT t):cr qj JT [iT false t]=some (.t [.o 4 (((zA t).getD []).map (iT false)),B (zA t).isSome]):=by
 have tk:=qlx t hw (iT false t) (xg false t)
 have cE: ∀ l:List Tm,qu (l.map (iT false))=true:=fun l=>xS (xR false) l
 have kL: ∀ (d:Nat) (l:List Tm),qz d (l.map (iT false))=l.map (iT false):=fun d l=>kV (xR false) d l
 have tko: ∀ l:List Tm,(l.map (iT false)).take l.length=l.map (iT false):=fun l=>List.take_of_length_le (by simp)
 rw [qF qjX rfl]
 cases ht:yU t with
 |false=>
  rw [ht]at tk
  unfold zA
  rw [qhe _ t ht]
  rw [qQ]at tk ⊢
  simp only [Option.getD_none,List.map_nil,Option.isSome_none]
  simp only [go_sem,qa,qb,qc,qd,qe,qf,reduceCtorEq,jN,tk]
 |true=>
  rw [ht]at tk
  have g:=qaA (nT t) t (Nat.le_refl _) ht hw [] (by simp;omega)
  obtain ⟨g1,g2,g3⟩:=Kv (nT t) t (Nat.le_refl _) ht []
  unfold zA
  cases hg:giF (nT t) t with
  |none=>
   rw [hg]at g1
   rw [g1]at g
   rw [qQ]at tk g ⊢
   simp only [Option.getD_none,List.map_nil,Option.isSome_none]at g ⊢
   simp only [go_sem,qa,qb,qc,qd,qe,qf,reduceCtorEq,jN,tk,g,cE,kL,tko,List.length_map]
  |some l=>
   rw [hg]at g1
   rw [g1,g3 l hg]at g
   rw [qQ]at tk g ⊢
   simp only [Option.getD_some,List.nil_append,List.map_nil,Option.isSome_some]at g ⊢
   simp only [go_sem,qa,qb,qc,qd,qe,qf,reduceCtorEq,jN,tk,g,cE,kL,tko,List.length_map]
theorem qgE(τ σ:Bool) (t:Tm):qM τ (iT σ t)=iT σ t:=by rw [qQ];rfl
theorem qcI(τ σ:Bool): ∀ (l:List Tm),qO τ (l.map (iT σ))=l.map (iT σ)
 |[]=>rfl
 |t::l=>by simp only [List.map_cons,qO,qgE,qcI τ σ l]
theorem qlv(t:Tm) (hn:nT t≤Lm) (hw:WT t):cr qj JM [iT false t]=some (.t [.o 4 (((zA t).getD []).map oT),B (zA t).isSome]):=by
 have raw:=qiy t (by unfold Lm at hn;omega) hw
 have cv:=fun l=>qcI true false l
 have gl:=fun l (h:zA t=some l)=>jv (nT t) t l h
 have cE: ∀ l:List Tm,qu (l.map (iT false))=true:=fun l=>xS (xR false) l
 have kL: ∀ (d:Nat) (l:List Tm),qz d (l.map (iT false))=l.map (iT false):=fun d l=>kV (xR false) d l
 have tko: ∀ l:List Tm,(l.map (iT false)).take l.length=l.map (iT false):=fun l=>List.take_of_length_le (by simp)
 have tkm: ∀ l:List Tm,(l.map oT).take l.length=l.map oT:=fun l=>List.take_of_length_le (by simp)
 have hc:cr qj YM [.i true (((zA t).getD []).map (iT false))]=some (.o 4 (((zA t).getD []).map oT)):=by
  refine qdD true _ _ (Ka false _) ?_ ?_
  ·cases h:zA t with
   |none=>exact Nat.zero_le _
   |some l=>have:=(gl l h).1;simp only [Option.getD_some];omega
  ·intro u hu v hb
   cases h:zA t with
   |none=>rw [h]at hu;cases hu
   |some l=>rw [h]at hu;exact KK u (((gl l h).2 u hu).2 hw) v hb
 rw [qF qjM rfl]
 rw [qQ]at raw ⊢
 simp only [go_sem,qa,qb,qc,qd,qe,qf,reduceCtorEq,Zl,raw,hc,cv,cE,kL,tko,tkm,List.length_map]
end Go.Vm
namespace Go.Vm
def cjS:List Tm→V
 |[]=>oT (.mk 2 [116,114,117,101] 0 [])
 |[e]=>iT false e
 |e::r=> .a [I 4,S [44],I 0,.o 4 [iT false e,cjS r]]
def cjT:List Tm→Tm
 |[]=> .mk 2 [116,114,117,101] 0 []
 |[e]=>e
 |e::r=> .mk 4 [44] 0 [e,cjT r]
theorem qgq(e:Tm) {r:List Tm} (h:r ≠ []):cjS (e::r)= .a [I 4,S [44],I 0,.o 4 [iT false e,cjS r]]:=by
 cases r with
 |nil=>exact absurd rfl h
 |cons a r=>rfl
theorem qgr(e:Tm) {r:List Tm} (h:r ≠ []):cjT (e::r)= .mk 4 [44] 0 [e,cjT r]:=by
 cases r with
 |nil=>exact absurd rfl h
 |cons a r=>rfl
theorem qbU: ∀ l:List Tm,(∀ t ∈ l,WT t)→WT (cjT l)
 |[],_=>by simp only [cjT,WT,WTs,inI,Lm,List.length_nil,List.length_cons];decide
 |[e],h=>h e (by simp)
 |e::a::r,h=>by
  have h1:=h e (by simp)
  have h2:=qbU (a::r) (fun t ht=>h t (by simp at ht ⊢;exact .inr ht))
  show WT (.mk 4 [44] 0 [e,cjT (a::r)])
  simp only [WT,WTs,and_true,inI,Lm,List.length_nil,List.length_cons]
  exact ⟨by omega,by omega,by omega,by omega,h1,h2⟩
theorem qbE: ∀ l:List Tm,BT (cjT l) (qM true (cjS l))
 |[]=>jo.2 ⟨true,[],rfl,rfl⟩
 |[e]=>by show BT e (qM true (iT false e));rw [qcL];exact xg false e
 |e::a::r=>by
  have h:=qbE (a::r)
  refine jo.2 ⟨true,[iT false e,qM true (cjS (a::r))], ?_, ?_⟩
  ·show qM true (.a [I 4,S [44],I 0,.o 4 [iT false e,cjS (a::r)]])=_
   simp only [qM,qO,qcL]
   rfl
  ·exact ⟨_,_,rfl,xg false e,_,_,rfl,h,rfl⟩
theorem qix(s:Str) (e:Tm) (p w:V) (hp:clE p=true) (hw:clE w=true):cw qj XY [S s,iT false e,.a [I 4,S [44],I 0,.o 4 [p,w]]]=some (.a [I 4,S s,I 0,.o 4 [iT false e,.a [I 4,S [44],I 0,.o 4 [p,w]]]],[S s,iT false e,.a [I 4,S [44],I 0,.d]]):=by
 have kp:=fun d=>kB d p hp
 have kw:=fun d=>kB d w hw
 rw [jZ qeg rfl,qQ]
 simp only [go_sem,qa,qb,qc,qd,qe,qf,reduceCtorEq,Qm,z6,hp,hw,kp,kw]
theorem qiw(s:Str) (e z:Tm):cw qj XY [S s,iT false e,iT false z]=some (.a [I 4,S s,I 0,.o 4 [iT false e,iT false z]],[S s,iT false e,iT false z]):=by
 rw [jZ qeg rfl,qQ,qQ]
 simp only [go_sem,qa,qb,qc,qd,qe,qf,reduceCtorEq,Qm,z6]
theorem qaK(e:Tm):zB (iT false e).cells=true:=by rw [qQ];rfl
theorem j5(e:Tm):(iT false e).cells.length=4:=by rw [qQ];rfl
theorem qli(τ:Bool) (l:List Tm) (hl:l.length≤2^40) (i:Nat): ∀ (p w:V),i < l.length→cjS (l.drop i)= .a [I 4,S [44],I 0,.o 4 [p,w]]→clE p=true→clE w=true→zB p.cells=true→p.cells.length=4→zB w.cells=true→w.cells.length=4→
 ∃ p' w',lw qj Qw ⟨[(0,.i τ (l.map (iT false))),(2,.p (100000,0) 0 0),(3,.p (100000,1) 0 0),(4,I ((i:Int) - 1))],[((100000,0),4,[.a [I 0,S [],I 0,.s (100000,2) 0 0]]),((100000,1),4,[.a [I 4,S [44],I 0,.s (100000,3) 0 2]]),((100000,2),4,[]),((100000,3),4,[p,w])]⟩=some (.exit 0,⟨[(2,.p (100000,0) 0 0),(3,.p (100000,1) 0 0)],[((100000,0),4,[.a [I 0,S [],I 0,.s (100000,2) 0 0]]),((100000,1),4,[.a [I 4,S [44],I 0,.s (100000,3) 0 2]]),((100000,2),4,[]),((100000,3),4,[p',w'])]⟩)∧cjS l= .a [I 4,S [44],I 0,.o 4 [p',w']]∧clE p'=true∧clE w'=true:=by
 induction i with
 |zero=>
  intro p w hi he hp hw o1 n1 o2 n2
  have g: ¬ (0:Int)≤ -1:=by decide
  have e0:((0:Int) - 1)= -1:=rfl
  refine ⟨p,w, ?_,by simpa using he,hp,hw⟩
  rw [qY]
  simp only [go_sem,qa,qb,qc,qd,qe,qf,reduceCtorEq,ZF,e0,g]
 |succ i ih=>
  intro p w hi he hp hw o1 n1 o2 n2
  obtain ⟨e,hx⟩:=xX (l:=l) (i:=i) (by omega)
  have gx:=QH (f:=iT false) hx
  have a1:=fun T=>zL (τ:=τ) (T:=T) (e:=4) gx (j5 e)
  have e0:((i+1:Nat):Int) - 1=(i:Int):=by omega
  have e1:w64 ((i:Int) - 1)=(i:Int) - 1:=by rw [zn]<;>omega
  have g:(0:Int)≤(i:Int):=by omega
  have st:=qix [44] e p w hp hw
  have hc:cjS (l.drop i)= .a [I 4,S [44],I 0,.o 4 [iT false e,.a [I 4,S [44],I 0,.o 4 [p,w]]]]:=by
   rw [ky hx,qgq e (by intro h;have:=congrArg List.length h;simp at this;omega),he]
  obtain ⟨p',w',h1,h2⟩:=ih (iT false e) (.a [I 4,S [44],I 0,.o 4 [p,w]]) (by omega) hc (xR _ _) rfl (qaK e) (j5 e) rfl rfl
  refine ⟨p',w', ?_,h2⟩
  have kp:=fun d=>kB d p hp
  have kw:=fun d=>kB d w hw
  rw [qQ false e]at st gx h1
  rw [← h1,e0,qY]
  simp only [go_sem,qa,qb,qc,qd,qe,qf,reduceCtorEq,ZF,a1,gx,e1,g,st,hp,hw,kp,kw]
theorem qlj(τ:Bool) (l:List Tm) (hl:l.length≤2^40):cr qj JS [.i τ (l.map (iT false))]=some (cjS l):=by
 by_cases hne:l=[]
 ·subst hne
  have at0:=qly [116,114,117,101]
  rw [qF qaS rfl]
  show _=some (oT (.mk 2 [116,114,117,101] 0 []))
  rw [ja]at at0 ⊢
  simp only [List.map_nil]
  simp only [go_sem,qa,qb,qc,qd,qe,qf,reduceCtorEq,jM,at0]
 have hp:0 < l.length:=List.length_pos_iff.2 hne
 obtain ⟨z,hz⟩:=xX (l:=l) (i:=l.length - 1) (by omega)
 have gz:=QH (f:=iT false) hz
 have az: ∀ T,yb T 4 (.i τ (l.map (iT false))) ((l.length:Int) - 1)=some (.q τ (l.map (iT false)) (l.length - 1) 0):=fun T=>by
  have:=zL (τ:=τ) (T:=T) (e:=4) gz (j5 z)
  rwa [show ((l.length - 1:Nat):Int)=(l.length:Int) - 1 by omega]at this
 have e1:w64 ((l.length:Int) - 1)=(l.length:Int) - 1:=by rw [zn]<;>omega
 have e2:w64 ((l.length:Int) - 2)=(l.length:Int) - 2:=by rw [zn]<;>omega
 have nz:decide ((l.length:Int)=0)=false:=decide_eq_false (by omega)
 rw [qQ]at gz
 by_cases h1:l.length=1
 ·have hl1:l=[z]:=by
   match l,h1 with
   |[a],_=>simp at hz;rw [hz]
  have g: ¬ (0:Int)≤(l.length:Int) - 2:=by omega
  have lp:lw qj Qw ⟨[(0,.i τ (l.map (iT false))),(2,.p (100000,0) 0 0),(3,.p (100000,1) 0 0),(4,I ((l.length:Int) - 2))],[((100000,0),4,[.a [I 0,S [],I 0,.s (100000,2) 0 0]]),((100000,1),4,[.a [I z.kind,S z.name,I z.num,.i false (z.kids.map (iT false))]]),((100000,2),4,[])]⟩=some (.exit 0,⟨[(2,.p (100000,0) 0 0),(3,.p (100000,1) 0 0)],[((100000,0),4,[.a [I 0,S [],I 0,.s (100000,2) 0 0]]),((100000,1),4,[.a [I z.kind,S z.name,I z.num,.i false (z.kids.map (iT false))]]),((100000,2),4,[])]⟩):=by
   rw [qY]
   simp only [go_sem,qa,qb,qc,qd,qe,qf,reduceCtorEq,ZF,g]
  have hr:cjS l= .a [I z.kind,S z.name,I z.num,.i false (z.kids.map (iT false))]:=by rw [hl1, ← qQ];rfl
  rw [qF qaS rfl,hr]
  simp only [go_sem,qa,qb,qc,qd,qe,qf,reduceCtorEq,jM,nz,az,gz,e1,e2,lp,List.length_map]
 ·obtain ⟨e,hx⟩:=xX (l:=l) (i:=l.length - 2) (by omega)
  have gx:=QH (f:=iT false) hx
  have a1: ∀ T,yb T 4 (.i τ (l.map (iT false))) ((l.length:Int) - 2)=some (.q τ (l.map (iT false)) (l.length - 2) 0):=fun T=>by
   have:=zL (τ:=τ) (T:=T) (e:=4) gx (j5 e)
   rwa [show ((l.length - 2:Nat):Int)=(l.length:Int) - 2 by omega]at this
  have e3:w64 ((l.length:Int) - 2 - 1)=((l.length - 2:Nat):Int) - 1:=by rw [zn]<;>omega
  have g:(0:Int)≤(l.length:Int) - 2:=by omega
  have hd:l.drop (l.length - 2)=[e,z]:=by
   rw [ky hx,show l.length - 2+1=l.length - 1 by omega,ky hz,show l.length - 1+1=l.length by omega,List.drop_length]
  have st:=qiw [44] e z
  obtain ⟨p',w',lb,hc,kp',kw'⟩:=qli τ l hl (l.length - 2) (iT false e) (iT false z) (by omega) (by rw [hd];rfl) (xR _ _) (xR _ _) (qaK e) (j5 e) (qaK z) (j5 z)
  have lp:lw qj Qw ⟨[(0,.i τ (l.map (iT false))),(2,.p (100000,0) 0 0),(3,.p (100000,1) 0 0),(4,I ((l.length:Int) - 2))],[((100000,0),4,[.a [I 0,S [],I 0,.s (100000,2) 0 0]]),((100000,1),4,[.a [I z.kind,S z.name,I z.num,.i false (z.kids.map (iT false))]]),((100000,2),4,[])]⟩=some (.exit 0,⟨[(2,.p (100000,0) 0 0),(3,.p (100000,1) 0 0)],[((100000,0),4,[.a [I 0,S [],I 0,.s (100000,2) 0 0]]),((100000,1),4,[.a [I 4,S [44],I 0,.s (100000,3) 0 2]]),((100000,2),4,[]),((100000,3),4,[p',w'])]⟩):=by
   rw [qQ false e,qQ false z]at st lb
   rw [qQ]at gx
   rw [← lb,qY]
   simp only [go_sem,qa,qb,qc,qd,qe,qf,reduceCtorEq,ZF,a1,gx,e3,g,st]
  have kk:=fun d=>kB d p' kp'
  have kl:=fun d=>kB d w' kw'
  rw [qF qaS rfl,hc]
  simp only [go_sem,qa,qb,qc,qd,qe,qf,reduceCtorEq,jM,nz,az,gz,e1,e2,lp,kp',kw',kk,kl,List.length_map]
end Go.Vm
namespace Go.Vm
def yy(b:Tm):Tm × Tm × Bool:=
 match zA b with
 |some (g::r)=>(g,cjT r,true)
 |_=>(.mk 0 [] 0 [],.mk 0 [] 0 [],false)
def fgS(b:Tm):V:=
 match zA b with
 |some (g::r)=> .t [iT false g,cjS r,B true]
 |_=> .t [oT (.mk 0 [] 0 []),oT (.mk 0 [] 0 []),B false]
theorem KO: ∀ l:List Tm,qP (cjS l)=true
 |[]=>rfl
 |[e]=>ZQ e
 |e::a::r=>by
  show qP (.a [I 4,S [44],I 0,.o 4 [iT false e,cjS (a::r)]])=true
  simp only [qP,qW,ZQ,KO (a::r)]
  rfl
theorem qcs: ∀ l:List Tm,(∃ k s n h,cjS l= .a [I k,S s,I n,.i false h]∧qW h=true)∨ ∃ k s n h,cjS l= .a [I k,S s,I n,.o 4 h]∧qu h=true∧qW h=true
 |[]=> .inr ⟨_,_,_,[],rfl,rfl,rfl⟩
 |[e]=> .inl ⟨e.kind,e.name,e.num,e.kids.map (iT false),qQ false e,qi6 _⟩
 |e::a::r=> .inr ⟨4,[44],0,[iT false e,cjS (a::r)],rfl,by
  have:clE (cjS (a::r))=true:=by
   cases r with
   |nil=>exact xR false a
   |cons b r=>rfl
  simp only [qu,xR,this];rfl,by simp only [qW,ZQ,KO];rfl⟩
theorem qiz(h b:Tm) (file:Str) (hn:nT b≤Lm) (hw:WT b):cr qj JU [.a [I h.kind,S h.name,I h.num,.i false (h.kids.map (iT false)),I b.kind,S b.name,I b.num,.i false (b.kids.map (iT false)),S file]]=some (fgS b):=by
 have gi:=qlv b hn hw
 have gl:=fun l (h:zA b=some l)=>jv (nT b) b l h
 rw [qQ]at gi
 rw [qF qjY rfl]
 unfold fgS
 cases hg:zA b with
 |none=>
  rw [hg]at gi
  simp only [Option.getD_none,List.map_nil,Option.isSome_none]at gi ⊢
  rw [ja]
  simp only [go_sem,qa,qb,qc,qd,qe,qf,reduceCtorEq,jl,gi]
 |some l=>
  rw [hg]at gi
  simp only [Option.getD_some,Option.isSome_some]at gi
  have hl:=(gl l hg).1
  cases l with
  |nil=>
   simp only [List.map_nil]at gi ⊢
   rw [ja]
   simp only [go_sem,qa,qb,qc,qd,qe,qf,reduceCtorEq,jl,gi]
  |cons g r=>
   have cv:qO false ((g::r).map oT)=(g::r).map (iT false):=qgD false _
   have cj:=qlj false r (by simp only [List.length_cons]at hl;unfold Lm at hn;omega)
   have a0:=fun T=>zL (τ:=false) (T:=T) (e:=4) (xs:=(g::r).map (iT false)) (i:=0) (z:=iT false g) rfl (j5 g)
   have nz:(((r.length+1:Nat):Int)=0)=False:=by simp only [eq_iff_iff,iff_false];omega
   have sv: ∀ T,Qb T 4 (.i false ((g::r).map (iT false))) (some (I 1)) none=some (.i false (r.map (iT false))):=fun T=>by
    have hk:Xk 4 (iT false g::r.map (iT false))=true:=by simp [Xk,j5]
    have h1:yZ 0 (some (I 1))=some 1:=rfl
    have h2: ∀ n,yZ n none=some n:=fun _=>rfl
    simp only [Qb,jy,h1,h2,List.map_cons,List.length_cons,List.length_map,hk,if_true]
    rw [if_pos ⟨by omega,Nat.le_refl _⟩]
    simp only [List.drop_succ_cons,List.drop_zero,Nat.add_sub_cancel]
    rw [List.take_of_length_le (by simp)]
   have nt:=KO r
   simp only [List.length_cons,List.map_cons]at gi cv a0 sv ⊢
   rw [qX g]at gi
   rw [qQ false g]at cv a0 sv ⊢
   rcases qcs r with ⟨k,s,n,hh,e,nh⟩|⟨k,s,n,hh,e,ch,nh⟩
   ·rw [e]at cj nt ⊢
    simp only [go_sem,qa,qb,qc,qd,qe,qf,reduceCtorEq,jl,gi,cv,cj,a0,nz,sv,nt,nh,List.length_map,List.length_cons]
   ·have kh:=fun d=>j4 d hh ch
    rw [e]at cj nt ⊢
    simp only [go_sem,qa,qb,qc,qd,qe,qf,reduceCtorEq,jl,gi,cv,cj,a0,nz,sv,nt,nh,ch,kh,List.length_map,List.length_cons]
theorem qdl {b:Tm} (hw:WT b) {g:Tm} {r:List Tm} (h:zA b=some (g::r)):WT g∧WT (cjT r):=by
 have gl:=(jv (nT b) b _ h).2
 exact ⟨(gl g (by simp)).2 hw,qbU r fun t ht=>(gl t (by simp [ht])).2 hw⟩
theorem qlu(h b:Tm) (file:Str) (hn:nT b≤Lm) (hw:WT b):cr qj XW [.a [I h.kind,S h.name,I h.num,.i false (h.kids.map (iT false)),I b.kind,S b.name,I b.num,.i false (b.kids.map (iT false)),S file]]=some (.t [oT (yy b).1,oT (yy b).2.1,B (yy b).2.2]):=by
 have raw:=qiz h b file hn hw
 have zz:=KK (.mk 0 [] 0 []) (by simp only [WT,WTs,inI,Lm,List.length_nil];decide) (.a [I 0,S [],I 0,.i true []]) (jo.2 ⟨true,[],rfl,rfl⟩)
 rw [ja]at zz
 rw [qF qjL rfl]
 unfold fgS at raw
 unfold yy
 cases hg:zA b with
 |none=>
  rw [hg]at raw
  simp only [ja]at raw ⊢
  simp only [go_sem,qa,qb,qc,qd,qe,qf,reduceCtorEq,jj,raw,zz]
 |some l=>
  cases l with
  |nil=>
   rw [hg]at raw
   simp only [ja]at raw ⊢
   simp only [go_sem,qa,qb,qc,qd,qe,qf,reduceCtorEq,jj,raw,zz]
  |cons g r=>
   rw [hg]at raw
   simp only at raw ⊢
   obtain ⟨w1,w2⟩:=qdl hw hg
   have c1:=KK g w1 _ (xg false g)
   have c2:=KK (cjT r) w2 _ (qbE r)
   have nt:=KO r
   have tk:=fun t:Tm=>List.take_of_length_le (l:=t.kids.map oT) (i:=t.kids.length) (by simp)
   rw [qX (cjT r)]at c2 ⊢
   rw [qQ false g]at raw c1
   rw [qX g]at c1 ⊢
   rcases qcs r with ⟨k,s,n,hh,e,nh⟩|⟨k,s,n,hh,e,ch,nh⟩
   ·rw [e]at raw nt c2
    simp only [qM,qO,qag,qah]at c2
    simp only [go_sem,qa,qb,qc,qd,qe,qf,reduceCtorEq,jj,raw,c1,c2,nt,nh,tk,List.length_map]
   ·have kh:=fun d=>j4 d hh ch
    have tkh:hh.take hh.length=hh:=List.take_of_length_le (Nat.le_refl _)
    rw [e]at raw nt c2
    simp only [qM,qO,qag,qah]at c2
    simp only [go_sem,qa,qb,qc,qd,qe,qf,reduceCtorEq,jj,raw,c1,c2,nt,nh,ch,kh,tk,tkh,List.length_map]
end Go.Vm
namespace Go.Vm
def Ks:AC:= .reg [.new 1 (.t 0),
 .new 2 (.c (.a [(I 0),(S []),(I 0),(.n 4)])),
 .new 3 (.c (.a [(I 0),(S []),(I 0),(.n 4)])),
 .mv 4 (.c (B false))]
def Kt:AC:= .keep [1,2,3] (.reg [.fa 8 (.t 1) 4,
 .ld 9 true 4 (.t 8),
 .call (some 10) (.c (Fc Qo)) [(.t 9)] (.ro false),
 .mv 7 (.t 10),
 .ext 11 (.t 7) 0,
 .ext 12 (.t 7) 1,
 .mv 5 (.t 11),
 .mv 6 (.t 12)])
def QF:AC:= .keep [2,3,5,6] (.seq
 (.reg [.mv 13 (.t 6),
  .un 14 .not (.t 13),
  .mv 15 (.t 14),
  .gd 15 false (some 16) (.mv 16 (.t 5)),
  .gd 15 false (some 17) (.len 17 (.t 16)),
  .gd 15 false (some 18) (.bin 18 .eql (.t 17) (.c (I 0))),
  .pick 19 (.t 15) (.c (B true)) (.t 18)])
 (.keep [2,3,5,19]
  (.cond (.t 19)
   (.seq
    (.reg [.build 20 (.a [(I 0),(S []),(I 0),(.n 4)]) [],
     .build 21 (.a [(I 0),(S []),(I 0),(.n 4)]) [],
     .st 4 (.t 2) (.t 20),
     .st 4 (.t 3) (.t 21),
     .mv 4 (.c (B false))])
   (.keep [2,3,4]
    .ret))
   .skip)))
def QG:AC:= .keep [2,3,5] (.seq
 (.dreg [⟨0,[]⟩,⟨0,[(0,0),(0,1),(0,2),(0,3),(9,0),(10,0),(10,1),(10,2),(10,3)]⟩,⟨0,[(0,0),(0,1),(0,2),(0,3),(1,0),(9,0),(10,0),(10,1),(10,2),(10,3)]⟩,⟨0,[]⟩,⟨0,[(0,0),(0,1),(0,2),(0,3),(9,0),(10,0),(10,1),(10,2),(10,3)]⟩,⟨2,[(0,0),(0,1),(0,2),(0,3),(9,0),(10,0),(10,1),(10,2),(10,3)]⟩,⟨1,[(2,0)]⟩,⟨1,[(3,0)]⟩,⟨0,[]⟩]
  [.mv 22 (.t 5),
   .ia 23 4 (.t 22) (.c (I 0)),
   .ldq 24 true 4 (.t 23),
   .mv 25 (.t 5),
   .sl 26 4 (.t 25) (some (.c (I 1))) none,
   .call (some 27) (.c (Fc Qp)) [(.t 26)] (.ro false),
   .st 4 (.t 2) (.t 24),
   .st 4 (.t 3) (.t 27),
   .mv 4 (.c (B true))])
 (.keep [2,3,4]
  .ret))
section
variable (h b:Tm) (file:Str) (τ0 τ1:Bool) (vs0 vs1:List V)
theorem z_0:xw qj Ks ⟨[(0,.a [I h.kind,S h.name,I h.num,.i τ0 vs0,I b.kind,S b.name,I b.num,.i τ1 vs1,S file])],[]⟩=some (.normal,⟨[(4,B false),(3,.p (3,0) 0 0),(2,.p (2,0) 0 0),(1,.p (1,0) 0 0),(0,.a [I h.kind,S h.name,I h.num,.i τ0 vs0,I b.kind,S b.name,I b.num,.i τ1 vs1,S file])],[((3,0),4,[.a [I 0,S [],I 0,.n 4]]),((2,0),4,[.a [I 0,S [],I 0,.n 4]]),((1,0),9,[.a [I h.kind,S h.name,I h.num,.i τ0 vs0,I b.kind,S b.name,I b.num,.i τ1 vs1,S file]])]⟩):=by
 simp only [go_sem,qa,qb,qc,qd,qe,qf,reduceCtorEq,Ks]
theorem z_1(l:List Tm) (q:Bool) (gi:cr qj Qo [.a [I b.kind,S b.name,I b.num,.i τ1 vs1]]=some (.t [.o 4 (l.map oT),B q])):xw qj Kt ⟨[(4,B false),(3,.p (3,0) 0 0),(2,.p (2,0) 0 0),(1,.p (1,0) 0 0),(0,.a [I h.kind,S h.name,I h.num,.i τ0 vs0,I b.kind,S b.name,I b.num,.i τ1 vs1,S file])],[((3,0),4,[.a [I 0,S [],I 0,.n 4]]),((2,0),4,[.a [I 0,S [],I 0,.n 4]]),((1,0),9,[.a [I h.kind,S h.name,I h.num,.i τ0 vs0,I b.kind,S b.name,I b.num,.i τ1 vs1,S file]])]⟩=some (.normal,⟨[(6,B q),(5,V.s (10,0) 0 (l).length),(12,B q),(11,V.s (10,0) 0 (l).length),(7,V.t [V.s (10,0) 0 (l).length,B q]),(10,V.t [V.s (10,0) 0 (l).length,B q]),(9,V.a [I b.kind,S b.name,I b.num,V.i τ1 vs1]),(8,V.p (1,0) 0 4),(1,V.p (1,0) 0 0),(2,V.p (2,0) 0 0),(3,V.p (3,0) 0 0)],((10,0),4,(l).map oT)::[((3,0),4,[.a [I 0,S [],I 0,.n 4]]),((2,0),4,[.a [I 0,S [],I 0,.n 4]]),((1,0),9,[.a [I h.kind,S h.name,I h.num,.i τ0 vs0,I b.kind,S b.name,I b.num,.i τ1 vs1,S file]])]⟩):=by
 simp only [go_sem,qa,qb,qc,qd,qe,qf,reduceCtorEq,Kt,gi,List.length_map]
theorem qmf(l:List Tm) (q:Bool) (hq:q=false∨l=[]):xw qj QF ⟨[(6,B q),(5,V.s (10,0) 0 (l).length),(12,B q),(11,V.s (10,0) 0 (l).length),(7,V.t [V.s (10,0) 0 (l).length,B q]),(10,V.t [V.s (10,0) 0 (l).length,B q]),(9,V.a [I b.kind,S b.name,I b.num,V.i τ1 vs1]),(8,V.p (1,0) 0 4),(1,V.p (1,0) 0 0),(2,V.p (2,0) 0 0),(3,V.p (3,0) 0 0)],((10,0),4,(l).map oT)::[((3,0),4,[.a [I 0,S [],I 0,.n 4]]),((2,0),4,[.a [I 0,S [],I 0,.n 4]]),((1,0),9,[.a [I h.kind,S h.name,I h.num,.i τ0 vs0,I b.kind,S b.name,I b.num,.i τ1 vs1,S file]])]⟩=some (.ret,⟨[(2,.p (2,0) 0 0),(3,.p (3,0) 0 0),(4,B false)],[((3,0),4,[.a [I 0,S [],I 0,.n 4]]),((2,0),4,[.a [I 0,S [],I 0,.n 4]]),((10,0),4,(l).map oT),((1,0),9,[.a [I h.kind,S h.name,I h.num,.i τ0 vs0,I b.kind,S b.name,I b.num,.i τ1 vs1,S file]])]⟩):=by
 have nz:q=true→((l.length:Nat):Int)=0:=fun h=>by
  rcases hq with h'|h'
  ·rw [h]at h';cases h'
  ·subst h';rfl
 cases q with
 |false=>simp only [go_sem,qa,qb,qc,qd,qe,qf,reduceCtorEq,QF,List.length_map]
 |true=>
  have nz':=nz rfl
  simp only [go_sem,qa,qb,qc,qd,qe,qf,reduceCtorEq,QF,nz',List.length_map]
theorem z_2(l:List Tm) (hl:l ≠ []):xw qj QF ⟨[(6,B true),(5,V.s (10,0) 0 (l).length),(12,B true),(11,V.s (10,0) 0 (l).length),(7,V.t [V.s (10,0) 0 (l).length,B true]),(10,V.t [V.s (10,0) 0 (l).length,B true]),(9,V.a [I b.kind,S b.name,I b.num,V.i τ1 vs1]),(8,V.p (1,0) 0 4),(1,V.p (1,0) 0 0),(2,V.p (2,0) 0 0),(3,V.p (3,0) 0 0)],((10,0),4,(l).map oT)::[((3,0),4,[.a [I 0,S [],I 0,.n 4]]),((2,0),4,[.a [I 0,S [],I 0,.n 4]]),((1,0),9,[.a [I h.kind,S h.name,I h.num,.i τ0 vs0,I b.kind,S b.name,I b.num,.i τ1 vs1,S file]])]⟩=some (.normal,⟨[(2,V.p (2,0) 0 0),(3,V.p (3,0) 0 0),(5,V.s (10,0) 0 (l).length),(19,B false)],((10,0),4,(l).map oT)::[((3,0),4,[.a [I 0,S [],I 0,.n 4]]),((2,0),4,[.a [I 0,S [],I 0,.n 4]]),((1,0),9,[.a [I h.kind,S h.name,I h.num,.i τ0 vs0,I b.kind,S b.name,I b.num,.i τ1 vs1,S file]])]⟩):=by
 have nz:decide ((l.length:Int)=0)=false:=decide_eq_false (by have:=List.length_pos_iff.2 hl;omega)
 simp only [go_sem,qa,qb,qc,qd,qe,qf,reduceCtorEq,QF,nz,List.length_map]
end
section
variable (h b:Tm) (file:Str) (τ0 τ1:Bool) (vs0 vs1:List V)
theorem ZU(e:RT):rV e= .a [I e.k,S e.s,I e.n,.v e.h]:=rfl
theorem qfC(e:RT) (r:List RT): ∀ T,Qb T 4 (.i true ((e::r).map rV)) (some (I 1)) none=some (.i true (r.map rV)):=fun T=>by
 have hk:Xk 4 (rV e::r.map rV)=true:=rfl
 have h1:yZ 0 (some (I 1))=some 1:=rfl
 have h2: ∀ n,yZ n none=some n:=fun _=>rfl
 simp only [Qb,jy,h1,h2,List.map_cons,List.length_cons,List.length_map,hk,if_true]
 rw [if_pos ⟨by omega,Nat.le_refl _⟩]
 simp only [List.drop_succ_cons,List.drop_zero,Nat.add_sub_cancel]
 rw [List.take_of_length_le (by simp)]
theorem qmg(e x:RT) (r:List RT) (hoe:e.h.oneCell=true) (hox:x.h.oneCell=true) (hcj:cr qj Qp [.i true (r.map rV)]=some (rV x)):xw qj QG ⟨[(2,.p (2,0) 0 0),(3,.p (3,0) 0 0),(5,.i true ((e::r).map rV)),(19,B false)],[((3,0),4,[.a [I 0,S [],I 0,.n 4]]),((2,0),4,[.a [I 0,S [],I 0,.n 4]]),((1,0),9,[.a [I h.kind,S h.name,I h.num,.i τ0 vs0,I b.kind,S b.name,I b.num,.i τ1 vs1,S file]])]⟩=some (.ret,⟨[(2,V.p (2,0) 0 0),(3,V.p (3,0) 0 0),(4,B true)],[((3,0),4,[rV x]),((2,0),4,[rV e]),((1,0),9,[.a [I h.kind,S h.name,I h.num,.i τ0 vs0,I b.kind,S b.name,I b.num,.i τ1 vs1,S file]])]⟩):=by
 have a0:=fun T=>zL (τ:=true) (T:=T) (e:=4) (xs:=(e::r).map rV) (i:=0) (z:=rV e) rfl rfl
 have sv:=qfC e r
 have vo:(V.v e.h).one=true:=hoe
 have vox:(V.v x.h).one=true:=hox
 have vc: ∀ n T,qq n T (.v e.h)=match n with|0=>(.d,T)|_=>(.v e.h,T):=fun n T=>by cases n<;>rfl
 have vcx: ∀ n T,qq n T (.v x.h)=match n with|0=>(.d,T)|_=>(.v x.h,T):=fun n T=>by cases n<;>rfl
 have kv: ∀ d,qA d (.v e.h)= .v e.h:=fun _=>rfl
 have kvx: ∀ d,qA d (.v x.h)= .v x.h:=fun _=>rfl
 simp only [List.map_cons,ZU]at a0 sv hcj ⊢
 simp only [go_sem,qa,qb,qc,qd,qe,qf,reduceCtorEq,QG,hcj,a0,sv,vo,vox,vc,vcx,kv,kvx,KA,KB,Kz,KD,Kx,Ky,KC,KE,List.length_map]
theorem qfV(e:RT) (r:List RT) (k n:Int) (s:Str) (hh:List V) (hoe:e.h.oneCell=true) (ch:qu hh=true) (nh:qW hh=true) (hcj:cr qj Qp [.i true (r.map rV)]=some (.a [I k,S s,I n,.o 4 hh])):xw qj QG ⟨[(2,.p (2,0) 0 0),(3,.p (3,0) 0 0),(5,.i true ((e::r).map rV)),(19,B false)],[((3,0),4,[.a [I 0,S [],I 0,.n 4]]),((2,0),4,[.a [I 0,S [],I 0,.n 4]]),((1,0),9,[.a [I h.kind,S h.name,I h.num,.i τ0 vs0,I b.kind,S b.name,I b.num,.i τ1 vs1,S file]])]⟩=some (.ret,⟨[(2,V.p (2,0) 0 0),(3,V.p (3,0) 0 0),(4,B true)],[((3,0),4,[.a [I k,S s,I n,.s (27,0) 0 hh.length]]),((2,0),4,[rV e]),((27,0),4,hh),((1,0),9,[.a [I h.kind,S h.name,I h.num,.i τ0 vs0,I b.kind,S b.name,I b.num,.i τ1 vs1,S file]])]⟩):=by
 have a0:=fun T=>zL (τ:=true) (T:=T) (e:=4) (xs:=(e::r).map rV) (i:=0) (z:=rV e) rfl rfl
 have sv:=qfC e r
 have vo:(V.v e.h).one=true:=hoe
 have vc: ∀ n T,qq n T (.v e.h)=match n with|0=>(.d,T)|_=>(.v e.h,T):=fun n T=>by cases n<;>rfl
 have kv: ∀ d,qA d (.v e.h)= .v e.h:=fun _=>rfl
 have kh:=fun d=>j4 d hh ch
 simp only [List.map_cons,ZU]at a0 sv hcj ⊢
 simp only [go_sem,qa,qb,qc,qd,qe,qf,reduceCtorEq,QG,hcj,a0,sv,vo,vc,kv,ch,nh,kh,KA,KB,Kz,KD,Kx,Ky,KC,KE,List.length_map]
end
theorem qgB(τ:Bool):cr qj Qp [.i τ []]=some (.a [I 2,S [116,114,117,101],I 0,.o 4 []]):=by
 have at0:=qho [116,114,117,101]
 rw [qF qaR rfl]
 rw [ja]at at0
 simp only [go_sem,qa,qb,qc,qd,qe,qf,reduceCtorEq,jH,at0]
section
variable (h b:Tm) (file:Str) (τ0 τ1:Bool) (vs0 vs1:List V)
theorem qgi(l:List Tm): ∃ x2 x3 T',yt [(2,V.p (2,0) 0 0),(3,V.p (3,0) 0 0),(4,B false)] [((3,0),4,[.a [I 0,S [],I 0,.n 4]]),((2,0),4,[.a [I 0,S [],I 0,.n 4]]),((10,0),4,(l).map oT),((1,0),9,[.a [I h.kind,S h.name,I h.num,.i τ0 vs0,I b.kind,S b.name,I b.num,.i τ1 vs1,S file]])] [.cell 2 true 4,.cell 3 true 4,.tmp 4]=some ([x2,x3,B false],T')∧(qq 30 T' (.t [x2,x3,B false])).1= .t [oT (.mk 0 [] 0 []),oT (.mk 0 [] 0 []),B false]:=by
 refine ⟨_,_,_,rfl, ?_⟩
 rw [ja]
 simp only [go_sem,qa,qb,qc,qd,qe,qf,reduceCtorEq]
theorem qgj(e x:RT): ∃ x2 x3 T',yt [(2,V.p (2,0) 0 0),(3,V.p (3,0) 0 0),(4,B true)] [((3,0),4,[rV x]),((2,0),4,[rV e]),((1,0),9,[.a [I h.kind,S h.name,I h.num,.i τ0 vs0,I b.kind,S b.name,I b.num,.i τ1 vs1,S file]])] [.cell 2 true 4,.cell 3 true 4,.tmp 4]=some ([x2,x3,B true],T')∧(qq 30 T' (.t [x2,x3,B true])).1= .t [rV e,rV x,B true]:=by
 refine ⟨_,_,_,rfl, ?_⟩
 have vc: ∀ n T,qq n T (.v e.h)=match n with|0=>(.d,T)|_=>(.v e.h,T):=fun n T=>by cases n<;>rfl
 have vcx: ∀ n T,qq n T (.v x.h)=match n with|0=>(.d,T)|_=>(.v x.h,T):=fun n T=>by cases n<;>rfl
 simp only [ZU]
 simp only [go_sem,qa,qb,qc,qd,qe,qf,reduceCtorEq,vc,vcx]
theorem qcp(e:RT) (k n:Int) (s:Str) (hh:List V) (ch:qu hh=true): ∃ x2 x3 T',yt [(2,V.p (2,0) 0 0),(3,V.p (3,0) 0 0),(4,B true)] [((3,0),4,[.a [I k,S s,I n,.s (27,0) 0 hh.length]]),((2,0),4,[rV e]),((27,0),4,hh),((1,0),9,[.a [I h.kind,S h.name,I h.num,.i τ0 vs0,I b.kind,S b.name,I b.num,.i τ1 vs1,S file]])] [.cell 2 true 4,.cell 3 true 4,.tmp 4]=some ([x2,x3,B true],T')∧(qq 30 T' (.t [x2,x3,B true])).1= .t [rV e,.a [I k,S s,I n,.o 4 hh],B true]:=by
 refine ⟨_,_,_,rfl, ?_⟩
 have vc: ∀ n T,qq n T (.v e.h)=match n with|0=>(.d,T)|_=>(.v e.h,T):=fun n T=>by cases n<;>rfl
 have kh:=fun d=>j4 d hh ch
 have tkh:hh.take hh.length=hh:=List.take_of_length_le (Nat.le_refl _)
 simp only [ZU]
 simp only [go_sem,qa,qb,qc,qd,qe,qf,reduceCtorEq,vc,kh,ch,tkh]
end
end Go.Vm
set_option linter.unusedSectionVars false
namespace Go.Vm
section
variable [Lay] {P:Program} {N n:Nat} {prog:Nat→Option AE}
theorem Xx(hK:jR P prog) {code:Code} {h ac:AC} {st st':St} {x:AX} (ht:trC P N n code h=some ac) (hx:xw prog ac st=some (x,st')) {a:Act} {E:Env} {c:Cnt} (hf:FRel N E st a.tmps c):
 code.wp P (km n N E c st' a x) a E.w:=by
 obtain ⟨k,hk⟩:=zh.1 hx
 exact (J1 (J0 hK k) k).1 code h ac st st' x ht hk a E c hf
theorem qgW {g:Nat} {fn:Func} {code:Code} (hg:P.funcs[g]? =some fn) (hb:fn.body=some code) (hname:fn.name ≠ "runtime.NumGoroutine") (args:Array Value) (w:World):
 (callFunc g args).run P w= .ok (.enter g args) w:=by
 simp [callFunc,hg,hname,hb]
def loT(l:List Str) (τ:Bool) (fs:List V) (g:Nat):Mem:=[((1,0),1,[.s (100000,0) 0 l.length]),((2,0),1,[.i τ fs]),((3,0),1,[.f (.func g) [] [.p (1,0) 0 0,.p (2,0) 0 0,.p (3,0) 0 0]]),((100000,0),1,l.map S)]
def loA(nm:Str):List V:=[S nm,.p (1,0) 0 0,.p (2,0) 0 0,.p (3,0) 0 0]
def qmk(P:Program) (g:Nat) (nm:Str) (l l':List Str) (τ:Bool) (fs:List V):Prop:=
 ∀ (E:Env) (vs:List Value) (c:Cnt),qk E (loA nm) vs c0→qn E (loT l τ fs g) c→Good E c→
  Calls P g vs.toArray E.w fun e w''=> ∃ y,e= .returned y∧ ∃ E' c',E'.w=w''∧KN 4 E E'∧qn E' (loT l' τ fs g) c'∧Good E' c'∧Adv E c E' c'
def qvp:V→Bool
 | .v _| .i .. =>true
 | .p k _ _=>decide (k.1 < 4)
 |_=>false
end
end Go.Vm
