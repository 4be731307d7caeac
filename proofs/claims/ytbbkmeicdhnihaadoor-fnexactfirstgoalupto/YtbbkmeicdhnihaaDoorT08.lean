import Derived.Test.YtbbkmeicdhnihaaDoorT06
import Derived.Test.YtbbkmeicdhnihaaDoorT07
import Derived.KernelRfl
import Derived.Test.YtbbkmeicdhnihaaDoorT03
import Derived.Test.YtbbkmeicdhnihaaDoorRows
import Derived.Test.YtbbkmeicdhnihaaDoorCards
import Derived.Test.YtbbkmeicdhnihaaDoorTie
import Derived.JoinedCond
import Derived.Deep.DeepHandedRow
import Derived.Lib.LaidTab
import Derived.Stop.LaidErr
open Nat renaming reduceAdd → qa, reduceSub → qb, reduceMul → qc, reduceEqDiff → qd, reduceLeDiff → qe, reduceBEq → qf
set_option autoImplicit false
set_option maxHeartbeats 16000000
set_option maxRecDepth 100000
set_option linter.unusedSimpArgs false
set_option linter.unusedVariables false
namespace Go.Vm
open Go.Proofs
def HR(E:Env):List RT→List Tm→Cnt→Prop
 |[],[],c=>c=c0
 |e::r,t::ts,c=>e.k=t.kind∧e.s=t.name∧e.n=t.num∧zM e.h=false∧e.h.oneCell=true∧ ∃ c1 c2,Rel E (.o 4 (t.kids.map oT)) e.h c1∧HR E r ts c2∧c=qg c1 c2
 |_,_,_=>False
theorem JV {E E':Env}: ∀ {r:List RT} {ts:List Tm} {c:Cnt},HR E r ts c→Mono E E' c→HR E' r ts c
 |[],[],c,h,m=>h
 |e::r,t::ts,c,⟨h1,h2,h3,h4,h5,c1,c2,h6,h7,h8⟩,m=>by
  subst h8
  exact ⟨h1,h2,h3,h4,h5,c1,c2,zP h6 m.left,JV h7 m.right,rfl⟩
theorem qbN {E:Env}: ∀ {r:List RT} {ts:List Tm} {c:Cnt},HR E r ts c→ ∀ e ∈ r,e.h.oneCell=true
 |[],_,_,_,_,h=>by cases h
 |e::r,t::ts,c,⟨h1,h2,h3,h4,h5,c1,c2,h6,h7,h8⟩,x,hx=>by
  rcases List.mem_cons.1 hx with rfl|hx
  ·exact h5
  ·exact qbN h7 x hx
theorem qbM {E:Env}: ∀ {r:List RT} {ts:List Tm} {c:Cnt},HR E r ts c→r.length=ts.length
 |[],[],_,_=>rfl
 |e::r,t::ts,c,⟨h1,h2,h3,h4,h5,c1,c2,h6,h7,h8⟩=>by simp [qbM h7]
theorem qlp {E:Env} {e:Nat} {xs:List V} {y:Value} {c:Cnt} (h:Rel E (.o e xs) y c):zM y=false∧y.oneCell=true∧y.cells= #[y]:=by
 simp only [Rel]at h
 rcases h with ⟨-,⟨A,rfl⟩,-⟩|⟨b,base,cap,cells,T,fz,c1,rfl,-⟩<;>exact ⟨rfl,rfl,rfl⟩
theorem qeV {E:Env} {x:Value} {y:Value} {c:Cnt}:Rel E (.v x) y c↔y=x∧zM x=false∧c=c0:=by simp only [Rel]
theorem ZT {E:Env} {k n:Int} {s:Str} {hd:V} {y:Value} {c:Cnt}:Rel E (.a [I k,S s,I n,hd]) y c↔ ∃ v,y= .agg #[.int .i64 k,.string ⟨s.toArray⟩,.int .i64 n,v]∧Rel E hd v c:=by
 simp only [I,S,Rel,qk]
 constructor
 ·rintro ⟨vs,rfl,y1,ys1,c1,d1,e1,⟨rfl,-,rfl⟩,⟨y2,ys2,c2,d2,rfl,⟨rfl,-,rfl⟩,⟨y3,ys3,c3,d3,rfl,⟨rfl,-,rfl⟩,⟨y4,ys4,c4,d4,rfl,h4,⟨rfl,rfl⟩,rfl⟩,rfl⟩,rfl⟩,rfl⟩
  refine ⟨y4, ?_, ?_⟩
  ·congr 1
   exact Array.ext' e1
  ·simpa only [xQ,qV]using h4
 ·rintro ⟨v,rfl,h⟩
  exact ⟨_,rfl,_,_,c0,_,rfl,⟨rfl,rfl,rfl⟩,⟨_,_,c0,_,rfl,⟨rfl,rfl,rfl⟩,⟨_,_,c0,_,rfl,⟨rfl,rfl,rfl⟩,⟨_,_,c,c0,rfl,h,⟨rfl,rfl⟩,rfl⟩,rfl⟩,rfl⟩,by simp only [qV,xQ]⟩
theorem qde {E:Env}: ∀ {l:List Tm} {ys:List Value} {c:Cnt},ql E 4 (l.map oT) ys c→ ∃ rs,HR E.cl rs l c∧ql E.cl 4 (rs.map rV) ys c0
 |[],ys,c,h=>by
  simp only [List.map_nil,ql]at h
  obtain ⟨rfl,rfl⟩:=h
  exact ⟨[],rfl,rfl,rfl⟩
 |t::l,ys,c,h=>by
  simp only [List.map_cons,ql]at h
  obtain ⟨y,ys',c1,c2,rfl,h1,h2,h3,h4,h5,rfl⟩:=h
  obtain ⟨rs,h6,h7⟩:=qde h5
  have h4':=K6 h4 (ZJ t)
  rw [qX,ZT]at h4'
  obtain ⟨v,rfl,h8⟩:=h4'
  obtain ⟨g1,g2,g3⟩:=qlp h8
  refine ⟨⟨t.kind,t.name,t.num,v⟩::rs,⟨rfl,rfl,rfl,g1,g2,c1,c2,h8,h6,rfl⟩, ?_⟩
  simp only [List.map_cons,ql]
  refine ⟨_,ys',c0,c0,rfl,h1,rfl,h3, ?_,h7,rfl⟩
  rw [ZU,ZT]
  exact ⟨v,rfl,by rw [qeV];exact ⟨rfl,g1,rfl⟩⟩
theorem qbA {E:Env} {e:RT} {t:Tm} {y:Value} {c c1:Cnt} (h1:e.k=t.kind) (h2:e.s=t.name) (h3:e.n=t.num) (h:Rel E (rV e) y c) (hk:Rel E (.o 4 (t.kids.map oT)) e.h c1):Rel E (oT t) y (qg c c1):=by
 rw [ZU,ZT]at h
 obtain ⟨v,rfl,hv⟩:=h
 rw [qeV]at hv
 obtain ⟨rfl,-,rfl⟩:=hv
 rw [qX,ZT,qV]
 exact ⟨e.h,by rw [h1,h2,h3],hk⟩
theorem qi9(a b:Tm):oT (.mk 4 [44] 0 [a,b])= .a [I 4,S [44],I 0,.o 4 [oT a,oT b]]:=by rw [qX];rfl
theorem qdE(t:Tm):(oT t).cells.length=4:=by rw [qX];rfl
theorem qfK {E:Env}: ∀ {r:List RT} {ts:List Tm} {y:Value} {c c1:Cnt},Rel E (cjV r) y c→HR E r ts c1→HR E.cl r ts c1→Rel E (oT (cjT ts)) y (qg c c1)
 |[],[],y,c,c1,h,hr,_=>by
  have:c1=c0:=hr
  subst this
  exact h
 |[e],[t],y,c,c1,h,⟨h1,h2,h3,h4,h5,d1,d2,h6,h7,h8⟩,_=>by
  have:d2=c0:=h7
  subst this
  subst h8
  exact qbA h1 h2 h3 h h6
 |e::a::r,t::u::ts,y,c,c1,h,⟨h1,h2,h3,h4,h5,d1,d2,h6,h7,h8⟩,hcl=>by
  obtain ⟨k1,k2,k3,k4,k5,f1,f2,k6,k7,k8⟩:=hcl
  rw [qct e (by simp),ZT]at h
  obtain ⟨v,rfl,hv⟩:=h
  rw [qgr t (by simp),qi9,ZT]
  refine ⟨v,rfl, ?_⟩
  subst k8
  clear h1 h2 h3 h4 h5 h6 h7 h8
  simp only [Rel,ql]at hv ⊢
  rcases hv with ⟨hn,-⟩|⟨b,base,cap,cells,T,fz,c2,g1,g2,g3,g4,g5,g6,⟨y1,ys1,a1,b1,g7,g8,g9,g10,g11,⟨y2,ys2,a2,b2,g12,g13,g14,g15,g16,⟨g17,g18⟩,g19⟩,g20⟩,g21⟩
  ·cases hn
  have r1:=qbA k1 k2 k3 g11 k6
  have r2:=qfK (r:=a::r) (ts:=u::ts) g16 k7 k7
  subst g17;subst g18;subst g19;subst g20;subst g21
  refine .inr ⟨b,base,cap,cells,T,fz,qg (qg a1 f1) (qg (qg a2 f2) c0),g1,g2,g3,g4,g5,g6,⟨y1,ys1,qg a1 f1,_,g7,g8,qdE t,g10,r1,⟨y2,_,qg a2 f2,c0,g12,g13,qdE _,g15,r2,⟨rfl,rfl⟩,rfl⟩,rfl⟩, ?_⟩
  funext x
  simp only [qg,c0]
  omega
theorem qdY: ∀ l:List RT,qP (cjV l)=true
 |[]=>rfl
 |[e]=>rfl
 |e::a::r=>by
  show qP (.a [I 4,S [44],I 0,.o 4 [rV e,cjV (a::r)]])=true
  have h1:qP (rV e)=true:=rfl
  simp only [qP,qW,qdY (a::r),h1]
  rfl
theorem qlN {E:Env} {e:RT} {r:List RT} {g:Tm} {ts:List Tm} {q:Bool} {y:Value} {d c1:Cnt} (hr:HR E.cl (e::r) (g::ts) c1) (h:Rel E.cl (.t [rV e,cjV r,B q]) y d):Rel E.cl (.t [oT g,oT (cjT ts),B q]) y (qg d c1):=by
 obtain ⟨h1,h2,h3,h4,h5,d1,d2,h6,h7,rfl⟩:=hr
 simp only [Rel,qk]at h ⊢
 obtain ⟨vs,rfl,y1,ys1,a1,b1,e1,g1,⟨y2,ys2,a2,b2,rfl,g2,⟨y3,ys3,a3,b3,rfl,g3,⟨rfl,rfl⟩,rfl⟩,rfl⟩,rfl⟩:=h
 have r1:=qbA h1 h2 h3 g1 h6
 have r2:=qfK g2 h7 h7
 refine ⟨vs,rfl,y1,_,qg a1 d1,_,e1,r1,⟨y2,_,qg a2 d2,_,rfl,r2,⟨y3,_,a3,c0,rfl,g3,⟨rfl,rfl⟩,rfl⟩,rfl⟩, ?_⟩
 funext x
 simp only [qg,c0]
 omega
def sq1:Code→Code| .seq x _=>x|_=> .skip
def sq2:Code→Code| .seq _ x=>x|_=> .skip
noncomputable def Kr:Code:=match Tryd.f7.body with|some c=>c|none=> .skip
noncomputable def qc0:Code:=sq1 Kr
noncomputable def qc1:Code:=sq1 (sq2 Kr)
noncomputable def qc2:Code:=sq1 (sq2 (sq2 Kr))
noncomputable def qam:Code:=sq2 (sq2 (sq2 Kr))
theorem qc3:Tryd.f7.body=some (.seq qc0 (.seq qc1 (.seq qc2 qam))):=by kernel_rfl
theorem qg5:Tryd.f7.name ≠ "runtime.NumGoroutine" :=by decide
theorem qg7:xt Tryd.prog Tryd.f7.results.toList=some [.cell 2 true 4,.cell 3 true 4,.tmp 4]:=by kernel_rfl
theorem qg6:Tryd.f7.ntmps=28:=by kernel_rfl
theorem qg8:trC Tryd.prog 28 1 qc0 Ks=some Ks:=by kernel_rfl
theorem qg9:trC Tryd.prog 28 1 qc1 Kt=some Kt:=by kernel_rfl
theorem qc5:trC Tryd.prog 28 1 qc2 QF=some QF:=by kernel_rfl
theorem qha:trC Tryd.prog 28 1 qam QG=some QG:=by kernel_rfl
def fgQ(E:Env) (c:Cnt) (xs:List V) (vs:List Value) (r:V):Ending→World→Prop:=
 fun e w''=> ∃ y,e= .returned y∧ ∃ E' cr co,E'.w=w''∧Rel E'.cl r y cr∧qk E'.cl xs vs co∧Good E' (qg cr co)∧Adv E c E' (qg cr co)
theorem qc4 {E E':Env} {c c' ck:Cnt} {st:St} {a:Act} {xs:List V} {vs:List Value} {x2 x3 x4:V} {T':Mem} {r0 r:V} (hF:FRel 28 E' st a.tmps c') (hres:yt st.σ st.T [.cell 2 true 4,.cell 3 true 4,.tmp 4]=some ([x2,x3,x4],T')) (hr:(qq 30 T' (.t [x2,x3,x4])).1=r0)
 (hth: ∀ y d,Rel E'.cl r0 y d→Rel E'.cl r y (qg d ck)) (hG5:Good E' (qg c' ck))
 (hdf:a.defers=[]) (hG:Good E c) (hA:Adv E c E' (qg c' ck)) (hxs:qk E.cl xs vs c0):bodyPost Tryd.prog Tryd.f7 (fgQ E c xs vs r) .ret a E'.w:=by
 obtain ⟨ws,d1,d2,k1,k2,k3,k4⟩:=qbd (P:=Tryd.prog) hF.σ qg7 hF.T hres
 have hres':(results Tryd.f7 a.tmps).run Tryd.prog E'.w= .ok (if h:ws.toArray.size=1 then ws.toArray[0]else .tuple ws.toArray) E'.w:=by
  unfold results
  rw [Sem.run_bind]
  refine Eq.trans (congrArg (fun r=>Result.andThen r _) (qfd (l:=(Tryd.f7).results) k1)) ?_
  rfl
 obtain ⟨e1,e2,g1,g2,g3,-⟩:=QB 30 E' T' _ _ d2 d1 k3 (qea k2)
 have hle:cle e2 c':=fun b=>by
  have:=k4 b;have:=g3 b;simp only [qg]at*;omega
 refine ⟨hdf,_,hres',_,rfl,E',qg e2 ck,c0,rfl,hth _ _ (by rw [← hr];exact g2), ?_,by rw [xQ];exact hG5.le (yJ hle (qH _)),by rw [xQ];exact hA.le (yJ hle (qH _))⟩
 refine yA (E:=E.cl) hxs ?_
 have hA2:Adv E c {E' with μ:=E.μ} (qg c' ck):=⟨hA.sizes,hA.os,hA.tape,hA.output,hA.size,hA.frame,hA.sub,hA.own,hA.imm⟩
 have:=Xp (ci:=c) (cr:=c0) (by rw [xQ];exact hG) hA2 (fun k l h=>h)
 exact this.cl
section
variable (h b:Tm) (file:Str) (τ0 τ1:Bool) (vs0 vs1:List V)
def fgV(b:Tm):V:= .t [oT (yy b).1,oT (yy b).2.1,B (yy b).2.2]
theorem qg4(hn:nT b≤Lm) (hw:WT b) (hv:RL BT b.kids vs1) (E:Env) (vs:List Value) (hxs:qk E.cl [.a [I h.kind,S h.name,I h.num,.i τ0 vs0,I b.kind,S b.name,I b.num,.i τ1 vs1,S file]] vs c0) (hG:Good E c0):
 Calls Tryd.prog 7 vs.toArray E.w (fgQ E c0 [.a [I h.kind,S h.name,I h.num,.i τ0 vs0,I b.kind,S b.name,I b.num,.i τ1 vs1,S file]] vs (fgV b)):=by
 have hK:=qdC
 have hvl:=yr hxs
 have gi:=qax (nT b) b (Nat.le_refl _) (by unfold Lm at hn;omega) hw _ (ki (τ:=τ1) hv)
 have gl:=fun l (h:zA b=some l)=>jv (nT b) b l h
 refine calls_of_wp Tryd.func7 qc3 ?_
 have hsz:(vs.toArray++Array.replicate (Tryd.f7.ntmps - vs.toArray.size) undef).size=28:=by
  rw [qg6]
  simp only [Array.size_append,List.size_toArray,Array.size_replicate,hvl,List.length_cons,List.length_nil]
 have hGc:Good E.cl c0:=⟨hG.one,hG.imm,hG.sub,hG.bnd,⟨hG.lay.lb,hG.lay.ll⟩⟩
 have hF:FRel 28 E.cl ⟨[(0,.a [I h.kind,S h.name,I h.num,.i τ0 vs0,I b.kind,S b.name,I b.num,.i τ1 vs1,S file])],[]⟩ (vs.toArray++Array.replicate (Tryd.f7.ntmps - vs.toArray.size) undef) c0:=⟨hsz,qff (xs:=[.a [I h.kind,S h.name,I h.num,.i τ0 vs0,I b.kind,S b.name,I b.num,.i τ1 vs1,S file]]) hxs,rfl,hGc⟩
 have hA0:Adv E c0 E.cl c0:=⟨fun _ _ h=>h,rfl,rfl,rfl,Nat.le_refl _,fun _ _ _=>rfl,fun _ _ h=>h,fun _ h=> .inl h,fun _ _ h=> .inl h⟩
 have hp0:=Xx (a:=⟨_,[]⟩) hK qg8 (z_0 h b file τ0 τ1 vs0 vs1) hF
 refine wp_seq (wp_mono hp0 ?_)
 rintro e a0 w0 ⟨rfl,hd0,E0,d0,rfl,hF0,hk0,hA1⟩
 simp only [xOf,Exit.then]
 have hd0':a0.defers=[]:=hd0
 have hp1:=Xx (a:=a0) hK qg9 (z_1 h b file τ0 τ1 vs0 vs1 _ _ gi) hF0
 refine wp_seq (wp_mono hp1 ?_)
 rintro e a1 w1 ⟨rfl,hd1,E1,d1,rfl,hF1,hk1,hA2⟩
 simp only [xOf,Exit.then]
 have hAA:=(hA0.trans hA1).trans hA2
 have hdd:=hd1.trans hd0'
 clear hF hF0 hp0 hp1 hA0 hA1 hA2
 refine wp_seq ?_
 by_cases hg:((zA b).isSome=false∨(zA b).getD []=[])
 ·have hp2:=Xx (a:=a1) hK qc5 (qmf h b file τ0 τ1 vs0 vs1 ((zA b).getD []) (zA b).isSome hg) hF1
  refine wp_mono hp2 ?_
  rintro e a2 w2 ⟨rfl,hd2,E2,d2,rfl,hF2,hk2,hA3⟩
  simp only [xOf,Exit.then]
  obtain ⟨x2,x3,T',hres,hcl⟩:=qgi h b file τ0 τ1 vs0 vs1 ((zA b).getD [])
  have hz:fgV b= .t [oT (.mk 0 [] 0 []),oT (.mk 0 [] 0 []),B false]:=by
   unfold fgV yy
   cases hq:zA b with
   |none=>rfl
   |some l=>
    rw [hq]at hg
    rcases hg with hg|hg
    ·cases hg
    ·have:l=[]:=hg
     subst this
     rfl
  refine qc4 (ck:=c0) hF2 hres hcl (fun y d hd=>by rw [hz,xQ];exact hd) (by rw [xQ];exact hF2.g) (hd2.trans hdd) hG (by rw [xQ];exact hAA.trans hA3) hxs
 ·obtain ⟨g,r,hq⟩: ∃ g r,zA b=some (g::r):=by
   cases hq:zA b with
   |none=>exact absurd (.inl (by rw [hq];rfl)) hg
   |some l=>cases l with
    |nil=>exact absurd (.inr (by rw [hq];rfl)) hg
    |cons g r=>exact ⟨g,r,rfl⟩
  have hlen:=(gl _ hq).1
  have hqf:giF (nT b) b=some (g::r):=hq
  rw [hqf]at hF1
  simp only [Option.getD_some,Option.isSome_some]at hF1
  have hp2:=Xx (a:=a1) hK qc5 (z_2 h b file τ0 τ1 vs0 vs1 (g::r) (by simp)) hF1
  refine wp_mono hp2 ?_
  rintro e a2 w2 ⟨rfl,hd2,E2,d2,rfl,hF2,hk2,hA3⟩
  simp only [xOf,Exit.then]
  have hAB:=hAA.trans hA3
  have hdb:=hd2.trans hdd
  clear hF1 hp2 hAA hA3
  obtain ⟨cL,cR,hO,hTR,rfl⟩:=hF2.T
  rcases hO with ⟨b0,ents,clk,es,k1,k2,k3,k4,k5⟩|⟨k1,k2,k3⟩|⟨b0,base,lim,cells,TT,fz,c1,k1,k2,k3,k4,k5,k6,rfl⟩
  ·rw [List.map_cons,qX]at k4
   cases (List.cons.inj k4).1
  ·cases k2
  obtain ⟨rs,hHR,hRaw⟩:=qde k6
  obtain ⟨e,r',rfl⟩: ∃ e r',rs=e::r':=by
   cases rs with
   |nil=>exact hHR.elim
   |cons e r'=>exact ⟨e,r',rfl⟩
  let E4:Env:={E2 with I:=fun τ x=>E2.I τ x∨(τ=true∧x=b0)}
  have hM: ∀ c,Mono E2 E4 c:=fun c=>⟨fun τ x h=>⟨.inl h,rfl⟩,fun _ _=>rfl,fun _ _ h=>h⟩
  have hcnt: ∀ x,qg cR c1 x≤qg (qg (qv b0) c1) cR x:=fun x=>by simp only [qg];omega
  have hb0:qg cR c1 b0=0:=by
   have:=hF2.g.one b0
   simp only [qg,qv,if_true]at this ⊢
   omega
  have hne0:qg (qg (qv b0) c1) cR b0 ≠ 0:=by simp only [qg,qv,if_true];omega
  have hG4:Good E4 (qg cR c1):=by
   refine ⟨fun x=>Nat.le_trans (hcnt x) (hF2.g.one x),fun τ x hx=> ?_,fun x hx=> ?_,fun x hx=>hF2.g.bnd x (by have:=hcnt x;omega),hF2.g.lay.next (fun x hx=> .inl hx) (fun _ _=>rfl)⟩
   ·rcases hx with hx|⟨-,rfl⟩
    ·have:=hF2.g.imm τ x hx
     have:=hcnt x
     exact ⟨by omega,(hF2.g.imm τ x hx).2⟩
    ·exact ⟨hb0,hF2.g.bnd _ hne0⟩
   ·rcases hx with hx|⟨h0,-⟩
    ·exact .inl (hF2.g.sub x hx)
    ·cases h0
  have hA4:Adv E c0 E4 (qg cR c1):=by
   refine ⟨hAB.sizes,hAB.os,hAB.tape,hAB.output,hAB.size,hAB.frame,fun τ x hx=> .inl (hAB.sub τ x hx),fun x hx=>hAB.own x (by have:=hcnt x;omega),fun τ x hx=> ?_⟩
   rcases hx with hx|⟨-,rfl⟩
   ·exact hAB.imm τ x hx
   ·exact .inr (hAB.own _ hne0)
  have hl4:(e::r').length=(g::r).length:=qbM hHR
  obtain ⟨y5,hy5,hr5⟩:=hF2.σ 5 (.s (10,0) 0 (g::r).length) rfl
  have hn5:Rel E4 (.i true ((e::r').map rV)) y5 c0:=by
   simp only [Rel]at hr5 ⊢
   obtain ⟨-,⟨A,m1,-⟩|⟨b',base',e',y7,cap,A,m1,m2,m3,m4,m5,m6⟩⟩:=hr5
   ·rw [k1]at m1;cases m1
   ·rw [k1]at m1
    cases m1
    have hA:A=⟨b0,base,none⟩:=by
     rcases m5 with m5|m5
     ·simp only [List.length_cons]at m2;omega
     ·rw [m5];simp
    subst hA
    refine ⟨trivial,some ⟨b0,base,none⟩,cap,by rw [m6,List.length_map,hl4],by rw [List.length_map,hl4];exact m2,.inr ⟨b0,base,4,cells,TT,fz,rfl,.inr ⟨rfl,rfl⟩,k2, ?_⟩⟩
    have hw4:ql E4.cl 4 ((e::r').map rV) (seg cells base (((g::r).map oT).length*4)) c0:=zZ hRaw (hM c0).cl
    rw [List.length_map]at hw4 ⊢
    rw [hl4]
    exact hw4
  have hF4:FRel 28 E4 ⟨[(2,.p (2,0) 0 0),(3,.p (3,0) 0 0),(5,.i true ((e::r').map rV)),(19,B false)],[((3,0),4,[.a [I 0,S [],I 0,.n 4]]),((2,0),4,[.a [I 0,S [],I 0,.n 4]]),((1,0),9,[.a [I h.kind,S h.name,I h.num,.i τ0 vs0,I b.kind,S b.name,I b.num,.i τ1 vs1,S file]])]⟩ a2.tmps cR:=by
   refine ⟨hF2.sz,fun t x hx=> ?_,zH hTR (hM cR),hG4.le (jt _ _)⟩
   simp only [qw]at hx
   split at hx
   ·rename_i h0
    subst h0;cases hx
    obtain ⟨v,m1,m2⟩:=hF2.σ 2 (.p (2,0) 0 0) rfl
    exact ⟨v,m1,zP m2 (hM c0)⟩
   split at hx
   ·rename_i h0
    subst h0;cases hx
    obtain ⟨v,m1,m2⟩:=hF2.σ 3 (.p (3,0) 0 0) rfl
    exact ⟨v,m1,zP m2 (hM c0)⟩
   split at hx
   ·rename_i h0
    subst h0;cases hx
    exact ⟨y5,hy5,hn5⟩
   split at hx
   ·rename_i h0
    subst h0;cases hx
    obtain ⟨v,m1,m2⟩:=hF2.σ 19 (B false) rfl
    exact ⟨v,m1,zP m2 (hM c0)⟩
   cases hx
  have hone:=qbN hHR
  have hoe:=hone e (by simp)
  have hlr:r'.length≤2^40:=by
   simp only [List.length_cons]at hl4 hlen
   unfold Lm at hn
   omega
  have hfin: ∀ (st:St) (x2 x3:V) (T':Mem),xw qj QG ⟨[(2,.p (2,0) 0 0),(3,.p (3,0) 0 0),(5,.i true ((e::r').map rV)),(19,B false)],[((3,0),4,[.a [I 0,S [],I 0,.n 4]]),((2,0),4,[.a [I 0,S [],I 0,.n 4]]),((1,0),9,[.a [I h.kind,S h.name,I h.num,.i τ0 vs0,I b.kind,S b.name,I b.num,.i τ1 vs1,S file]])]⟩=some (.ret,st)→
   yt st.σ st.T [.cell 2 true 4,.cell 3 true 4,.tmp 4]=some ([x2,x3,B true],T')→(qq 30 T' (.t [x2,x3,B true])).1= .t [rV e,cjV r',B true]→
   qam.wp Tryd.prog (bodyPost Tryd.prog Tryd.f7 (fgQ E c0 [.a [I h.kind,S h.name,I h.num,.i τ0 vs0,I b.kind,S b.name,I b.num,.i τ1 vs1,S file]] vs (fgV b))) a2 E2.w:=by
   intro st x2 x3 T' hx hres hcl
   have hp4:=Xx (a:=a2) hK qha hx hF4
   refine wp_mono hp4 ?_
   rintro e9 a4 w4 ⟨rfl,hd4,E5,d5,rfl,hF5,hk5,hA5⟩
   have hG5:=Kw (ci:=cR) (cr:=c1) hG4 hA5 hF5.g
   have hA6:Adv E c0 E5 (qg d5 c1):=hA4.trans (Kc c1 hA5)
   have hA7:Adv E4 cR {E5 with μ:=E4.μ} d5:=⟨hA5.sizes,hA5.os,hA5.tape,hA5.output,hA5.size,hA5.frame,hA5.sub,hA5.own,hA5.imm⟩
   have hM5:Mono E4 {E5 with μ:=E4.μ} c1:=Xp (ci:=cR) (cr:=c1) hG4 hA7 (fun k l h=>h)
   have hH5:HR E5.cl (e::r') (g::r) c1:=JV (JV hHR (hM c1).cl) hM5.cl
   have hz:fgV b= .t [oT g,oT (cjT r),B true]:=by
    unfold fgV yy
    rw [hq]
   refine qc4 (ck:=c1) hF5 hres hcl (fun y d hd=>by rw [hz];exact qlN hH5 hd) hG5 (hd4.trans hdb) hG hA6 hxs
  cases r' with
  |nil=>
   have z:=qfV h b file τ0 τ1 vs0 vs1 e [] 2 0 [116,114,117,101] [] hoe rfl rfl (qgB true)
   obtain ⟨x2,x3,T',m1,m2⟩:=qcp h b file τ0 τ1 vs0 vs1 e 2 0 [116,114,117,101] [] rfl
   exact hfin _ _ _ _ z m1 m2
  |cons x r''=>
   have hcj:=qgC true (x::r'') (fun z hz=>hone z (List.mem_cons_of_mem _ hz)) hlr (by simp)
   cases r'' with
   |nil=>
    have z:=qmg h b file τ0 τ1 vs0 vs1 e x [x] hoe (hone x (by simp)) hcj
    obtain ⟨x2,x3,T',m1,m2⟩:=qgj h b file τ0 τ1 vs0 vs1 e x
    exact hfin _ _ _ _ z m1 m2
   |cons x' r3=>
    have hce:qu [rV x,cjV (x'::r3)]=true:=by
     have h1:clE (rV x)=true:=rfl
     simp only [qu,h1,qgs];rfl
    have hnt:qW [rV x,cjV (x'::r3)]=true:=by
     have h1:qP (rV x)=true:=rfl
     simp only [qW,h1,qdY];rfl
    have z:=qfV h b file τ0 τ1 vs0 vs1 e (x::x'::r3) 4 0 [44] [rV x,cjV (x'::r3)] hoe hce hnt hcj
    obtain ⟨x2,x3,T',m1,m2⟩:=qcp h b file τ0 τ1 vs0 vs1 e 4 0 [44] [rV x,cjV (x'::r3)] hce
    exact hfin _ _ _ _ z m1 m2
end
end Go.Vm
namespace Go.Vm
open Go.Proofs
theorem qbY {p q:Nat→Option AE} (h: ∀ f e,p f=some e→q f=some e): ∀ (n:Nat),CLe (qU p n) (qU q n)
 |0=>fun f xs r h=>by simp [qU]at h
 |n+1=>by
  have IH:=qbY h n
  intro f xs r hr
  rw [qU]at hr ⊢
  split at hr
  ·rename_i g hg
   rw [h _ _ hg];exact hr
  ·rename_i af haf
   rw [h _ _ haf]
   split at hr
   case isFalse=>cases hr
   rename_i hlen
   simp only
   rw [if_pos hlen]
   cases he:qr (qU p n) n af.body {σ:=yu 0 (q7 0 xs).1,T:=(q7 0 xs).2} with
   |none=>rw [he]at hr;cases hr
   |some s=>rw [he]at hr;rw [zq IH n n _ _ _ (Nat.le_refl n) he];exact hr
  ·cases hr
theorem qcS {p q:Nat→Option AE} (h: ∀ f e,p f=some e→q f=some e) {f:Nat} {xs:List V} {r:V × List V} (hr:cw p f xs=some r):cw q f xs=some r:=by
 obtain ⟨n,hn⟩:=j0.1 hr
 exact j0.2 ⟨n,qbY h n _ _ _ hn⟩
theorem qgI {p q:Nat→Option AE} (h: ∀ f e,p f=some e→q f=some e) {f:Nat} {xs:List V} {r:V} (hr:cr p f xs=some r):cr q f xs=some r:=by
 unfold cr at hr ⊢
 obtain ⟨x,hx,rfl⟩:=Option.map_eq_some_iff.1 hr
 rw [qcS h hx];rfl
theorem qf3 {s s':Str} (h:S s=S s'):s=s':=by
 simp only [S,V.v.injEq,Value.string.injEq,ByteArray.mk.injEq]at h
 exact congrArg Array.toList h
theorem qbO {n n':Int} (h:I n=I n'):n=n':=by
 simp only [I,V.v.injEq,Value.int.injEq,true_and]at h
 exact h
theorem qbR: ∀ {ks ks':List Tm} {vs:List V},(∀ t ∈ ks,∀ t' v,BT t v→BT t' v→t=t')→RL BT ks vs→RL BT ks' vs→ks=ks'
 |[],[],_,_,_,_=>rfl
 |[],t'::ks',vs,_,h,h'=>by
  obtain ⟨v,vs',rfl,-⟩:=h'
  cases h
 |t::ks,[],vs,_,h,h'=>by
  obtain ⟨v,vs',rfl,-⟩:=h
  cases h'
 |t::ks,t'::ks',vs,ih,h,h'=>by
  obtain ⟨v,w,rfl,h1,h2⟩:=h
  obtain ⟨v',w',e,h3,h4⟩:=h'
  obtain ⟨rfl,rfl⟩:=List.cons.inj e
  rw [ih t (by simp) t' v h1 h3,qbR (fun x hx=>ih x (by simp [hx])) h2 h4]
theorem qfW: ∀ (t:Tm) (t':Tm) (v:V),BT t v→BT t' v→t=t':=by
 refine xh ?_
 intro k s n ks ih t' v h h'
 obtain ⟨τ,vs,rfl,hv⟩:=jo.1 h
 obtain ⟨k',s',n',ks'⟩:=t'
 obtain ⟨τ',vs',e,hv'⟩:=jo.1 h'
 simp only [V.a.injEq,List.cons.injEq,V.i.injEq,and_true]at e
 obtain ⟨e1,e2,e3,-,rfl⟩:=e
 rw [qbO e1,qf3 e2,qbO e3,qbR ih hv hv']
def FgA(b:Tm) (v:V):Prop:=nT b≤Lm∧WT b∧ ∃ (h:Tm) (file:Str) (τ0 τ1:Bool) (vs0 vs1:List V),v= .a [I h.kind,S h.name,I h.num,.i τ0 vs0,I b.kind,S b.name,I b.num,.i τ1 vs1,S file]∧RL BT b.kids vs1
theorem qfY {b b':Tm} {v:V} (h:FgA b v) (h':FgA b' v):b=b':=by
 obtain ⟨-,-,h,file,τ0,τ1,vs0,vs1,rfl,hv⟩:=h
 obtain ⟨-,-,h',file',τ0',τ1',vs0',vs1',e,hv'⟩:=h'
 simp only [V.a.injEq,List.cons.injEq,V.i.injEq,and_true]at e
 obtain ⟨-,-,-,-,e1,e2,e3,⟨e4,e5⟩,-⟩:=e
 subst e4;subst e5
 refine qfW b b' (.a [I b.kind,S b.name,I b.num,.i τ1 vs1]) (ki hv) ?_
 rw [e1,e2,e3]
 exact ki hv'
open Classical in
noncomputable def fgP:List V→Option (V × List V)
 |[v]=>if H: ∃ b,FgA b v then some (fgV (Classical.choose H),[v])else none
 |_=>none
theorem qg3: ∀ args r outs,fgP args=some (r,outs)→YC Tryd.prog 7 args r outs:=by
 intro args r outs h
 unfold fgP at h
 split at h
 case h_2=>cases h
 rename_i v
 split at h
 case isFalse=>cases h
 rename_i H
 simp only [Option.some.injEq,Prod.mk.injEq]at h
 obtain ⟨rfl,rfl⟩:=h
 obtain ⟨hn,hw,h,file,τ0,τ1,vs0,vs1,hv,hr⟩:=Classical.choose_spec H
 generalize Classical.choose H=b at hn hw hv hr ⊢
 subst hv
 intro E xs c hx hg
 have h0:c=c0:=QS hx rfl
 subst h0
 rw [qgW Tryd.func7 qc3 qg5]
 exact ⟨rfl,qg4 h b file τ0 τ1 vs0 vs1 hn hw hr E xs hx hg⟩
noncomputable def zj(n:Nat):Option AE:=if n=Qn then some (.prim fgP)else qj n
theorem qj9:qj Qn=none:=by rfl
theorem qaX: ∀ f e,qj f=some e→zj f=some e:=by
 intro f e h
 unfold zj
 split
 ·rename_i hf;subst hf;rw [qj9]at h;cases h
 ·exact h
theorem qil:jR Tryd.prog zj:=by
 intro f e h
 unfold zj at h
 split at h
 ·rename_i hf
  subst hf
  simp only [Option.some.injEq]at h
  subst h
  exact qg3
 ·exact qdC f e h
theorem crB {f:Nat} {xs:List V} {r:V} (h:cr qj f xs=some r):cr zj f xs=some r:=qgI qaX h
theorem cwB {f:Nat} {xs:List V} {r:V × List V} (h:cw qj f xs=some r):cw zj f xs=some r:=qcS qaX h
theorem qfZ(h b:Tm) (file:Str) (τ0 τ1:Bool) (vs0 vs1:List V) (hn:nT b≤Lm) (hw:WT b) (hv:RL BT b.kids vs1):cr zj Qn [.a [I h.kind,S h.name,I h.num,.i τ0 vs0,I b.kind,S b.name,I b.num,.i τ1 vs1,S file]]=some (fgV b):=by
 have hp:zj Qn=some (.prim fgP):=by unfold zj;rw [if_pos rfl]
 have ha:FgA b (.a [I h.kind,S h.name,I h.num,.i τ0 vs0,I b.kind,S b.name,I b.num,.i τ1 vs1,S file]):=⟨hn,hw,h,file,τ0,τ1,vs0,vs1,rfl,hv⟩
 have H: ∃ z,FgA z (.a [I h.kind,S h.name,I h.num,.i τ0 vs0,I b.kind,S b.name,I b.num,.i τ1 vs1,S file]):=⟨b,ha⟩
 unfold cr
 rw [qcR hp]
 have e0:fgP [.a [I h.kind,S h.name,I h.num,.i τ0 vs0,I b.kind,S b.name,I b.num,.i τ1 vs1,S file]]=some (fgV (Classical.choose H),[.a [I h.kind,S h.name,I h.num,.i τ0 vs0,I b.kind,S b.name,I b.num,.i τ1 vs1,S file]]):=by
  unfold fgP
  exact dif_pos H
 rw [e0]
 have e:=qfY (Classical.choose_spec H) ha
 simp only [Option.map_some]
 rw [e]
end Go.Vm
namespace Go.Vm
theorem qiW: ∀ (n:Nat) (k:Int) (l:Str),k≤n→0≤k→k < 9223372036854775808→l.length+n≤2^62→
 ∃ l',lw qj YR ⟨[(0,I k),(3,S l)],[]⟩=some (.exit 0,⟨[(3,S l')],[]⟩)∧l'.length≤2^62:=by
 intro n
 induction n with
 |zero=>
  intro k l h1 h2 hbig h3
  obtain rfl:k=0:=by omega
  rw [qY]
  simp only [go_sem,qa,qb,qc,qd,qe,qf,reduceCtorEq,YW,show ¬ (0:Int) < 0 by decide]
  exact ⟨l,rfl,by omega⟩
 |succ n ih=>
  intro k l h1 h2 hbig h3
  rw [qY]
  by_cases h:0 < k
  ·have e1:q6 .rem (I k) (I 10)=_:=qcf (by decide)
   have e2:q6 .quo (I k) (I 10)=_:=qce (by decide)
   have hq:k.tdiv 10=k / 10:=Int.tdiv_eq_ediv_of_nonneg h2
   have e3:w64 (k.tdiv 10)=k / 10:=by rw [hq,zn]<;>omega
   have hm:k.tmod 10=k % 10:=Int.tmod_eq_emod_of_nonneg h2
   have e4:w64 (48+k.tmod 10)=48+k % 10:=by rw [hm,zn]<;>omega
   have e5:IntKind.u8.wrap (48+k % 10)=48+k % 10:=by
    have:(48+k % 10) % 256=48+k % 10:=by omega
    exact this
   have e6:xD [U8 (48+k % 10)]=some [UInt8.ofNat (48+k % 10).toNat]:=rfl
   have e7:q6 .add (S [UInt8.ofNat (48+k % 10).toNat]) (S l)=_:=jV (by simp only [List.length_cons,List.length_nil];omega)
   obtain ⟨l',g1,g2⟩:=ih (k / 10) ([UInt8.ofNat (48+k % 10).toNat]++l) (by omega) (by omega) (by omega) (by simp only [List.length_append,List.length_cons,List.length_nil];omega)
   refine ⟨l', ?_,g2⟩
   simp only [go_sem,qa,qb,qc,qd,qe,qf,reduceCtorEq,YW,h,e1,e2,e3,e4,e5,e6,e7,List.cons_append,List.nil_append]at g1 ⊢
   exact g1
  ·obtain rfl:k=0:=by omega
   simp only [go_sem,qa,qb,qc,qd,qe,qf,reduceCtorEq,YW,show ¬ (0:Int) < 0 by decide]
   exact ⟨l,rfl,by omega⟩
theorem qdJ(k:Int) (hk:k < 4000000000000000000): ∃ s:Str,s.length≤2^62+1∧cr qj YI [I k]=some (S s):=by
 rw [qF qjB rfl]
 by_cases h:k≤0
 ·simp only [go_sem,qa,qb,qc,qd,qe,qf,reduceCtorEq,Qi,h]
  exact ⟨_,by decide,rfl⟩
 ·obtain ⟨l',g1,g2⟩:=qiW k.toNat k [] (by omega) (by omega) (by omega) (by simp only [List.length_nil];omega)
  have e7:q6 .add (S [109]) (S l')=_:=jV (by simp only [List.length_cons,List.length_nil];omega)
  simp only [go_sem,qa,qb,qc,qd,qe,qf,reduceCtorEq,Qi,h,g1,e7]
  exact ⟨_,by simp only [List.length_append,List.length_cons,List.length_nil];omega,rfl⟩
end Go.Vm
namespace Go.Vm
open Classical in
noncomputable def mkT(k:Int):Str:=if h:k < 4000000000000000000 then (qdJ k h).choose else []
theorem qdK(k:Int) (h:k < 4000000000000000000):cr qj YI [I k]=some (S (mkT k)):=by
 unfold mkT;rw [dif_pos h];exact (qdJ k h).choose_spec.2
mutual
noncomputable def yz:Tm→Int→Tm × Int
 | .mk _ _ _ ks,k=>(.mk k (mkT (k+1)) (k+2) (qi ks (k+3)).1,(qi ks (k+3)).2)
noncomputable def qi:List Tm→Int→List Tm × Int
 |[],k=>([],k)
 |t::ts,k=>((yz t k).1::(qi ts (yz t k).2).1,(qi ts (yz t k).2).2)
end
mutual
theorem Xo: ∀ (t:Tm) (k:Int),(yz t k).2=k+3*nT t
 | .mk _ _ _ ks,k=>by simp only [yz,nT,kC ks (k+3)];omega
theorem kC: ∀ (ts:List Tm) (k:Int),(qi ts k).2=k+3*nTs ts
 |[],k=>by simp [qi,nTs]
 |t::ts,k=>by simp only [qi,nTs,kC ts,Xo t k];omega
end
theorem qN: ∀ (ts:List Tm) (k:Int),(qi ts k).1.length=ts.length
 |[],k=>rfl
 |t::ts,k=>by simp only [qi,List.length_cons,qN ts]
theorem qiV(ts:List Tm) (n:Nat) (hl:ts.length=n) (hlim:n≤Lm)
 (hc: ∀ t ∈ ts,∀ k:Int,0≤k→k+3*nTs t.kids < 3000000000000000000→cw qj YH [.o 4 (t.kids.map oT),I k]=some (I (qi t.kids k).2,[.o 4 ((qi t.kids k).1.map oT),I k])) (m:Nat):
 ∀ i (ds:List Tm) (k:Int),i+m=n→ds.length=i→0≤k→k+3*nTs (ts.drop i) < 3000000000000000000→
 lw qj YQ ⟨[(0,.s (0,0) 0 n),(1,I k),(5,I i)],[((0,0),4,ds.map oT++(ts.drop i).map oT)]⟩=
  some (.exit 0,⟨[(1,I (qi (ts.drop i) k).2)],[((0,0),4,(ds++(qi (ts.drop i) k).1).map oT)]⟩):=by
 unfold Lm at hlim
 induction m with
 |zero=>
  intro i ds k hi hd hk hb
  obtain rfl:i=n:=by omega
  rw [qY]
  have h1: ¬ (i:Int) < (i:Int):=by omega
  rw [List.drop_eq_nil_of_le (by omega),qi,List.append_nil,List.map_nil,List.append_nil]
  simp only [go_sem,qa,qb,qc,qd,qe,qf,reduceCtorEq,X6,h1]
 |succ m ih=>
  intro i ds k hi hd hk hb
  rw [qY]
  have hlt:(i:Int) < (n:Int):=by omega
  obtain ⟨t,ht⟩:=xX (l:=ts) (i:=i) (by omega)
  rw [ky ht,nTs]at hb
  have hnk:=QM t
  have hcc:=hc t (List.mem_of_getElem? ht) (k+3) (by omega) (by omega)
  have e1:w64 ((i:Int)+1)=((i+1:Nat):Int):=by rw [zn]<;>omega
  have f1:w64 (k+1)=k+1:=by rw [zn]<;>omega
  have f2:w64 (k+1+1)=k+2:=by rw [zn]<;>omega
  have f3:w64 (k+2+1)=k+3:=by rw [zn]<;>omega
  have mt:=qdK (k+1) (by omega)
  have hm:=kC t.kids (k+3)
  have i1:=ih (i+1) (ds++[(yz t k).1]) (yz t k).2 (by omega) (by simp [hd]) (by rw [Xo];omega) (by rw [Xo];omega)
  rw [ky ht,qi]
  rw [List.map_append,List.map_cons,List.map_nil,List.append_assoc,List.cons_append,List.nil_append]at i1
  have hlen: ∀ y:V,(ds.map oT++y::(ts.drop (i+1)).map oT).length=n:=fun y=>by simp [hd];omega
  have ix:=fun y:V=>qdu (k:=(0,0)) (e:=4) (xs:=ds.map oT++y::(ts.drop (i+1)).map oT) (i:=i) (len:=n) (by omega) (by rw [hlen];exact Nat.le_refl _)
  have cg:=fun y:V=>qgm (ds.map oT) y ((ts.drop (i+1)).map oT) i (by simp [hd])
  have cs:=fun y y':V=>qgo (ds.map oT) y y' ((ts.drop (i+1)).map oT) i (by simp [hd])
  have ot:oT (yz t k).1=V.a [I k,S (mkT (k+1)),I (k+2),.o 4 ((qi t.kids (k+3)).1.map oT)]:=by rw [qX];cases t;rfl
  rw [ot]at i1
  have kk:(yz t k).2=(qi t.kids (k+3)).2:=by cases t;rfl
  rw [kk]at i1 ⊢
  rw [List.map_cons,qX t]
  have ml:=qN t.kids (k+3)
  have tk:(((qi t.kids (k+3)).1).map oT).take t.kids.length=((qi t.kids (k+3)).1).map oT:=List.take_of_length_le (by rw [List.length_map,ml];exact Nat.le_refl _)
  simp only [go_sem,qa,qb,qc,qd,qe,qf,reduceCtorEq,X6,hlt,ix,cg,cs,hcc,e1,f1,f2,f3,mt,ml,tk]
  rw [show ds++(yz t k).1::(qi (ts.drop (i+1)) (qi t.kids (k+3)).2).1=ds++[(yz t k).1]++(qi (ts.drop (i+1)) (qi t.kids (k+3)).2).1 by simp]
  exact i1
theorem qiU: ∀ (t:Tm),WT t→ ∀ k:Int,0≤k→k+3*nTs t.kids < 3000000000000000000→cw qj YH [.o 4 (t.kids.map oT),I k]=some (I (qi t.kids k).2,[.o 4 ((qi t.kids k).1.map oT),I k]):=by
 refine xh ?_
 intro k0 s n ks ih hw k hk hb
 rw [jZ qjA rfl]
 have h:=qiV ks ks.length rfl (xy hw) (fun t ht=>ih t ht (yG hw t ht)) ks.length 0 [] k (by omega) rfl hk (by rw [List.drop_zero];exact hb)
 simp only [Int.natCast_zero,List.drop_zero,List.map_nil,List.nil_append]at h
 have ml:=qN ks k
 have tk:(((qi ks k).1).map oT).take ks.length=((qi ks k).1).map oT:=List.take_of_length_le (by rw [List.length_map,ml];exact Nat.le_refl _)
 simp only [go_sem,qa,qb,qc,qd,qe,qf,reduceCtorEq,Zg,z6,h,ml,tk]
end Go.Vm
namespace Go.Vm
theorem qhh(τ:Bool) (vs:List V) (us:List Tm) (n:Nat) (hl:us.length=n) (hv:RL BT us vs) (hlim:n≤Lm) (m:Nat):
 ∀ i (ts:List Tm) (k:Int),i+m=n→0≤k→k+3*nTs ts < 3000000000000000000→(qi ts k).1=us.drop i→
 (∀ t ∈ ts,∀ k:Int,0≤k→k+3*nTs t.kids < 3000000000000000000→ ∀ τ vs,RL BT (qi t.kids k).1 vs→cr qj YG [.i τ vs,I k]=some (I (qi t.kids k).2))→
 lw qj YP ⟨[(0,.i τ vs),(1,I k),(5,I i)],[]⟩=some (.exit 0,⟨[(1,I (qi ts k).2)],[]⟩):=by
 unfold Lm at hlim
 have hn:=zE hv
 rw [hl]at hn
 induction m with
 |zero=>
  intro i ts k hi hk hb he hc
  obtain rfl:i=n:=by omega
  rw [qY]
  have h1: ¬ (i:Int) < (i:Int):=by omega
  rw [List.drop_eq_nil_of_le (by omega)]at he
  have hts:ts=[]:=by
   have:=qN ts k
   rw [he]at this
   exact List.length_eq_zero_iff.1 this.symm
  subst hts
  simp only [go_sem,qa,qb,qc,qd,qe,qf,reduceCtorEq,X5,h1,hn,qi]
 |succ m ih=>
  intro i ts k hi hk hb he hc
  rw [qY]
  have hlt:(i:Int) < (n:Int):=by omega
  obtain ⟨u,hu⟩:=xX (l:=us) (i:=i) (by omega)
  rw [ky hu]at he
  obtain ⟨v,gv,hbt⟩:=ko hv hu
  cases ts with
  |nil=>simp [qi]at he
  |cons t ts=>
   simp only [qi,List.cons.injEq]at he
   obtain ⟨rfl,he⟩:=he
   simp only [nTs]at hb
   have hnk:=QM t
   obtain ⟨σ1,ws,rfl,hws⟩:=zm hbt
   have q1:(yz t k).1.kind=k:=by cases t;rfl
   have q2:(yz t k).1.name=mkT (k+1):=by cases t;rfl
   have q3:(yz t k).1.num=k+2:=by cases t;rfl
   have q4:(yz t k).1.kids=(qi t.kids (k+3)).1:=by cases t;rfl
   have kk:(yz t k).2=(qi t.kids (k+3)).2:=by cases t;rfl
   rw [q4]at hws
   rw [q1,q2,q3]at gv hbt
   have hcc:=hc t (by simp) (k+3) (by omega) (by omega) σ1 ws hws
   have a1:=fun T=>zL (τ:=τ) (T:=T) gv (kg hbt)
   have e1:w64 ((i:Int)+1)=((i+1:Nat):Int):=by rw [zn]<;>omega
   have f1:w64 (k+1)=k+1:=by rw [zn]<;>omega
   have f2:w64 (k+1+1)=k+2:=by rw [zn]<;>omega
   have f3:w64 (k+2+1)=k+3:=by rw [zn]<;>omega
   have mt:=qdK (k+1) (by omega)
   have hm:=kC t.kids (k+3)
   have neg: ¬ (qi t.kids (k+3)).2 < 0:=by omega
   have i1:=ih (i+1) ts (yz t k).2 (by omega) (by rw [Xo];omega) (by rw [Xo];omega) he (fun t' ht'=>hc t' (by simp [ht']))
   rw [qi]
   rw [kk]at i1 ⊢
   simp only [go_sem,qa,qb,qc,qd,qe,qf,reduceCtorEq,X5,hlt,hn,a1,gv,hcc,e1,f1,f2,f3,mt,neg]
   exact i1
theorem qhg: ∀ (t:Tm),WT t→ ∀ k:Int,0≤k→k+3*nTs t.kids < 3000000000000000000→ ∀ τ vs,RL BT (qi t.kids k).1 vs→cr qj YG [.i τ vs,I k]=some (I (qi t.kids k).2):=by
 refine xh ?_
 intro k0 s n ks ih hw k hk hb τ vs hv
 have ml:=qN ks k
 have h:=qhh τ vs (qi ks k).1 ks.length ml hv (xy hw) ks.length 0 ks k (by omega) hk hb (by rw [List.drop_zero]) (fun t ht=>ih t ht (yG hw t ht))
 rw [qF qjx rfl]
 simp only [Int.natCast_zero]at h
 simp only [go_sem,qa,qb,qc,qd,qe,qf,reduceCtorEq,Zd,h]
end Go.Vm
namespace Go.Vm
noncomputable def zJ(t:Tm) (k:Int):Tm:= .mk t.kind t.name t.num (qi t.kids k).1
theorem KM(t:Tm) (hw:WT t) (k:Int) (hk:0≤k) (hb:k+3*nTs t.kids < 3000000000000000000):
 cw qj jP [oT t,I k]=some (I (qi t.kids k).2,[oT (zJ t k),I k]):=by
 have h:=qiU t hw k hk hb
 have ml:=qN t.kids k
 have tk:(((qi t.kids k).1).map oT).take t.kids.length=((qi t.kids k).1).map oT:=List.take_of_length_le (by rw [List.length_map,ml];exact Nat.le_refl _)
 rw [jZ qjz (by rfl),qX,qX (zJ t k),zJ]
 simp only [go_sem,qa,qb,qc,qd,qe,qf,reduceCtorEq,Zf,z6,h,ml,tk]
theorem qdo(t:Tm) (hw:WT t) (k:Int) (hk:0≤k) (hb:k+3*nTs t.kids < 3000000000000000000) (v:V) (hv:BT (zJ t k) v):
 cr qj jO [v,I k]=some (I (qi t.kids k).2):=by
 obtain ⟨τ,vs,rfl,hvs⟩:=zm hv
 have h:=qhg t hw k hk hb τ vs hvs
 have neg: ¬ (qi t.kids k).2 < 0:=by rw [kC];omega
 rw [qF qjw rfl]
 simp only [go_sem,qa,qb,qc,qd,qe,qf,reduceCtorEq,Zc,h,neg]
end Go.Vm
namespace Go.Vm
noncomputable def ZP(c:Cl) (k:Int):Int:=(qi c.body.kids (qi c.head.kids k).2).2
noncomputable def xH(c:Cl) (k:Int):Cl:=⟨zJ c.head k,zJ c.body (qi c.head.kids k).2,c.file⟩
theorem qiT(c:Cl) (w1:WT c.head) (w2:WT c.body) (k:Int) (hk:0≤k) (hb:k+3*nTs c.head.kids+3*nTs c.body.kids < 3000000000000000000):
 cw qj XU [oCl c,I k]=some (I (ZP c k),[oCl (xH c k),I k]):=by
 have e1:=KM c.head w1 k hk (by omega)
 have hm:=kC c.head.kids k
 have e2:=KM c.body w2 (qi c.head.kids k).2 (by omega) (by omega)
 have ml1:=qN c.head.kids k
 have ml2:=qN c.body.kids (qi c.head.kids k).2
 rw [qX,qX (zJ _ _)]at e1 e2
 simp only [zJ,yD,yE,yF,ye]at e1 e2
 have tk1:(((qi c.head.kids k).1).map oT).take c.head.kids.length=((qi c.head.kids k).1).map oT:=List.take_of_length_le (by rw [List.length_map,ml1];exact Nat.le_refl _)
 have tk2:(((qi c.body.kids (qi c.head.kids k).2).1).map oT).take c.body.kids.length=((qi c.body.kids (qi c.head.kids k).2).1).map oT:=List.take_of_length_le (by rw [List.length_map,ml2];exact Nat.le_refl _)
 rw [jZ qjy (by rfl),oCl,oCl,ZP]
 simp only [go_sem,qa,qb,qc,qd,qe,qf,reduceCtorEq,Ze,z6,e1,e2,ml1,ml2,tk1,tk2,xH,zJ]
end Go.Vm
namespace Go.Vm
end Go.Vm
namespace Go.Vm
theorem qgJ {p:Nat→Option AE} {f:Nat} {xs:List V} (h:cr p f xs=some (B true)): ∃ outs,cw p f xs=some (B true,outs):=by
 unfold cr at h
 cases hc:cw p f xs with
 |none=>rw [hc]at h;cases h
 |some r=>rw [hc]at h;obtain ⟨a,b⟩:=r;simp only [Option.map_some,Option.some.injEq]at h;subst h;exact ⟨b,rfl⟩
theorem qeh:zj XS=some (.fn jI):=qaX _ _ qjt
structure NG (x:Cl) (g r:Tm) (q:Bool) (v:V) (m k1 k2:Int):Prop where
 hm:cr zj XV [v,I 1048576]=some (I m)
 hneg: ¬ m < 0
 ht:cr zj Qr [v]=some (oCl x)
 hs:cr zj XW [iCl false x]=some (.t [oT g,oT r,B q])
 hi: ∀ τ,cr zj Qn [iCl τ x]=some (.t [oT g,oT r,B q])
 he: ∀ τ τ',cr zj XT [iCl τ x,iCl τ' x]=some (B true)
 eg: ∀ τ τ',cr zj yX [iT τ g,iT τ' g]=some (B true)
 er: ∀ τ τ',cr zj yX [iT τ r,iT τ' r]=some (B true)
 hk:cw zj XU [oCl x,I 1]=some (I (ZP x 1),[oCl (xH x 1),I 1])
 n1: ¬ ZP x 1 < 0
 mg:cw zj jP [oT g,I 1]=some (I k1,[oT (zJ g 1),I 1])
 mr:cw zj jP [oT r,I k1]=some (I k2,[oT (zJ r k1),I k1])
 hg:cr zj jO [iT true (zJ g 1),I 1]=some (I k1)
 hr:cr zj jO [iT true (zJ r k1),I k1]=some (I k2)
 p1: ¬ k1 < 0
 p2: ¬ k2 < 0
theorem qiF(x:Cl) (g r:Tm) (q:Bool) (m k1 k2:Int) (τ0:Bool) (vs0:List V) (τ1:Bool) (vs1:List V) (f:NG x g r q (.a [I x.head.kind,S x.head.name,I x.head.num,.i τ0 vs0,I x.body.kind,S x.body.name,I x.body.num,.i τ1 vs1,S x.file]) m k1 k2): ∃ T',xw zj Jr (St.mk [(129,B false),(128,I k2),(12,I k2),(13,I k2)] [((15,0),4,[V.a [I (Tm.kind r),S (Tm.name r),I (Tm.num r),V.i false (List.map (iT false) (Tm.kids r))]]),((14,0),4,[V.a [I (Tm.kind g),S (Tm.name g),I (Tm.num g),V.i false (List.map (iT false) (Tm.kids g))]]),((33,1),4,List.map oT (qi (Tm.kids r) k1).fst),((33,0),4,List.map oT (qi (Tm.kids g) 1).fst),((30,0),4,List.map oT (qi (Tm.kids x.head) 1).fst),((30,1),4,List.map oT (qi (Tm.kids x.body) (qi (Tm.kids x.head) 1).snd).fst),((9,0),4,[V.a [I (Tm.kind r),S (Tm.name r),I (Tm.num r),V.s (33,1) 0 (List.length (Tm.kids r))]]),((8,0),4,[V.a [I (Tm.kind g),S (Tm.name g),I (Tm.num g),V.s (33,0) 0 (List.length (Tm.kids g))]]),((7,0),9,[V.a [I (Tm.kind x.head),S (Tm.name x.head),I (Tm.num x.head),V.s (30,0) 0 (List.length (Tm.kids x.head)),I (Tm.kind x.body),S (Tm.name x.body),I (Tm.num x.body),V.s (30,1) 0 (List.length (Tm.kids x.body)),S x.file]]),((5,0),4,[V.a [I (Tm.kind r),S (Tm.name r),I (Tm.num r),V.i false (List.map (iT false) (Tm.kids r))]]),((4,0),4,[V.a [I (Tm.kind g),S (Tm.name g),I (Tm.num g),V.i false (List.map (iT false) (Tm.kids g))]]),((1,0),9,[V.a [I (Tm.kind x.head),S (Tm.name x.head),I (Tm.num x.head),V.i τ0 vs0,I (Tm.kind x.body),S (Tm.name x.body),I (Tm.num x.body),V.i τ1 vs1,S x.file]])])=some (.ret,⟨[(2,B true)],T'⟩):=by
 obtain ⟨hm,hneg,ht,hs,hi,he,eg,er,hk,n1,mg,mr,hg,hr,p1,p2⟩:=f
 have ml1:=fun k=>qN x.head.kids k
 have ml2:=fun k=>qN x.body.kids k
 have ml3:=fun k=>qN g.kids k
 have ml4:=fun k=>qN r.kids k
 have tk1: ∀ k,(((qi x.head.kids k).1).map oT).take x.head.kids.length=((qi x.head.kids k).1).map oT:=fun k=>List.take_of_length_le (by rw [List.length_map,ml1];exact Nat.le_refl _)
 have tk2: ∀ k,(((qi x.body.kids k).1).map oT).take x.body.kids.length=((qi x.body.kids k).1).map oT:=fun k=>List.take_of_length_le (by rw [List.length_map,ml2];exact Nat.le_refl _)
 have tk3: ∀ k,(((qi g.kids k).1).map oT).take g.kids.length=((qi g.kids k).1).map oT:=fun k=>List.take_of_length_le (by rw [List.length_map,ml3];exact Nat.le_refl _)
 have tk4: ∀ k,(((qi r.kids k).1).map oT).take r.kids.length=((qi r.kids k).1).map oT:=fun k=>List.take_of_length_le (by rw [List.length_map,ml4];exact Nat.le_refl _)
 have tk:=fun t:Tm=>List.take_of_length_le (l:=t.kids.map oT) (i:=t.kids.length) (by simp)
 have bt:(true != true)=false:=rfl
 simp only [iCl]at hs hi he
 simp only [oCl]at ht hk
 simp only [qQ]at eg er hg hr
 simp only [qX]at hs hi mg mr
 simp only [xH,zJ,yD,yE,yF,ye]at hk mg mr hg hr
 simp only [go_sem,qa,qb,qc,qd,qe,qf,reduceCtorEq,Jr,hm,hneg,ht,hs,hi,he,eg,er,hk,n1,mg,mr,hg,hr,p1,p2,ml1,ml2,ml3,ml4,tk1,tk2,tk3,tk4,tk,bt,List.length_map]
 exact ⟨_,rfl⟩
theorem qiG(x:Cl) (g r:Tm) (q:Bool) (m k1 k2:Int) (τ0:Bool) (vs0:List V) (τ1:Bool) (vs1:List V) (f:NG x g r q (.a [I x.head.kind,S x.head.name,I x.head.num,.i τ0 vs0,I x.body.kind,S x.body.name,I x.body.num,.i τ1 vs1,S x.file]) m k1 k2): ∃ T',xw zj Js (St.mk [(13,I k1),(122,I k1),(121,I 1),(120,V.a [I (Tm.kind g),S (Tm.name g),I (Tm.num g),V.s (33,0) 0 (List.length (Tm.kids g))]),(13,I 1),(8,V.p (8,0) 0 0),(9,V.p (9,0) 0 0),(12,I k2)] [((15,0),4,[V.a [I (Tm.kind r),S (Tm.name r),I (Tm.num r),V.i false (List.map (iT false) (Tm.kids r))]]),((14,0),4,[V.a [I (Tm.kind g),S (Tm.name g),I (Tm.num g),V.i false (List.map (iT false) (Tm.kids g))]]),((33,1),4,List.map oT (qi (Tm.kids r) k1).fst),((33,0),4,List.map oT (qi (Tm.kids g) 1).fst),((30,0),4,List.map oT (qi (Tm.kids x.head) 1).fst),((30,1),4,List.map oT (qi (Tm.kids x.body) (qi (Tm.kids x.head) 1).snd).fst),((9,0),4,[V.a [I (Tm.kind r),S (Tm.name r),I (Tm.num r),V.s (33,1) 0 (List.length (Tm.kids r))]]),((8,0),4,[V.a [I (Tm.kind g),S (Tm.name g),I (Tm.num g),V.s (33,0) 0 (List.length (Tm.kids g))]]),((7,0),9,[V.a [I (Tm.kind x.head),S (Tm.name x.head),I (Tm.num x.head),V.s (30,0) 0 (List.length (Tm.kids x.head)),I (Tm.kind x.body),S (Tm.name x.body),I (Tm.num x.body),V.s (30,1) 0 (List.length (Tm.kids x.body)),S x.file]]),((5,0),4,[V.a [I (Tm.kind r),S (Tm.name r),I (Tm.num r),V.i false (List.map (iT false) (Tm.kids r))]]),((4,0),4,[V.a [I (Tm.kind g),S (Tm.name g),I (Tm.num g),V.i false (List.map (iT false) (Tm.kids g))]]),((1,0),9,[V.a [I (Tm.kind x.head),S (Tm.name x.head),I (Tm.num x.head),V.i τ0 vs0,I (Tm.kind x.body),S (Tm.name x.body),I (Tm.num x.body),V.i τ1 vs1,S x.file]])])=some (.ret,⟨[(2,B true)],T'⟩):=by
 obtain ⟨T',hT⟩:=qiF x g r q m k1 k2 τ0 vs0 τ1 vs1 f
 obtain ⟨hm,hneg,ht,hs,hi,he,eg,er,hk,n1,mg,mr,hg,hr,p1,p2⟩:=f
 have ml1:=fun k=>qN x.head.kids k
 have ml2:=fun k=>qN x.body.kids k
 have ml3:=fun k=>qN g.kids k
 have ml4:=fun k=>qN r.kids k
 have tk1: ∀ k,(((qi x.head.kids k).1).map oT).take x.head.kids.length=((qi x.head.kids k).1).map oT:=fun k=>List.take_of_length_le (by rw [List.length_map,ml1];exact Nat.le_refl _)
 have tk2: ∀ k,(((qi x.body.kids k).1).map oT).take x.body.kids.length=((qi x.body.kids k).1).map oT:=fun k=>List.take_of_length_le (by rw [List.length_map,ml2];exact Nat.le_refl _)
 have tk3: ∀ k,(((qi g.kids k).1).map oT).take g.kids.length=((qi g.kids k).1).map oT:=fun k=>List.take_of_length_le (by rw [List.length_map,ml3];exact Nat.le_refl _)
 have tk4: ∀ k,(((qi r.kids k).1).map oT).take r.kids.length=((qi r.kids k).1).map oT:=fun k=>List.take_of_length_le (by rw [List.length_map,ml4];exact Nat.le_refl _)
 have tk:=fun t:Tm=>List.take_of_length_le (l:=t.kids.map oT) (i:=t.kids.length) (by simp)
 have bt:(true != true)=false:=rfl
 simp only [iCl]at hs hi he
 simp only [oCl]at ht hk
 simp only [qQ]at eg er hg hr
 simp only [qX]at hs hi mg mr
 simp only [xH,zJ,yD,yE,yF,ye]at hk mg mr hg hr
 refine ⟨T', ?_⟩
 simp only [go_sem,qa,qb,qc,qd,qe,qf,reduceCtorEq,Js,hm,hneg,ht,hs,hi,he,eg,er,hk,n1,mg,mr,hg,hr,p1,p2,ml1,ml2,ml3,ml4,tk1,tk2,tk3,tk4,tk,bt,List.length_map,hT]
theorem qiH(x:Cl) (g r:Tm) (q:Bool) (m k1 k2:Int) (τ0:Bool) (vs0:List V) (τ1:Bool) (vs1:List V) (f:NG x g r q (.a [I x.head.kind,S x.head.name,I x.head.num,.i τ0 vs0,I x.body.kind,S x.body.name,I x.body.num,.i τ1 vs1,S x.file]) m k1 k2): ∃ T',xw zj Jt (St.mk [(97,B false),(96,I k2),(95,I k2),(1,V.p (1,0) 0 0),(4,V.p (4,0) 0 0),(5,V.p (5,0) 0 0),(6,B q),(8,V.p (8,0) 0 0),(9,V.p (9,0) 0 0),(12,I k2),(13,I k2)] [((33,1),4,List.map oT (qi (Tm.kids r) k1).fst),((33,0),4,List.map oT (qi (Tm.kids g) 1).fst),((30,0),4,List.map oT (qi (Tm.kids x.head) 1).fst),((30,1),4,List.map oT (qi (Tm.kids x.body) (qi (Tm.kids x.head) 1).snd).fst),((9,0),4,[V.a [I (Tm.kind r),S (Tm.name r),I (Tm.num r),V.s (33,1) 0 (List.length (Tm.kids r))]]),((8,0),4,[V.a [I (Tm.kind g),S (Tm.name g),I (Tm.num g),V.s (33,0) 0 (List.length (Tm.kids g))]]),((7,0),9,[V.a [I (Tm.kind x.head),S (Tm.name x.head),I (Tm.num x.head),V.s (30,0) 0 (List.length (Tm.kids x.head)),I (Tm.kind x.body),S (Tm.name x.body),I (Tm.num x.body),V.s (30,1) 0 (List.length (Tm.kids x.body)),S x.file]]),((5,0),4,[V.a [I (Tm.kind r),S (Tm.name r),I (Tm.num r),V.i false (List.map (iT false) (Tm.kids r))]]),((4,0),4,[V.a [I (Tm.kind g),S (Tm.name g),I (Tm.num g),V.i false (List.map (iT false) (Tm.kids g))]]),((1,0),9,[V.a [I (Tm.kind x.head),S (Tm.name x.head),I (Tm.num x.head),V.i τ0 vs0,I (Tm.kind x.body),S (Tm.name x.body),I (Tm.num x.body),V.i τ1 vs1,S x.file]])])=some (.ret,⟨[(2,B true)],T'⟩):=by
 obtain ⟨T',hT⟩:=qiG x g r q m k1 k2 τ0 vs0 τ1 vs1 f
 obtain ⟨hm,hneg,ht,hs,hi,he,eg,er,hk,n1,mg,mr,hg,hr,p1,p2⟩:=f
 have ml1:=fun k=>qN x.head.kids k
 have ml2:=fun k=>qN x.body.kids k
 have ml3:=fun k=>qN g.kids k
 have ml4:=fun k=>qN r.kids k
 have tk1: ∀ k,(((qi x.head.kids k).1).map oT).take x.head.kids.length=((qi x.head.kids k).1).map oT:=fun k=>List.take_of_length_le (by rw [List.length_map,ml1];exact Nat.le_refl _)
 have tk2: ∀ k,(((qi x.body.kids k).1).map oT).take x.body.kids.length=((qi x.body.kids k).1).map oT:=fun k=>List.take_of_length_le (by rw [List.length_map,ml2];exact Nat.le_refl _)
 have tk3: ∀ k,(((qi g.kids k).1).map oT).take g.kids.length=((qi g.kids k).1).map oT:=fun k=>List.take_of_length_le (by rw [List.length_map,ml3];exact Nat.le_refl _)
 have tk4: ∀ k,(((qi r.kids k).1).map oT).take r.kids.length=((qi r.kids k).1).map oT:=fun k=>List.take_of_length_le (by rw [List.length_map,ml4];exact Nat.le_refl _)
 have tk:=fun t:Tm=>List.take_of_length_le (l:=t.kids.map oT) (i:=t.kids.length) (by simp)
 have bt:(true != true)=false:=rfl
 simp only [iCl]at hs hi he
 simp only [oCl]at ht hk
 simp only [qQ]at eg er hg hr
 simp only [qX]at hs hi mg mr
 simp only [xH,zJ,yD,yE,yF,ye]at hk mg mr hg hr
 refine ⟨T', ?_⟩
 simp only [go_sem,qa,qb,qc,qd,qe,qf,reduceCtorEq,Jt,hm,hneg,ht,hs,hi,he,eg,er,hk,n1,mg,mr,hg,hr,p1,p2,ml1,ml2,ml3,ml4,tk1,tk2,tk3,tk4,tk,bt,List.length_map,hT]
theorem qiI(x:Cl) (g r:Tm) (q:Bool) (m k1 k2:Int) (τ0:Bool) (vs0:List V) (τ1:Bool) (vs1:List V) (f:NG x g r q (.a [I x.head.kind,S x.head.name,I x.head.num,.i τ0 vs0,I x.body.kind,S x.body.name,I x.body.num,.i τ1 vs1,S x.file]) m k1 k2): ∃ T',xw zj Ju (St.mk [(89,B false),(88,I k1),(1,V.p (1,0) 0 0),(4,V.p (4,0) 0 0),(5,V.p (5,0) 0 0),(6,B q),(8,V.p (8,0) 0 0),(9,V.p (9,0) 0 0),(12,I k2),(13,I k1)] [((33,1),4,List.map oT (qi (Tm.kids r) k1).fst),((33,0),4,List.map oT (qi (Tm.kids g) 1).fst),((30,0),4,List.map oT (qi (Tm.kids x.head) 1).fst),((30,1),4,List.map oT (qi (Tm.kids x.body) (qi (Tm.kids x.head) 1).snd).fst),((9,0),4,[V.a [I (Tm.kind r),S (Tm.name r),I (Tm.num r),V.s (33,1) 0 (List.length (Tm.kids r))]]),((8,0),4,[V.a [I (Tm.kind g),S (Tm.name g),I (Tm.num g),V.s (33,0) 0 (List.length (Tm.kids g))]]),((7,0),9,[V.a [I (Tm.kind x.head),S (Tm.name x.head),I (Tm.num x.head),V.s (30,0) 0 (List.length (Tm.kids x.head)),I (Tm.kind x.body),S (Tm.name x.body),I (Tm.num x.body),V.s (30,1) 0 (List.length (Tm.kids x.body)),S x.file]]),((5,0),4,[V.a [I (Tm.kind r),S (Tm.name r),I (Tm.num r),V.i false (List.map (iT false) (Tm.kids r))]]),((4,0),4,[V.a [I (Tm.kind g),S (Tm.name g),I (Tm.num g),V.i false (List.map (iT false) (Tm.kids g))]]),((1,0),9,[V.a [I (Tm.kind x.head),S (Tm.name x.head),I (Tm.num x.head),V.i τ0 vs0,I (Tm.kind x.body),S (Tm.name x.body),I (Tm.num x.body),V.i τ1 vs1,S x.file]])])=some (.ret,⟨[(2,B true)],T'⟩):=by
 obtain ⟨T',hT⟩:=qiH x g r q m k1 k2 τ0 vs0 τ1 vs1 f
 obtain ⟨hm,hneg,ht,hs,hi,he,eg,er,hk,n1,mg,mr,hg,hr,p1,p2⟩:=f
 have ml1:=fun k=>qN x.head.kids k
 have ml2:=fun k=>qN x.body.kids k
 have ml3:=fun k=>qN g.kids k
 have ml4:=fun k=>qN r.kids k
 have tk1: ∀ k,(((qi x.head.kids k).1).map oT).take x.head.kids.length=((qi x.head.kids k).1).map oT:=fun k=>List.take_of_length_le (by rw [List.length_map,ml1];exact Nat.le_refl _)
 have tk2: ∀ k,(((qi x.body.kids k).1).map oT).take x.body.kids.length=((qi x.body.kids k).1).map oT:=fun k=>List.take_of_length_le (by rw [List.length_map,ml2];exact Nat.le_refl _)
 have tk3: ∀ k,(((qi g.kids k).1).map oT).take g.kids.length=((qi g.kids k).1).map oT:=fun k=>List.take_of_length_le (by rw [List.length_map,ml3];exact Nat.le_refl _)
 have tk4: ∀ k,(((qi r.kids k).1).map oT).take r.kids.length=((qi r.kids k).1).map oT:=fun k=>List.take_of_length_le (by rw [List.length_map,ml4];exact Nat.le_refl _)
 have tk:=fun t:Tm=>List.take_of_length_le (l:=t.kids.map oT) (i:=t.kids.length) (by simp)
 have bt:(true != true)=false:=rfl
 simp only [iCl]at hs hi he
 simp only [oCl]at ht hk
 simp only [qQ]at eg er hg hr
 simp only [qX]at hs hi mg mr
 simp only [xH,zJ,yD,yE,yF,ye]at hk mg mr hg hr
 refine ⟨T', ?_⟩
 simp only [go_sem,qa,qb,qc,qd,qe,qf,reduceCtorEq,Ju,hm,hneg,ht,hs,hi,he,eg,er,hk,n1,mg,mr,hg,hr,p1,p2,ml1,ml2,ml3,ml4,tk1,tk2,tk3,tk4,tk,bt,List.length_map,hT]
theorem qiJ(x:Cl) (g r:Tm) (q:Bool) (m k1 k2:Int) (τ0:Bool) (vs0:List V) (τ1:Bool) (vs1:List V) (f:NG x g r q (.a [I x.head.kind,S x.head.name,I x.head.num,.i τ0 vs0,I x.body.kind,S x.body.name,I x.body.num,.i τ1 vs1,S x.file]) m k1 k2): ∃ T',xw zj Jv (St.mk [(12,I k2),(84,I k2),(83,I k1),(82,V.a [I (Tm.kind r),S (Tm.name r),I (Tm.num r),V.s (33,1) 0 (List.length (Tm.kids r))]),(1,V.p (1,0) 0 0),(4,V.p (4,0) 0 0),(5,V.p (5,0) 0 0),(6,B q),(8,V.p (8,0) 0 0),(9,V.p (9,0) 0 0),(12,I k1)] [((33,1),4,List.map oT (qi (Tm.kids r) k1).fst),((33,0),4,List.map oT (qi (Tm.kids g) 1).fst),((30,0),4,List.map oT (qi (Tm.kids x.head) 1).fst),((30,1),4,List.map oT (qi (Tm.kids x.body) (qi (Tm.kids x.head) 1).snd).fst),((9,0),4,[V.a [I (Tm.kind r),S (Tm.name r),I (Tm.num r),V.s (33,1) 0 (List.length (Tm.kids r))]]),((8,0),4,[V.a [I (Tm.kind g),S (Tm.name g),I (Tm.num g),V.s (33,0) 0 (List.length (Tm.kids g))]]),((7,0),9,[V.a [I (Tm.kind x.head),S (Tm.name x.head),I (Tm.num x.head),V.s (30,0) 0 (List.length (Tm.kids x.head)),I (Tm.kind x.body),S (Tm.name x.body),I (Tm.num x.body),V.s (30,1) 0 (List.length (Tm.kids x.body)),S x.file]]),((5,0),4,[V.a [I (Tm.kind r),S (Tm.name r),I (Tm.num r),V.i false (List.map (iT false) (Tm.kids r))]]),((4,0),4,[V.a [I (Tm.kind g),S (Tm.name g),I (Tm.num g),V.i false (List.map (iT false) (Tm.kids g))]]),((1,0),9,[V.a [I (Tm.kind x.head),S (Tm.name x.head),I (Tm.num x.head),V.i τ0 vs0,I (Tm.kind x.body),S (Tm.name x.body),I (Tm.num x.body),V.i τ1 vs1,S x.file]])])=some (.ret,⟨[(2,B true)],T'⟩):=by
 obtain ⟨T',hT⟩:=qiI x g r q m k1 k2 τ0 vs0 τ1 vs1 f
 obtain ⟨hm,hneg,ht,hs,hi,he,eg,er,hk,n1,mg,mr,hg,hr,p1,p2⟩:=f
 have ml1:=fun k=>qN x.head.kids k
 have ml2:=fun k=>qN x.body.kids k
 have ml3:=fun k=>qN g.kids k
 have ml4:=fun k=>qN r.kids k
 have tk1: ∀ k,(((qi x.head.kids k).1).map oT).take x.head.kids.length=((qi x.head.kids k).1).map oT:=fun k=>List.take_of_length_le (by rw [List.length_map,ml1];exact Nat.le_refl _)
 have tk2: ∀ k,(((qi x.body.kids k).1).map oT).take x.body.kids.length=((qi x.body.kids k).1).map oT:=fun k=>List.take_of_length_le (by rw [List.length_map,ml2];exact Nat.le_refl _)
 have tk3: ∀ k,(((qi g.kids k).1).map oT).take g.kids.length=((qi g.kids k).1).map oT:=fun k=>List.take_of_length_le (by rw [List.length_map,ml3];exact Nat.le_refl _)
 have tk4: ∀ k,(((qi r.kids k).1).map oT).take r.kids.length=((qi r.kids k).1).map oT:=fun k=>List.take_of_length_le (by rw [List.length_map,ml4];exact Nat.le_refl _)
 have tk:=fun t:Tm=>List.take_of_length_le (l:=t.kids.map oT) (i:=t.kids.length) (by simp)
 have bt:(true != true)=false:=rfl
 simp only [iCl]at hs hi he
 simp only [oCl]at ht hk
 simp only [qQ]at eg er hg hr
 simp only [qX]at hs hi mg mr
 simp only [xH,zJ,yD,yE,yF,ye]at hk mg mr hg hr
 refine ⟨T', ?_⟩
 simp only [go_sem,qa,qb,qc,qd,qe,qf,reduceCtorEq,Jv,hm,hneg,ht,hs,hi,he,eg,er,hk,n1,mg,mr,hg,hr,p1,p2,ml1,ml2,ml3,ml4,tk1,tk2,tk3,tk4,tk,bt,List.length_map,hT]
theorem qiK(x:Cl) (g r:Tm) (q:Bool) (m k1 k2:Int) (τ0:Bool) (vs0:List V) (τ1:Bool) (vs1:List V) (f:NG x g r q (.a [I x.head.kind,S x.head.name,I x.head.num,.i τ0 vs0,I x.body.kind,S x.body.name,I x.body.num,.i τ1 vs1,S x.file]) m k1 k2): ∃ T',xw zj Jw (St.mk [(1,V.p (1,0) 0 0),(4,V.p (4,0) 0 0),(5,V.p (5,0) 0 0),(6,B q),(8,V.p (8,0) 0 0),(9,V.p (9,0) 0 0),(78,B false)] [((30,0),4,List.map oT (qi (Tm.kids x.head) 1).fst),((30,1),4,List.map oT (qi (Tm.kids x.body) (qi (Tm.kids x.head) 1).snd).fst),((9,0),4,[V.a [I (Tm.kind r),S (Tm.name r),I (Tm.num r),V.s (33,1) 0 (List.length (Tm.kids r))]]),((8,0),4,[V.a [I (Tm.kind g),S (Tm.name g),I (Tm.num g),V.s (33,0) 0 (List.length (Tm.kids g))]]),((33,0),4,List.map oT (Tm.kids g)),((33,1),4,List.map oT (Tm.kids r)),((7,0),9,[V.a [I (Tm.kind x.head),S (Tm.name x.head),I (Tm.num x.head),V.s (30,0) 0 (List.length (Tm.kids x.head)),I (Tm.kind x.body),S (Tm.name x.body),I (Tm.num x.body),V.s (30,1) 0 (List.length (Tm.kids x.body)),S x.file]]),((5,0),4,[V.a [I (Tm.kind r),S (Tm.name r),I (Tm.num r),V.i false (List.map (iT false) (Tm.kids r))]]),((4,0),4,[V.a [I (Tm.kind g),S (Tm.name g),I (Tm.num g),V.i false (List.map (iT false) (Tm.kids g))]]),((1,0),9,[V.a [I (Tm.kind x.head),S (Tm.name x.head),I (Tm.num x.head),V.i τ0 vs0,I (Tm.kind x.body),S (Tm.name x.body),I (Tm.num x.body),V.i τ1 vs1,S x.file]])])=some (.ret,⟨[(2,B true)],T'⟩):=by
 obtain ⟨T',hT⟩:=qiJ x g r q m k1 k2 τ0 vs0 τ1 vs1 f
 obtain ⟨hm,hneg,ht,hs,hi,he,eg,er,hk,n1,mg,mr,hg,hr,p1,p2⟩:=f
 have ml1:=fun k=>qN x.head.kids k
 have ml2:=fun k=>qN x.body.kids k
 have ml3:=fun k=>qN g.kids k
 have ml4:=fun k=>qN r.kids k
 have tk1: ∀ k,(((qi x.head.kids k).1).map oT).take x.head.kids.length=((qi x.head.kids k).1).map oT:=fun k=>List.take_of_length_le (by rw [List.length_map,ml1];exact Nat.le_refl _)
 have tk2: ∀ k,(((qi x.body.kids k).1).map oT).take x.body.kids.length=((qi x.body.kids k).1).map oT:=fun k=>List.take_of_length_le (by rw [List.length_map,ml2];exact Nat.le_refl _)
 have tk3: ∀ k,(((qi g.kids k).1).map oT).take g.kids.length=((qi g.kids k).1).map oT:=fun k=>List.take_of_length_le (by rw [List.length_map,ml3];exact Nat.le_refl _)
 have tk4: ∀ k,(((qi r.kids k).1).map oT).take r.kids.length=((qi r.kids k).1).map oT:=fun k=>List.take_of_length_le (by rw [List.length_map,ml4];exact Nat.le_refl _)
 have tk:=fun t:Tm=>List.take_of_length_le (l:=t.kids.map oT) (i:=t.kids.length) (by simp)
 have bt:(true != true)=false:=rfl
 simp only [iCl]at hs hi he
 simp only [oCl]at ht hk
 simp only [qQ]at eg er hg hr
 simp only [qX]at hs hi mg mr
 simp only [xH,zJ,yD,yE,yF,ye]at hk mg mr hg hr
 refine ⟨T', ?_⟩
 simp only [go_sem,qa,qb,qc,qd,qe,qf,reduceCtorEq,Jw,hm,hneg,ht,hs,hi,he,eg,er,hk,n1,mg,mr,hg,hr,p1,p2,ml1,ml2,ml3,ml4,tk1,tk2,tk3,tk4,tk,bt,List.length_map,hT]
theorem qiL(x:Cl) (g r:Tm) (q:Bool) (m k1 k2:Int) (τ0:Bool) (vs0:List V) (τ1:Bool) (vs1:List V) (f:NG x g r q (.a [I x.head.kind,S x.head.name,I x.head.num,.i τ0 vs0,I x.body.kind,S x.body.name,I x.body.num,.i τ1 vs1,S x.file]) m k1 k2): ∃ T',xw zj Jx (St.mk [(1,V.p (1,0) 0 0),(4,V.p (4,0) 0 0),(5,V.p (5,0) 0 0),(6,B q),(7,V.p (7,0) 0 0),(8,V.p (8,0) 0 0),(9,V.p (9,0) 0 0),(10,B q),(56,B false)] [((9,0),4,[V.a [I (Tm.kind r),S (Tm.name r),I (Tm.num r),V.s (33,1) 0 (List.length (Tm.kids r))]]),((8,0),4,[V.a [I (Tm.kind g),S (Tm.name g),I (Tm.num g),V.s (33,0) 0 (List.length (Tm.kids g))]]),((33,0),4,List.map oT (Tm.kids g)),((33,1),4,List.map oT (Tm.kids r)),((7,0),9,[V.a [I (Tm.kind x.head),S (Tm.name x.head),I (Tm.num x.head),V.s (30,0) 0 (List.length (Tm.kids x.head)),I (Tm.kind x.body),S (Tm.name x.body),I (Tm.num x.body),V.s (30,1) 0 (List.length (Tm.kids x.body)),S x.file]]),((30,0),4,List.map oT (Tm.kids x.head)),((30,1),4,List.map oT (Tm.kids x.body)),((5,0),4,[V.a [I (Tm.kind r),S (Tm.name r),I (Tm.num r),V.i false (List.map (iT false) (Tm.kids r))]]),((4,0),4,[V.a [I (Tm.kind g),S (Tm.name g),I (Tm.num g),V.i false (List.map (iT false) (Tm.kids g))]]),((1,0),9,[V.a [I (Tm.kind x.head),S (Tm.name x.head),I (Tm.num x.head),V.i τ0 vs0,I (Tm.kind x.body),S (Tm.name x.body),I (Tm.num x.body),V.i τ1 vs1,S x.file]])])=some (.ret,⟨[(2,B true)],T'⟩):=by
 obtain ⟨T',hT⟩:=qiK x g r q m k1 k2 τ0 vs0 τ1 vs1 f
 obtain ⟨hm,hneg,ht,hs,hi,he,eg,er,hk,n1,mg,mr,hg,hr,p1,p2⟩:=f
 have ml1:=fun k=>qN x.head.kids k
 have ml2:=fun k=>qN x.body.kids k
 have ml3:=fun k=>qN g.kids k
 have ml4:=fun k=>qN r.kids k
 have tk1: ∀ k,(((qi x.head.kids k).1).map oT).take x.head.kids.length=((qi x.head.kids k).1).map oT:=fun k=>List.take_of_length_le (by rw [List.length_map,ml1];exact Nat.le_refl _)
 have tk2: ∀ k,(((qi x.body.kids k).1).map oT).take x.body.kids.length=((qi x.body.kids k).1).map oT:=fun k=>List.take_of_length_le (by rw [List.length_map,ml2];exact Nat.le_refl _)
 have tk3: ∀ k,(((qi g.kids k).1).map oT).take g.kids.length=((qi g.kids k).1).map oT:=fun k=>List.take_of_length_le (by rw [List.length_map,ml3];exact Nat.le_refl _)
 have tk4: ∀ k,(((qi r.kids k).1).map oT).take r.kids.length=((qi r.kids k).1).map oT:=fun k=>List.take_of_length_le (by rw [List.length_map,ml4];exact Nat.le_refl _)
 have tk:=fun t:Tm=>List.take_of_length_le (l:=t.kids.map oT) (i:=t.kids.length) (by simp)
 have bt:(true != true)=false:=rfl
 simp only [iCl]at hs hi he
 simp only [oCl]at ht hk
 simp only [qQ]at eg er hg hr
 simp only [qX]at hs hi mg mr
 simp only [xH,zJ,yD,yE,yF,ye]at hk mg mr hg hr
 refine ⟨T', ?_⟩
 simp only [go_sem,qa,qb,qc,qd,qe,qf,reduceCtorEq,Jx,hm,hneg,ht,hs,hi,he,eg,er,hk,n1,mg,mr,hg,hr,p1,p2,ml1,ml2,ml3,ml4,tk1,tk2,tk3,tk4,tk,bt,List.length_map,hT]
theorem qiM(x:Cl) (g r:Tm) (q:Bool) (m k1 k2:Int) (τ0:Bool) (vs0:List V) (τ1:Bool) (vs1:List V) (f:NG x g r q (.a [I x.head.kind,S x.head.name,I x.head.num,.i τ0 vs0,I x.body.kind,S x.body.name,I x.body.num,.i τ1 vs1,S x.file]) m k1 k2): ∃ T',xw zj Jy (St.mk [(7,V.p (7,0) 0 0),(30,V.a [I (Tm.kind x.head),S (Tm.name x.head),I (Tm.num x.head),V.s (30,0) 0 (List.length (Tm.kids x.head)),I (Tm.kind x.body),S (Tm.name x.body),I (Tm.num x.body),V.s (30,1) 0 (List.length (Tm.kids x.body)),S x.file]),(29,V.a [I (Tm.kind x.head),S (Tm.name x.head),I (Tm.num x.head),V.i τ0 vs0,I (Tm.kind x.body),S (Tm.name x.body),I (Tm.num x.body),V.i τ1 vs1,S x.file]),(1,V.p (1,0) 0 0),(4,V.p (4,0) 0 0),(5,V.p (5,0) 0 0),(6,B q)] [((7,0),9,[V.a [I (Tm.kind x.head),S (Tm.name x.head),I (Tm.num x.head),V.s (30,0) 0 (List.length (Tm.kids x.head)),I (Tm.kind x.body),S (Tm.name x.body),I (Tm.num x.body),V.s (30,1) 0 (List.length (Tm.kids x.body)),S x.file]]),((30,0),4,List.map oT (Tm.kids x.head)),((30,1),4,List.map oT (Tm.kids x.body)),((5,0),4,[V.a [I (Tm.kind r),S (Tm.name r),I (Tm.num r),V.i false (List.map (iT false) (Tm.kids r))]]),((4,0),4,[V.a [I (Tm.kind g),S (Tm.name g),I (Tm.num g),V.i false (List.map (iT false) (Tm.kids g))]]),((1,0),9,[V.a [I (Tm.kind x.head),S (Tm.name x.head),I (Tm.num x.head),V.i τ0 vs0,I (Tm.kind x.body),S (Tm.name x.body),I (Tm.num x.body),V.i τ1 vs1,S x.file]])])=some (.ret,⟨[(2,B true)],T'⟩):=by
 obtain ⟨T',hT⟩:=qiL x g r q m k1 k2 τ0 vs0 τ1 vs1 f
 obtain ⟨hm,hneg,ht,hs,hi,he,eg,er,hk,n1,mg,mr,hg,hr,p1,p2⟩:=f
 have ml1:=fun k=>qN x.head.kids k
 have ml2:=fun k=>qN x.body.kids k
 have ml3:=fun k=>qN g.kids k
 have ml4:=fun k=>qN r.kids k
 have tk1: ∀ k,(((qi x.head.kids k).1).map oT).take x.head.kids.length=((qi x.head.kids k).1).map oT:=fun k=>List.take_of_length_le (by rw [List.length_map,ml1];exact Nat.le_refl _)
 have tk2: ∀ k,(((qi x.body.kids k).1).map oT).take x.body.kids.length=((qi x.body.kids k).1).map oT:=fun k=>List.take_of_length_le (by rw [List.length_map,ml2];exact Nat.le_refl _)
 have tk3: ∀ k,(((qi g.kids k).1).map oT).take g.kids.length=((qi g.kids k).1).map oT:=fun k=>List.take_of_length_le (by rw [List.length_map,ml3];exact Nat.le_refl _)
 have tk4: ∀ k,(((qi r.kids k).1).map oT).take r.kids.length=((qi r.kids k).1).map oT:=fun k=>List.take_of_length_le (by rw [List.length_map,ml4];exact Nat.le_refl _)
 have tk:=fun t:Tm=>List.take_of_length_le (l:=t.kids.map oT) (i:=t.kids.length) (by simp)
 have bt:(true != true)=false:=rfl
 simp only [iCl]at hs hi he
 simp only [oCl]at ht hk
 simp only [qQ]at eg er hg hr
 simp only [qX]at hs hi mg mr
 simp only [xH,zJ,yD,yE,yF,ye]at hk mg mr hg hr
 refine ⟨T', ?_⟩
 simp only [go_sem,qa,qb,qc,qd,qe,qf,reduceCtorEq,Jy,hm,hneg,ht,hs,hi,he,eg,er,hk,n1,mg,mr,hg,hr,p1,p2,ml1,ml2,ml3,ml4,tk1,tk2,tk3,tk4,tk,bt,List.length_map,hT]
theorem qiN(x:Cl) (g r:Tm) (q:Bool) (m k1 k2:Int) (τ0:Bool) (vs0:List V) (τ1:Bool) (vs1:List V) (f:NG x g r q (.a [I x.head.kind,S x.head.name,I x.head.num,.i τ0 vs0,I x.body.kind,S x.body.name,I x.body.num,.i τ1 vs1,S x.file]) m k1 k2): ∃ T',xw zj XP (St.mk [(3,I m),(19,I m),(18,I 1048576),(17,V.a [I (Tm.kind x.head),S (Tm.name x.head),I (Tm.num x.head),V.i τ0 vs0,I (Tm.kind x.body),S (Tm.name x.body),I (Tm.num x.body),V.i τ1 vs1,S x.file]),(3,I 1048576),(2,B false),(1,V.p (1,0) 0 0),(0,V.a [I (Tm.kind x.head),S (Tm.name x.head),I (Tm.num x.head),V.i τ0 vs0,I (Tm.kind x.body),S (Tm.name x.body),I (Tm.num x.body),V.i τ1 vs1,S x.file])] [((1,0),9,[V.a [I (Tm.kind x.head),S (Tm.name x.head),I (Tm.num x.head),V.i τ0 vs0,I (Tm.kind x.body),S (Tm.name x.body),I (Tm.num x.body),V.i τ1 vs1,S x.file]])])=some (.ret,⟨[(2,B true)],T'⟩):=by
 obtain ⟨T',hT⟩:=qiM x g r q m k1 k2 τ0 vs0 τ1 vs1 f
 obtain ⟨hm,hneg,ht,hs,hi,he,eg,er,hk,n1,mg,mr,hg,hr,p1,p2⟩:=f
 have ml1:=fun k=>qN x.head.kids k
 have ml2:=fun k=>qN x.body.kids k
 have ml3:=fun k=>qN g.kids k
 have ml4:=fun k=>qN r.kids k
 have tk1: ∀ k,(((qi x.head.kids k).1).map oT).take x.head.kids.length=((qi x.head.kids k).1).map oT:=fun k=>List.take_of_length_le (by rw [List.length_map,ml1];exact Nat.le_refl _)
 have tk2: ∀ k,(((qi x.body.kids k).1).map oT).take x.body.kids.length=((qi x.body.kids k).1).map oT:=fun k=>List.take_of_length_le (by rw [List.length_map,ml2];exact Nat.le_refl _)
 have tk3: ∀ k,(((qi g.kids k).1).map oT).take g.kids.length=((qi g.kids k).1).map oT:=fun k=>List.take_of_length_le (by rw [List.length_map,ml3];exact Nat.le_refl _)
 have tk4: ∀ k,(((qi r.kids k).1).map oT).take r.kids.length=((qi r.kids k).1).map oT:=fun k=>List.take_of_length_le (by rw [List.length_map,ml4];exact Nat.le_refl _)
 have tk:=fun t:Tm=>List.take_of_length_le (l:=t.kids.map oT) (i:=t.kids.length) (by simp)
 have bt:(true != true)=false:=rfl
 simp only [iCl]at hs hi he
 simp only [oCl]at ht hk
 simp only [qQ]at eg er hg hr
 simp only [qX]at hs hi mg mr
 simp only [xH,zJ,yD,yE,yF,ye]at hk mg mr hg hr
 refine ⟨T', ?_⟩
 simp only [go_sem,qa,qb,qc,qd,qe,qf,reduceCtorEq,XP,hm,hneg,ht,hs,hi,he,eg,er,hk,n1,mg,mr,hg,hr,p1,p2,ml1,ml2,ml3,ml4,tk1,tk2,tk3,tk4,tk,bt,List.length_map,hT]
theorem qiO(x:Cl) (g r:Tm) (q:Bool) (m k1 k2:Int) (τ0:Bool) (vs0:List V) (τ1:Bool) (vs1:List V) (f:NG x g r q (.a [I x.head.kind,S x.head.name,I x.head.num,.i τ0 vs0,I x.body.kind,S x.body.name,I x.body.num,.i τ1 vs1,S x.file]) m k1 k2): ∃ outs,cw zj XS [.a [I x.head.kind,S x.head.name,I x.head.num,.i τ0 vs0,I x.body.kind,S x.body.name,I x.body.num,.i τ1 vs1,S x.file]]=some (B true,outs):=by
 obtain ⟨T',hT⟩:=qiN x g r q m k1 k2 τ0 vs0 τ1 vs1 f
 obtain ⟨hm,hneg,ht,hs,hi,he,eg,er,hk,n1,mg,mr,hg,hr,p1,p2⟩:=f
 have ml1:=fun k=>qN x.head.kids k
 have ml2:=fun k=>qN x.body.kids k
 have ml3:=fun k=>qN g.kids k
 have ml4:=fun k=>qN r.kids k
 have tk1: ∀ k,(((qi x.head.kids k).1).map oT).take x.head.kids.length=((qi x.head.kids k).1).map oT:=fun k=>List.take_of_length_le (by rw [List.length_map,ml1];exact Nat.le_refl _)
 have tk2: ∀ k,(((qi x.body.kids k).1).map oT).take x.body.kids.length=((qi x.body.kids k).1).map oT:=fun k=>List.take_of_length_le (by rw [List.length_map,ml2];exact Nat.le_refl _)
 have tk3: ∀ k,(((qi g.kids k).1).map oT).take g.kids.length=((qi g.kids k).1).map oT:=fun k=>List.take_of_length_le (by rw [List.length_map,ml3];exact Nat.le_refl _)
 have tk4: ∀ k,(((qi r.kids k).1).map oT).take r.kids.length=((qi r.kids k).1).map oT:=fun k=>List.take_of_length_le (by rw [List.length_map,ml4];exact Nat.le_refl _)
 have tk:=fun t:Tm=>List.take_of_length_le (l:=t.kids.map oT) (i:=t.kids.length) (by simp)
 have bt:(true != true)=false:=rfl
 simp only [iCl]at hs hi he
 simp only [oCl]at ht hk
 simp only [qQ]at eg er hg hr
 simp only [qX]at hs hi mg mr
 simp only [xH,zJ,yD,yE,yF,ye]at hk mg mr hg hr
 rw [jZ qeh rfl]
 simp only [go_sem,qa,qb,qc,qd,qe,qf,reduceCtorEq,jI,z6,hm,hneg,ht,hs,hi,he,eg,er,hk,n1,mg,mr,hg,hr,p1,p2,ml1,ml2,ml3,ml4,tk1,tk2,tk3,tk4,tk,bt,List.length_map,hT]
 exact ⟨_,rfl⟩
theorem qdO(n:Nat): ∀ l:List Tm,(∀ t ∈ l,nT t≤n)→nT (cjT l)≤l.length*(n+1)+1
 |[],_=>by simp [cjT,nT,nTs]
 |[e],h=>by
  have:=h e (by simp)
  show nT e≤1*(n+1)+1
  omega
 |e::a::t,h=>by
  have h1:=h e (by simp)
  have h2:=qdO n (a::t) (fun u hu=>h u (List.mem_cons_of_mem _ hu))
  show nT (.mk 4 [44] 0 [e,cjT (a::t)])≤_
  simp only [nT,nTs,List.length_cons]at h2 ⊢
  have e1:(t.length+1+1)*(n+1)=(t.length+1)*(n+1)+(n+1):=by rw [Nat.add_mul];simp
  omega
theorem qiC(x:Cl) (hw:wCl x) (v:V) (h:bCl x v): ∃ outs,cw zj XS [v]=some (B true,outs):=by
 obtain ⟨m,hm⟩:=qlG x hw v 1048576 h
 have hm:=crB hm
 have ht:=crB (qlO x hw v h)
 have hn:nT x.body≤Lm:=hw.2.1.2
 have wb:WT x.body:=hw.2.1.1
 have hs:=crB (qlu x.head x.body x.file hn wb)
 have hi:=fun τ=>qfZ x.head x.body x.file τ τ (x.head.kids.map (iT τ)) (x.body.kids.map (iT τ)) hn wb (Ka τ _)
 have he:=fun τ τ'=>crB ((qgY x hw x _ _ (qca τ x) (qca τ' x)).trans (by rw [decide_eq_true (rfl:x=x)]))
 have hWW:WT (yy x.body).1∧WT (yy x.body).2.1∧nT (yy x.body).1≤Lm∧nT (yy x.body).2.1≤Lm*(Lm+1)+1:=by
  unfold yy
  have wz:WT (.mk 0 [] 0 []):=by simp only [WT,WTs,inI,Lm,List.length_nil];decide
  have nz:nT (.mk 0 [] 0 [])=1:=rfl
  cases hq:zA x.body with
  |none=>exact ⟨wz,wz,by rw [nz];decide,by rw [nz];decide⟩
  |some l=>
   cases l with
   |nil=>exact ⟨wz,wz,by rw [nz];decide,by rw [nz];decide⟩
   |cons g r=>
    have gl:=jv (nT x.body) x.body _ hq
    obtain ⟨w1,w2⟩:=qdl wb hq
    have h1:=qdO (nT x.body) r (fun t ht=>(gl.2 t (by simp [ht])).1)
    have h2:r.length*(nT x.body+1)≤Lm*(Lm+1):=Nat.mul_le_mul (by have:=gl.1;simp only [List.length_cons]at this;omega) (by omega)
    exact ⟨w1,w2,Nat.le_trans (gl.2 g (by simp)).1 hn,by show nT (cjT r)≤_;omega⟩
 unfold fgV at hi
 generalize (yy x.body).1=g at hs hi hWW
 generalize (yy x.body).2.1=r at hs hi hWW
 generalize (yy x.body).2.2=q at hs hi
 obtain ⟨wg,wr,ng,nr⟩:=hWW
 have eg:=fun τ τ'=>crB ((Kq g wg g _ _ (xg τ g) (xg τ' g)).trans (by rw [decide_eq_true (rfl:g=g)]))
 have er:=fun τ τ'=>crB ((Kq r wr r _ _ (xg τ r) (xg τ' r)).trans (by rw [decide_eq_true (rfl:r=r)]))
 have hb1:(1:Int)+3*nTs x.head.kids+3*nTs x.body.kids < 3000000000000000000:=by
  have h1:=hw.1.2;have h2:=hw.2.1.2;have:=QM x.head;have:=QM x.body;unfold Lm at h1 h2;omega
 have hk:=cwB (qiT x hw.1.1 hw.2.1.1 1 (by decide) hb1)
 have n1: ¬ ZP x 1 < 0:=by unfold ZP;rw [kC,kC];omega
 have hbg:(1:Int)+3*nTs g.kids < 3000000000000000000:=by have:=QM g;unfold Lm at ng;omega
 have hbr:(qi g.kids 1).2+3*nTs r.kids < 3000000000000000000:=by rw [kC];have:=QM g;have:=QM r;unfold Lm at ng nr;omega
 have hk0:0≤(qi g.kids 1).2:=by rw [kC];omega
 have mg:=cwB (KM g wg 1 (by decide) hbg)
 have mr:=cwB (KM r wr _ hk0 hbr)
 have hg:=crB (qdo g wg 1 (by decide) hbg _ (xg true (zJ g 1)))
 have hr:=crB (qdo r wr _ hk0 hbr _ (xg true (zJ r (qi g.kids 1).2)))
 have p1: ¬ (qi g.kids 1).2 < 0:=by omega
 have p2: ¬ (qi r.kids (qi g.kids 1).2).2 < 0:=by rw [kC];omega
 obtain ⟨τ0,vs0,τ1,vs1,rfl,h0,h1⟩:=h
 by_cases hneg:m < 0
 ·apply qgJ
  rw [qF qeh rfl]
  simp only [go_sem,qa,qb,qc,qd,qe,qf,reduceCtorEq,jI,XP,hm,hneg]
 ·exact qiO x g r q m _ _ τ0 vs0 τ1 vs1 ⟨hm,hneg,ht,hs,hi,he,eg,er,hk,n1,mg,mr,hg,hr,p1,p2⟩
end Go.Vm
namespace Go.Vm
section
variable {P:Program}
theorem qkm {tX t0 t1 t2:TypeId} (hu: ∃ fs,P.underlying tX=some (.struct fs)∧fs.toList.map (·.type)=[t0,t1,t2]) (h0:RdC P t0 (cA BT) wTm) (h1:RdC P t1 (cA BT) wTm) (h2:RdC P t2 cS wS):RdC P tX (cA bCl) wCl:=fun n xs h hb=>by
 obtain ⟨fs,hu,hfs⟩:=hu
 obtain ⟨m,parts,rfl,rfl,hp⟩:=qfs hu h
 rw [hfs]at hp
 obtain ⟨p0,r0,rfl,s0,hp⟩:=Q0 hp
 obtain ⟨p1,r1,rfl,s1,hp⟩:=Q0 hp
 obtain ⟨p2,r2,rfl,s2,hp⟩:=Q0 hp
 obtain rfl:=qfp hp
 simp only [List.flatten_cons,List.flatten_nil,List.append_nil,J4]at hb ⊢
 obtain ⟨b0,x0,c0,w0⟩:=h0 m p0 s0 (by omega)
 obtain ⟨b1,x1,c1,w1⟩:=h1 m p1 s1 (by omega)
 obtain ⟨b2,x2,c2,w2⟩:=h2 m p2 s2 (by omega)
 obtain ⟨τ0,vs0,e0,g0⟩:=zm c0
 obtain rfl:=V.a.inj e0
 obtain ⟨τ1,vs1,e1,g1⟩:=zm c1
 obtain rfl:=V.a.inj e1
 obtain rfl:=c2
 exact ⟨by omega,⟨x0,x1,x2⟩,⟨τ0,vs0,τ1,vs1,rfl,g0,g1⟩,w0,w1,w2⟩
end
end Go.Vm
namespace Go.Proofs.YtbbkmeicdhnihaaDoor
open Go.Vm Go.RowKit Go.ChangeShapes
theorem Tryd.own:ownKnob Tryd.prog.godebug=none:=by kernel_rfl
theorem qf5:laidOutB Tryd.prog=true:=by kernel_rfl
def St:List TypeId:=[3,9,22,24,26]
theorem qf4: ∀ t ∈ St,QP Tryd.prog St t=true:=by
 have h:St.all (QP Tryd.prog St)=true:=by kernel_rfl
 exact fun t ht=>List.all_eq_true.1 h t ht
mutual
theorem qcl {H:Type}: ∀ (d:DataW H),zR d≤Rows.uptoBulk d
 | .lit (.string b)=>by simp [zR,Rows.uptoBulk]
 | .lit (.bool b)=>by simp [zR,Rows.uptoBulk]
 | .lit (.int k b)=>by simp [zR,Rows.uptoBulk]
 | .lit (.float k b)=>by simp [zR,Rows.uptoBulk]
 | .lit .nil=>by simp [zR,Rows.uptoBulk]
 | .nil=>by simp [zR,Rows.uptoBulk]
 | .ptr d=>by simp only [zR,Rows.uptoBulk];have:=qcl d;omega
 | .slice es sp=>by simp only [zR,Rows.uptoBulk];have:=Y6 es;have:=Y6 sp;omega
 | .agg ps=>by simp only [zR,Rows.uptoBulk];have:=Y6 ps;omega
 | .iface t d=>by simp only [zR,Rows.uptoBulk];omega
 | .map es=>by simp only [zR,Rows.uptoBulk];omega
 | .held h=>by simp [zR,Rows.uptoBulk]
theorem Y6 {H:Type}: ∀ (ds:List (DataW H)),xC ds≤Rows.uptoBulkAll ds
 |[]=>by simp [xC,Rows.uptoBulkAll]
 |d::ds=>by simp only [xC,Rows.uptoBulkAll];have:=qcl d;have:=Y6 ds;omega
end
theorem qlq {H:Type} {ds:List (DataW H)} (h:Rows.uptoSmall H ds=true):xC ds≤1048576:=Nat.le_trans (Y6 ds) (of_decide_eq_true h)
def qbl(xs:Array Value):Obj→Obj
 | .cells _ t frozen=> .cells xs t frozen
 |o=>o
def qlL:Array Value:= #[.int .u8 0,.int .u8 1,.int .u8 28,.int .u8 2,.int .u8 29,.int .u8 14,.int .u8 24,.int .u8 3,.int .u8 30,.int .u8 22,.int .u8 20,.int .u8 15,.int .u8 25,.int .u8 17,.int .u8 4,.int .u8 8,.int .u8 31,.int .u8 27,.int .u8 13,.int .u8 23,.int .u8 21,.int .u8 19,.int .u8 16,.int .u8 7,.int .u8 26,.int .u8 12,.int .u8 18,.int .u8 6,.int .u8 11,.int .u8 5,.int .u8 10,.int .u8 9]
def qlM:Array Value:= #[.int .u8 0,.int .u8 1,.int .u8 56,.int .u8 2,.int .u8 57,.int .u8 49,.int .u8 28,.int .u8 3,.int .u8 61,.int .u8 58,.int .u8 42,.int .u8 50,.int .u8 38,.int .u8 29,.int .u8 17,.int .u8 4,.int .u8 62,.int .u8 47,.int .u8 59,.int .u8 36,.int .u8 45,.int .u8 43,.int .u8 51,.int .u8 22,.int .u8 53,.int .u8 39,.int .u8 33,.int .u8 30,.int .u8 24,.int .u8 18,.int .u8 12,.int .u8 5,.int .u8 63,.int .u8 55,.int .u8 48,.int .u8 27,.int .u8 60,.int .u8 41,.int .u8 37,.int .u8 16,.int .u8 46,.int .u8 35,.int .u8 44,.int .u8 21,.int .u8 52,.int .u8 32,.int .u8 23,.int .u8 11,.int .u8 54,.int .u8 26,.int .u8 40,.int .u8 15,.int .u8 34,.int .u8 20,.int .u8 31,.int .u8 10,.int .u8 25,.int .u8 14,.int .u8 19,.int .u8 9,.int .u8 13,.int .u8 8,.int .u8 7,.int .u8 6]
def qlK:Array Value:= #[.int .u64 1,.int .u64 10,.int .u64 100,.int .u64 1000,.int .u64 10000,.int .u64 100000,.int .u64 1000000,.int .u64 10000000,.int .u64 100000000,.int .u64 1000000000,.int .u64 10000000000,.int .u64 100000000000,.int .u64 1000000000000,.int .u64 10000000000000,.int .u64 100000000000000,.int .u64 1000000000000000,.int .u64 10000000000000000,.int .u64 100000000000000000,.int .u64 1000000000000000000,.int .u64 10000000000000000000]
noncomputable def qaB(os:Os):World:=
 {World.holding Tryd.prog os ⟨#[],#[],[]⟩with heap:=((((World.holding Tryd.prog os ⟨#[],#[],[]⟩).heap).modify 1 (qbl qlL)).modify 2 (qbl qlM)).modify 0 (qbl qlK)}
theorem qj7:(Rows.laid_internal_strconv_uint64pow10:DataW Unit)=Lib.tabData .u64 Lib.pow10Tab:=by kernel_rfl
theorem qdk:Tryd.prog.globalNamed "internal/strconv.uint64pow10" =some 0:=by kernel_rfl
theorem qlU:(Tryd.prog.globals[0]?).map (·.type)=some 77:=by kernel_rfl
theorem qgp:Tryd.prog.cellsOf 77=20:=by kernel_rfl
theorem qgn:Tryd.prog.cellsOf 71=1:=by kernel_rfl
theorem qiP {W:World} (h0:laidMetH Tryd.prog [("math/bits.deBruijn32tab",Rows.laid_math_bits_deBruijn32tab),("math/bits.deBruijn64tab",Rows.laid_math_bits_deBruijn64tab),("internal/strconv.uint64pow10",Rows.laid_internal_strconv_uint64pow10)] W):X9 W:=by
 have h:laidMet Tryd.prog [("math/bits.deBruijn32tab",Rows.laid_math_bits_deBruijn32tab),("math/bits.deBruijn64tab",Rows.laid_math_bits_deBruijn64tab),("internal/strconv.uint64pow10",Rows.laid_internal_strconv_uint64pow10)] W:=h0
 have h3:=(laidMet.tail (laidMet.tail h))
 rw [qj7]at h3
 have ht:Lib.TabIs Tryd.prog W "internal/strconv.uint64pow10" .u64 Lib.pow10Tab:=Lib.tabIs_of_head (rest:=_) qdk qlU Tryd.underlying77 Tryd.underlying71 qgn qgp h3
 refine ⟨?_,ht⟩
 rintro b rfl
 unfold Lib.TabIs World.var? at ht
 rw [qdk]at ht
 simp only [Option.bind_some]at ht
 show 0 < W.heap.size
 cases hb:W.heap[0]? with
 |none=>rw [hb]at ht;cases ht
 |some x=>exact (Array.getElem?_eq_some_iff.1 hb).1
end Go.Proofs.YtbbkmeicdhnihaaDoor
