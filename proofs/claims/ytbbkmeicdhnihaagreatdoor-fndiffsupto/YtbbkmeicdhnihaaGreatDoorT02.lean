import Derived.Test.YtbbkmeicdhnihaaGreatDoorT01
import Derived.Attr
set_option autoImplicit false
set_option linter.unusedSectionVars false
set_option linter.unusedVariables false
set_option linter.unusedSimpArgs false
namespace Go.Vm
variable [Lay]
def qjq:AI→Bool
 | .mv .. | .pick .. | .build .. | .ldq .. | .nilc .. | .bin .. | .eqs .. | .un .. | .sl .. | .ssl .. | .slen .. | .fa .. | .fld .. | .ia .. | .ix .. | .ext .. | .fun .. | .len .. | .mx .. | .int .. | .str .. | .mget .. =>true
 |_=>false
def roI:AI→Bool
 | .call _ _ _ (.ro _)=>true
 |_=>false
def qfx:AI→AI
 | .gd _ _ _ i=>i
 |i=>i
section
variable {P:Program} {N n:Nat} {ops:Array Oper} {o:Oper} {E:Env} {c:Cnt} {st st':St} {a:Act} {call:ze} {ai h:AI}
theorem qCd(hq:qjq h=true) (ht:y8 P N o h=some ai) (hs:qj call st ai=some st') (hf:FRel N E st a.tmps c):
 qO N E st st' o.dst ((execOp a.eval o).run P E.w):=by
 cases h<;>simp only [qjq]at hq<;>(first|(cases hq;done)|skip)<;>simp only [y8]at ht<;>(split at ht)<;>(first|(cases ht;done)|skip)<;>rename_i hd
 case mv.isTrue=>exact qox hd ht hs hf
 case pick.isTrue=>exact qoA hd ht hs hf
 case build.isTrue=>exact qol hd ht hs hf
 case ldq.isTrue=>exact qou hd ht hs hf
 case nilc.isTrue=>exact qoz hd ht hs hf
 case bin.isTrue=>exact qok hd ht hs hf
 case eqs.isTrue=>exact qom hd ht hs hf
 case un.isTrue=>exact qoF hd ht hs hf
 case sl.isTrue=>exact qoB hd ht hs hf
 case ssl.isTrue=>exact qoD hd ht hs hf
 case slen.isTrue=>exact qoC hd ht hs hf
 case fa.isTrue=>exact qoo hd ht hs hf
 case fld.isTrue=>exact qop hd ht hs hf
 case ia.isTrue=>exact qor hd ht hs hf
 case ix.isTrue=>exact qot hd ht hs hf
 case ext.isTrue=>exact qon hd ht hs hf
 case fun.isTrue=>exact qoq hd ht hs hf
 case len.isTrue=>exact qov hd ht hs hf
 case mx.isTrue=>exact qoy hd ht hs hf
 case int.isTrue=>exact qos hd ht hs hf
 case str.isTrue=>exact qoE hd ht hs hf
 case mget.isTrue=>exact qow hd ht hs hf
theorem qrP {Q:Exit→Act→World→Prop} {K:Act→World→Prop} (h:qO N E st st' o.dst ((execOp a.eval o).run P E.w))
 (hK: ∀ d x y,o.dst=some d→d < N→st'=st.put d x→Rel E x y c0→K (a.put o.dst y) E.w):o.wp P a E.w K Q:=by
 obtain ⟨d,x,y,hd,hn,hr,hs,hx⟩:=h
 unfold Oper.wp
 rw [hr]
 exact hK d x y hd hn hs hx
theorem qpW(ht:y8 P N o h=some ai):qx ai=o.dst:=by
 cases h<;>simp only [y8]at ht<;>(first|(cases ht;done)|skip)<;>(split at ht)<;>(first|(cases ht;done)|skip)<;>rename_i hd
 case st.isTrue=>
  have hd':o.dst=none:=by simpa using hd
  unfold qa3 at ht
  (repeat' (split at ht))<;>simp_all [qx]
  subst ht;simp [qx]
 case mset.isTrue=>
  have hd':o.dst=none:=by simpa using hd
  unfold qaU at ht
  (repeat' (split at ht))<;>simp_all [qx]<;>(subst ht;simp [qx])
 case mes.isTrue=>
  have hd':o.dst=none:=by simpa using hd
  unfold qaP at ht
  (repeat' (split at ht))<;>simp_all [qx]
  subst ht;simp [qx]
 case call.isTrue=>
  simp only [ZV,Bool.and_eq_true,decide_eq_true_eq]at hd
  unfold X7 at ht
  split at ht
  case h_2=>cases ht
  split at ht
  case h_2=>cases ht
  obtain ⟨x,y,-,-,rfl⟩:=Zb ht
  simp only [qx];exact hd.1.symm
 all_goals
  rw [(zI hd).1]
  simp only [Zj,qaZ,qaW,qaC,qaT,qaR,qaL,qaM,qaX,qaB,qaD,qa5,qa0,qa2,qa1,qaF,qaG,qaI,qaK,qaE,qaH,qaA,qaN,qaV,qaJ,qa4,qaS,qaQ,qaO,kZ]at ht
  (repeat' (split at ht))<;>(first|(cases ht;done)|skip)<;>simp only [Option.map_eq_some_iff,Option.some.injEq]at ht<;>
   (first|(subst ht;rfl)|(obtain ⟨x,-,rfl⟩:=ht;rfl))
theorem qCe(ht:trI P N n ops o h=some ai) (hs:qp call st ai=some st') (hf:FRel N E st a.tmps c):
 qx ai=o.dst∧((Region.wanted o (yielded ops a.tmps)=false∧(o.dst=none→st'=st)∧(∀ d,o.dst=some d→d < N∧st'=st.put d yI))∨
 (Region.wanted o (yielded ops a.tmps)=true∧ ∃ ai1,y8 P N o (qfx h)=some ai1∧qj call st ai1=some st')):=by
 have hwant:o.guard.isNone=true→Region.wanted o (yielded ops a.tmps)=true:=by
  intro hg
  unfold Region.wanted
  split
  ·rfl
  ·rename_i he;rw [he]at hg;cases hg
 have hplain: ∀ i,o.guard.isNone=true→y8 P N o i=some ai→Region.wanted o (yielded ops a.tmps)=true∧ ∃ ai1,y8 P N o i=some ai1∧qj call st ai1=some st':=by
  intro i hg hi
  refine ⟨hwant hg,ai,hi, ?_⟩
  have hng: ∀ j w d i',ai ≠ .gd j w d i':=by
   rintro j w d i' rfl
   cases i<;>simp only [y8]at hi<;>(first|(cases hi;done)|skip)<;>(split at hi)<;>(first|(cases hi;done)|skip)<;>
    simp only [Zj,qaZ,qaW,qaC,qaT,qaR,qaL,qaM,qaX,qaB,qaD,qa5,qa0,qa2,qa1,qaF,qaG,qaI,qaK,qaE,qaH,qaA,qaN,qaV,qaJ,qa4,qa3,X7,qaS,qaU,qaQ,qaO,qaP,kZ]at hi<;>
    (repeat' (split at hi))<;>simp_all
  rw [qmq call ai hng]at hs
  exact hs
 unfold trI at ht
 split at ht
 ·rename_i j want d i
  split at ht
  case h_2=>cases ht
  rename_i k w hg
  split at ht
  case isFalse=>cases ht
  rename_i hc
  simp only [Bool.and_eq_true,decide_eq_true_eq]at hc
  obtain ⟨⟨⟨rfl,hdn⟩,hdst⟩,hj⟩:=hc
  rw [Option.map_eq_some_iff]at ht
  obtain ⟨i',hi',rfl⟩:=ht
  simp only [ZV,Bool.and_eq_true,decide_eq_true_eq]at hdst
  obtain ⟨hod,hdN⟩:=hdst
  refine ⟨by simp only [qx];exact hod.symm, ?_⟩
  simp only [qp]at hs
  have hno:(d=none→st'=st)→(∀ t,d=some t→st'=st.put t yI)→(o.dst=none→st'=st)∧(∀ d,o.dst=some d→d < N∧st'=st.put d yI):=by
   intro h1 h2
   rw [hod]
   refine ⟨h1,fun t e=>⟨?_,h2 t e⟩⟩
   subst e;simpa using hdN
  split at hs
  ·rename_i b hb
   obtain ⟨v,hv,hr⟩:=hf.σ _ _ hb
   simp only [Rel]at hr
   have hy:yielded ops a.tmps k=some b:=by simp only [yielded,hj,Option.bind_some,hv,hr.1]
   by_cases hbw:b=w
   ·subst hbw
    rw [if_pos rfl]at hs
    exact .inr ⟨by simp only [Region.wanted,hg,hy,beq_self_eq_true],i',hi',hs⟩
   ·rw [if_neg hbw]at hs
    refine .inl ⟨by simp only [Region.wanted,hg,hy];simp [hbw], ?_⟩
    exact hno (fun e=>by subst e;simpa using hs.symm) (fun t e=>by subst e;simpa using hs.symm)
  ·rename_i x hnb hx
   obtain ⟨v,hv,hr⟩:=hf.σ _ _ hx
   simp only [Rel]at hr
   have hy:yielded ops a.tmps k=none:=by
    simp only [yielded,hj,Option.bind_some,hv,hr.1]
    cases x<;>first|rfl|exact absurd rfl (hnb _)
   refine .inl ⟨by simp only [Region.wanted,hg,hy];rfl, ?_⟩
   exact hno (fun e=>by subst e;simpa using hs.symm) (fun t e=>by subst e;simpa using hs.symm)
  ·cases hs
 ·rename_i d h'
  split at ht
  case isFalse=>cases ht
  rename_i hc
  simp only [Bool.and_eq_true]at hc
  have hi:y8 P N o (.mv d h')=some ai:=by simp only [y8,hc.2,if_true];exact ht
  exact ⟨qpW hi,.inr (hplain _ hc.1 hi)⟩
 ·rename_i i hn1 hn2
  split at ht
  case isFalse=>cases ht
  rename_i hc
  simp only [Bool.and_eq_true]at hc
  have hb:qfx h=h:=by cases h<;>first|rfl|exact absurd rfl (hn1 _ _ _ _)
  rw [hb]
  exact ⟨qpW ht,.inr (hplain _ hc.1 ht)⟩
end
end Go.Vm
namespace Go.Vm
variable [Lay]
section
variable {E:Env}
theorem X6(f:Key→Bool): ∀ {T:Mem} {c:Cnt},qq E T c→ ∃ c',qq E (qL f T) c'∧cle c' c
 |[],c,h=>⟨c,h,za _⟩
 |(k,ob)::r,c,h=>by
  obtain ⟨c1,c2,h1,h2,rfl⟩:=h
  obtain ⟨c3,h3,h4⟩:=X6 f h2
  simp only [qL]
  split
  ·exact ⟨qh c1 c3,⟨c1,c3,h1,h3,rfl⟩,kN (za _) h4⟩
  ·exact ⟨c3,h3,yZ h4 (xJ _ _)⟩
theorem qis: ∀ {T:Mem} {k k':Key},k' ≠ k→qt (qE T k) k'=qt T k'
 |[],k,k',h=>rfl
 |(u,x)::r,k,k',h=>by
  simp only [qE]
  split
  ·rename_i e;subst e
   simp only [qt];rw [if_neg (Ne.symm h)]
  ·simp only [qt,qis h]
theorem qcH(f g:Key→Bool): ∀ T:Mem,qL f (qL g T)=qL (fun u=>g u&&f u) T
 |[]=>rfl
 |(k,x)::r=>by
  by_cases hg:g k=true
  ·by_cases hf:f k=true
   ·simp [qL,hg,hf,qcH f g r]
   ·simp [qL,hg,hf,qcH f g r]
  ·simp [qL,hg,qcH f g r]
theorem qmi {f:Key→Bool} {k:Key} (h:f k=false): ∀ {T:Mem},qL f (qE T k)=qL f T
 |[]=>rfl
 |(u,x)::r=>by
  simp only [qE]
  split
  ·rename_i e;subst e
   simp only [qL,h,Bool.false_eq_true,if_false]
  ·simp only [qL,qmi h]
theorem qke: ∀ (ks:List Key) {L:Mem} {c:Cnt},ks.Nodup→qq E L c→
 ∃ c1 c2,qq E (yf (qt L) ks) c1∧qq E (qL (fun k=> !ks.contains k) L) c2∧cle (qh c1 c2) c
 |[],L,c,hn,h=>by
  obtain ⟨c2,h2,h3⟩:=X6 (fun k=> !([]:List Key).contains k) h
  exact ⟨c0,c2,rfl,h2,by rw [zo];exact h3⟩
 |k::ks,L,c,hn,h=>by
  obtain ⟨hk,hn⟩:=List.nodup_cons.1 hn
  cases hg:qt L k with
  |none=>
   obtain ⟨c1,c2,h1,h2,h3⟩:=qke ks hn h
   refine ⟨c1,c2,by simp only [yf,hg];exact h1, ?_,h3⟩
   have:qL (fun u=> !(k::ks).contains u) L=qL (fun u=> !ks.contains u) L:=by
    clear h h1 h2
    induction L with
    |nil=>rfl
    |cons x r ih=>
     obtain ⟨u,y⟩:=x
     simp only [qt]at hg
     split at hg
     ·cases hg
     ·rename_i hu
      simp only [qL,ih hg]
      have:(k::ks).contains u=ks.contains u:=by
       simp only [List.contains_cons]
       have:(u==k)=false:=by simpa using hu
       rw [this,Bool.false_or]
      rw [this]
   rw [this];exact h2
  |some ob=>
   obtain ⟨d1,d2,ho,hr,rfl⟩:=yH h hg
   obtain ⟨c1,c2,h1,h2,h3⟩:=qke ks hn hr
   obtain ⟨c3,h4,h5⟩:=X6 (fun u=>u != k) h2
   refine ⟨qh d1 c1,c3, ?_, ?_,fun b=>by have:=h3 b;have:=h5 b;simp only [qh]at*;omega⟩
   ·simp only [yf,hg]
    refine ⟨d1,c1,ho, ?_,rfl⟩
    rw [qcZ (g:=qt (qE L k)) (fun u hu=>(qis (by rintro rfl;exact hk hu)).symm)]
    exact h1
   ·have:qL (fun u=> !(k::ks).contains u) L=qL (fun u=>u != k) (qL (fun u=> !ks.contains u) (qE L k)):=by
     rw [qcH,qmi (by simp)]
     congr 1
     funext u
     simp only [List.contains_cons,Bool.not_or,bne]
     exact Bool.and_comm _ _
    rw [this];exact h4
theorem qpS: ∀ {T:Mem} {L:Mem} {c:Cnt},YI T=true→qq E L c→(∀ k x,qt T k=some x→qt L k=some x)→ ∃ c',qq E T c'∧cle c' c
 |[],L,c,hn,h,hs=>⟨c0,rfl,fun _=>Nat.zero_le _⟩
 |(k,ob)::r,L,c,hn,h,hs=>by
  simp only [YI,Bool.and_eq_true,Option.isNone_iff_eq_none]at hn
  have hg:qt L k=some ob:=hs k ob (by simp [qt])
  obtain ⟨d1,d2,ho,hr,rfl⟩:=yH h hg
  obtain ⟨c',h1,h2⟩:=qpS (T:=r) hn.2 hr (fun u x hu=>by
   have hne:u ≠ k:=by rintro rfl;rw [hn.1]at hu;cases hu
   rw [qis hne]
   exact hs u x (by simp only [qt];rw [if_neg (Ne.symm hne)];exact hu))
  exact ⟨qh d1 c',⟨d1,c',ho,h1,rfl⟩,kN (za _) h2⟩
end
end Go.Vm
namespace Go.Vm
variable [Lay]
def kR(plan:List Dp) (is:List AI) (listed:Array Bool) (d:Nat):Prop:=
 ∃ (i:Nat) (p:Dp) (ai:AI),listed.getD i true=false∧plan[i]? =some p∧is[i]? =some ai∧p.k ≠ 0∧qx ai=some d
structure InvD (N n:Nat) (E0:Env) (k0:Cnt) (a0:Act) (fr:Nat→Prop) (s:FS) (a:Act) (E:Env) (c:Cnt):Prop where
 sz:a.tmps.size=N
 df:a.defers=a0.defers
 σ: ∀ t x,s.1 t=some x→ ∃ y,a.tmps[t]? =some y∧Rel E x y c0
 T: ∃ L,(∀ k,qt L k=s.2 k)∧qq E L c
 g:Good E c
 kn:KN n E0 E
 adv:Adv E0 k0 E c
 fr: ∀ d,fr d→ ∀ j,E.μ (d,j)=none
section
variable {N n:Nat} {E0 E E':Env} {k0 c cA cB:Cnt} {a0 a:Act} {fr fr':Nat→Prop} {s:FS} {dst:Option Nat} {σ':Sl} {T' L:Mem} {y:Value} {p:Dp}
theorem InvD.next(h:InvD N n E0 k0 a0 fr s a E c) (hL: ∀ k,qt L k=s.2 k) (hd: ∀ t,dst=some t→t < N) (hm:Mono E E' c0) (hσ: ∀ d x,dst=some d→qF σ' d=some x→Rel E' x y c0)
 (hA:qq E' (qL (p.own dst) T') cA) (hB:qq E' (qL (fun k=> !p.own dst k) L) cB) (hg:Good E' (qh cA cB)) (hadv:Adv E c E' (qh cA cB)) (hkn:KN n E E')
 (hfr: ∀ d,fr' d→ ∀ j,E'.μ (d,j)=none):InvD N n E0 k0 a0 fr' (xi dst σ' s.1,xj p dst T' s.2) (a.put dst y) E' (qh cA cB):=by
 refine ⟨by cases dst<;>simp [Act.put,h.sz],(qof _ _ _).trans h.df,fun t x hx=> ?_,⟨qL (p.own dst) T'++qL (fun k=> !p.own dst k) L,fun k=> ?_,ke hA hB⟩,hg,h.kn.trans hkn,h.adv.trans hadv,hfr⟩
 ·simp only [xi]at hx
  split at hx
  ·rename_i e
   subst e
   have ht:=hd t rfl
   refine ⟨y, ?_,hσ t x rfl hx⟩
   simp [Act.put,h.sz,ht]
  ·rename_i e
   obtain ⟨v,h1,h2⟩:=h.σ t x hx
   refine ⟨v, ?_,y7 h2 hm⟩
   cases dst with
   |none=>exact h1
   |some d=>
    have:d ≠ t:=by rintro rfl;exact e rfl
    simp only [Act.put]
    rw [Array.getElem?_setIfInBounds_ne this];exact h1
 ·rw [qir,J3,J3]
  simp only [xj,hL]
  cases p.own dst k<;>simp
theorem qiu {f:Nat→Option V}: ∀ {us:List Nat} {t:Nat} {x:V},qF (xg f us) t=some x→f t=some x
 |[],t,x,h=>by cases h
 |u::us,t,x,h=>by
  simp only [xg]at h
  split at h
  ·rename_i z hz
   simp only [qF]at h
   split at h
   ·rename_i e;subst e;rw [hz];exact h
   ·exact qiu h
  ·exact qiu h
theorem InvD.sub(h:InvD N n E0 k0 a0 fr s a E c) (hL: ∀ k,qt L k=s.2 k) (hT:qq E L c) (us:List Nat) {ks:List Key} (hn:ks.Nodup):
 ∃ cK cR,FRel N E {σ:=xg s.1 us,T:=yf s.2 ks} a.tmps cK∧qq E (qL (fun k=> !ks.contains k) L) cR∧cle (qh cK cR) c:=by
 obtain ⟨c1,c2,h1,h2,h3⟩:=qke ks hn hT
 have he:yf s.2 ks=yf (qt L) ks:=qcZ fun k _=>(hL k).symm
 refine ⟨c1,c2,⟨h.sz,fun t x hx=>h.σ t x (qiu hx),by rw [he];exact h1,h.g.le (yZ (YC _ _) h3)⟩,h2,h3⟩
theorem InvD.quiet(h:InvD N n E0 k0 a0 fr s a E c) {d:Nat} {x:V} {st0:St} (hp:p.k=0) (hd:d < N) (hx:Rel E x y c0) (hfr: ∀ d,fr' d→fr d):
 InvD N n E0 k0 a0 fr' (xi (some d) (st0.put d x).σ s.1,xj p (some d) (st0.put d x).T s.2) (a.put (some d) y) E c:=by
 obtain ⟨L,hL,hT⟩:=h.T
 have hown: ∀ k,p.own (some d) k=false:=fun k=>qjf hp k
 have hf1: ∀ T:Mem,qL (p.own (some d)) T=[]:=by
  intro T;induction T with
  |nil=>rfl
  |cons z r ih=>obtain ⟨u,v⟩:=z;simp only [qL,hown,Bool.false_eq_true,if_false,ih]
 have hf2: ∀ T:Mem,qL (fun k=> !p.own (some d) k) T=T:=by
  intro T
  have e:(fun k=> !p.own (some d) k)=fun _=>true:=funext fun k=>by rw [hown k];rfl
  rw [e]
  induction T with
  |nil=>rfl
  |cons z r ih=>obtain ⟨u,v⟩:=z;simp only [qL,if_true,ih]
 have:=InvD.next (fr':=fr') (E':=E) (cA:=c0) (cB:=c) (dst:=some d) (σ':=(st0.put d x).σ) (T':=(st0.put d x).T) (y:=y) (p:=p) h hL (fun t ht=>by cases ht;exact hd) (qxj E c0)
  (fun d' x' hd' hx'=>by cases hd';simp only [St.put,qF,if_pos,Option.some.injEq]at hx';subst hx';exact hx) (by rw [hf1];rfl) (by rw [hf2];exact hT) (by rw [zo];exact h.g) (by rw [zo];exact Adv.refl _ _) KN.refl
  (fun d' hd'=>h.fr d' (hfr d' hd'))
 rw [zo]at this;exact this
end
end Go.Vm
namespace Go.Vm
variable [Lay]
section
variable {P:Program} {N n:Nat} {E0 E E':Env} {k0 c cK cR c':Cnt} {a0 a:Act} {fr fr':Nat→Prop} {s:FS} {dst:Option Nat} {st':St} {L:Mem} {y:Value} {p:Dp} {call:ze}
theorem qxn(h:InvD N n E0 k0 a0 fr s a E c) (hkp:yX dst E E') (hdf: ∀ d,dst=some d→fr d): ∀ k l,E.μ k=some l→E'.μ k=some l:=by
 intro k l hk
 by_cases hd:dst=some k.1
 ·have:=h.fr k.1 (hdf _ hd) k.2
  rw [hk]at this;cases this
 ·rw [hkp k hd];exact hk
theorem InvD.write(h:InvD N n E0 k0 a0 fr s a E c) (hL: ∀ k,qt L k=s.2 k) (hcR:qq E (qL (fun k=> !p.ks.contains k) L) cR) (hle:cle (qh cK cR) c)
 (hp:p.k=1) (hd: ∀ t,dst=some t→t < N) (hdf: ∀ d,dst=some d→fr d) (hfr: ∀ d,fr' d→fr d∧dst ≠ some d)
 (hF:FRel N E' st' (a.put dst y).tmps c') (hkn:KN n E E') (hkp:yX dst E E') (hA:Adv E cK E' c'):
 ∃ c'',InvD N n E0 k0 a0 fr' (xi dst st'.σ s.1,xj p dst st'.T s.2) (a.put dst y) E' c'':=by
 have hμ:=qxn h hkp hdf
 have hg:Good E (qh cK cR):=h.g.le hle
 have hmono:=qiV hg hA hμ
 have hgood:=qiw hg hA hF.g
 obtain ⟨cA,h1,h2⟩:=X6 (p.own dst) hF.T
 have he:qL (fun k=> !p.own dst k) L=qL (fun k=> !p.own dst k) (qL (fun k=> !p.ks.contains k) L):=by
  rw [qcH]
  congr 1
  funext u
  cases hc:p.ks.contains u with
  |false=>simp
  |true=>
   have:p.own dst u=true:=by unfold Dp.own;rw [hp,hc];rfl
   rw [this];rfl
 obtain ⟨cB,h3,h4⟩:=X6 (fun k=> !p.own dst k) (yo hcR hmono)
 rw [← he]at h3
 have hle2:cle (qh cA cB) (qh c' cR):=kN h2 h4
 refine ⟨qh cA cB,InvD.next h hL hd (hmono.le fun _=>Nat.zero_le _) ?_ h1 h3 (hgood.le hle2) ((JO (qhZ cR hA) hle).le hle2) hkn ?_⟩
 ·intro d x hdd hx
  obtain ⟨v,hv,hr⟩:=hF.σ d x hx
  subst hdd
  have hdN:=hd d rfl
  have:(a.put (some d) y).tmps[d]? =some y:=by simp [Act.put,h.sz,hdN]
  rw [this]at hv;cases hv
  exact hr
 ·intro d hd' j
  obtain ⟨h5,h6⟩:=hfr d hd'
  rw [hkp (d,j) h6]
  exact h.fr d h5 j
theorem qCt {d:Nat} {st:St}:qL (fun k=>decide (k.1=d)) (zr d st).T=[]:=by
 have: ∀ T:Mem,(∀ k ob,(k,ob) ∈ T→k.1 ≠ d)→qL (fun k=>decide (k.1=d)) (Q7 d T)=[]:=by
  intro T hT
  induction T with
  |nil=>rfl
  |cons z r ih=>
   obtain ⟨k,e,xs⟩:=z
   have hk:=hT k _ (List.mem_cons_self)
   simp only [Q7,qL]
   rw [if_neg (by simpa using hk)]
   exact ih fun k ob h=>hT k ob (List.mem_cons_of_mem _ h)
 exact this _ fun k ob hk=>qcD d hk
theorem qmh(f:Key→Bool): ∀ A B:Mem,qL f (A++B)=qL f A++qL f B
 |[],B=>rfl
 |(k,x)::r,B=>by
  simp only [List.cons_append,qL,qmh f r B]
  split<;>rfl
theorem qim {f:Key→Bool} {g:Key→Option Ob}: ∀ {ks:List Key},(∀ k ∈ ks,f k=false)→qL f (yf g ks)=[]
 |[],h=>rfl
 |k::ks,h=>by
  simp only [yf]
  split
  ·simp only [qL,h k (List.mem_cons_self),Bool.false_eq_true,if_false]
   exact qim fun u hu=>h u (List.mem_cons_of_mem _ hu)
  ·exact qim fun u hu=>h u (List.mem_cons_of_mem _ hu)
theorem InvD.ro(h:InvD N n E0 k0 a0 fr s a E c) (hL: ∀ k,qt L k=s.2 k) (hT:qq E L c) (hp:p.k=2) (hd: ∀ t,dst=some t→t < N) (hdf: ∀ d,dst=some d→fr d) (hfr: ∀ d,fr' d→fr d∧dst ≠ some d)
 (hnk: ∀ t,dst=some t→n≤t) (hks: ∀ k ∈ p.ks,dst ≠ some k.1) {σ0:Sl} {r:V} {c5:Cnt} (hst:st'=kM dst r {σ:=σ0,T:=yf s.2 p.ks}) (hσd: ∀ d,dst=some d→True)
 (hμ:E'.μ=E.μ) (hr:Rel E'.cl r y c5) (hg5:Good E' c5) (hA:Adv E c0 E' c5):
 ∃ E4 c4,E4.w=E'.w∧InvD N n E0 k0 a0 fr' (xi dst st'.σ s.1,xj p dst st'.T s.2) (a.put dst y) E4 c4:=by
 have hg':Good E (qh c0 c):=by rw [zo];exact h.g
 have hM:Mono E E' c:=qiV hg' hA (fun k l hk=>by rw [hμ];exact hk)
 have hgood:Good E' (qh c5 c):=qiw hg' hA hg5
 have hadv:Adv E c E' (qh c5 c):=by have:=qhZ c hA;rwa [zo]at this
 have hown: ∀ k,p.own dst k=decide (dst=some k.1):=fun k=>by
  simp only [Dp.own,hp]
  rw [Bool.eq_iff_iff]
  cases dst<;>simp
 obtain ⟨cB,hB,hBle⟩:=X6 (fun k=> !p.own dst k) (yo hT hM)
 cases dst with
 |none=>
  have e1: ∀ T,qL (p.own none) T=[]:=by
   intro T;induction T with
   |nil=>rfl
   |cons z t ih=>obtain ⟨k,x⟩:=z;simp only [qL,hown k];rw [if_neg (by simp)];exact ih
  refine ⟨E',qh c0 cB,rfl,InvD.next h hL hd (hM.le fun _=>Nat.zero_le _) (fun d x hdd=>by cases hdd) (by rw [e1];rfl) hB (hgood.le ?_) (hadv.le ?_) (fun k _=>by rw [hμ]) (fun d hd' j=>by rw [hμ];exact h.fr d (hfr d hd').1 j)⟩
  ·rw [zo];exact yZ hBle (xJ _ _)
  ·rw [zo];exact yZ hBle (xJ _ _)
 |some d=>
  have hdN:=hd d rfl
  have hfree: ∀ j,E'.μ (d,j)=none:=fun j=>by rw [hμ];exact h.fr d (hdf d rfl) j
  have hownd:p.own (some d)=fun k:Key=>decide (k.1=d):=funext fun k=>by rw [hown];simp [eq_comm]
  simp only [kM,YA]at hst
  split at hst
  ·
   obtain ⟨E4,c6,j',hn,h1,h2,h3⟩:=qjb (d:=d) hfree (y7 hr (jR E' c5))
   subst hst
   have hA4:qL (p.own (some d)) ((yn d r).2++(zr d {σ:=σ0,T:=yf s.2 p.ks}).T)=qL (p.own (some d)) (yn d r).2:=by
    rw [qmh,hownd,qCt,List.append_nil]
   obtain ⟨cA,h4,h5⟩:=X6 (p.own (some d)) h2
   have hle:cle (qh cA cB) (qh c5 c):=fun b=>by have:=h5 b;have:=h3 b;have:=hBle b;simp only [qh]at*;omega
   have hMn:=hn.mono (E:=E') (E':=E4)
   have hg4:Good E4 (qh cA cB):=ZO hn.hw hn.hI hle hgood
   refine ⟨E4,qh cA cB,hn.hw,InvD.next h hL hd ?_ ?_ (by simp only [hA4];exact h4) (yo hB (hn.mono _)) hg4 ?_ ?_ ?_⟩
   ·exact ⟨fun τ b hb=>⟨by rw [hn.hI];exact (hM.hI τ b hb).1,by rw [hn.hw];exact (hM.hI τ b hb).2⟩,fun b hb=>absurd rfl hb,fun k l hk=>hn.hμ k l (by rw [hμ];exact hk)⟩
   ·intro d' x hdd hx
    cases hdd
    simp only [qF,if_pos,Option.some.injEq]at hx
    subst hx;exact h1
   ·exact hadv.trans (QV hn.hw hn.hI hle)
   ·intro k hk
    rw [hn.hout k (by have:=hnk d rfl;omega),hμ]
   ·intro d' hd' j
    obtain ⟨h6,h7⟩:=hfr d' hd'
    rw [hn.hout (d',j) (by rintro rfl;exact h7 rfl),hμ]
    exact h.fr d' h6 j
  ·rename_i hz
   have h0:=XY hr (by simpa using hz)
   subst h0
   subst hst
   have e1:qL (p.own (some d)) (St.put {σ:=σ0,T:=yf s.2 p.ks} d r).T=[]:=qim fun k hk=>by
    rw [hown];simpa using hks k hk
   rw [zo]at hgood hadv
   refine ⟨E',qh c0 cB,rfl,InvD.next h hL hd (hM.le fun _=>Nat.zero_le _) ?_ (by rw [e1];rfl) hB (hgood.le ?_) (hadv.le ?_) (fun k _=>by rw [hμ]) (fun d hd' j=>by rw [hμ];exact h.fr d (hfr d hd').1 j)⟩
   ·intro d' x hdd hx
    cases hdd
    simp only [St.put,qF,if_pos,Option.some.injEq]at hx
    subst hx
    exact y7 hr (jR E' c0)
   ·rw [zo];exact hBle
   ·rw [zo];exact hBle
end
end Go.Vm
namespace Go.Vm
variable [Lay]
def qk9(l:List Nat) (x:Nat):List Nat:=if l.contains x then l else x::l
def qfv(ops:Array Oper):List (List Nat):=
 ops.toList.foldl (fun acc o=>
  acc++[((o.after.toList.filter fun e=>Region.binds .any e).map (·.on)).foldl (fun l k=>(acc.getD k []).foldl qk9 (qk9 l k)) []]) []
def qcY(plan:List Dp) (is:List AI) (anc:List (List Nat)):Bool:=
 (List.range is.length).all fun i=>(List.range i).all fun j=>match plan[j]?,is[j]?,plan[i]?,is[i]? with
  |some pj,some aj,some pi,some ai=>((anc.getD i []).contains j||qkd pj aj pi ai)&&(pj.k==0||pi.k==0||qa6 (qx aj) (qx ai))
  |_,_,_,_=>false
def qfX:List Key→Bool
 |[]=>true
 |k::ks=> !ks.contains k&&qfX ks
def qf1(n:Nat) (p:Dp) (h ai:AI):Bool:=
 ((p.k==0&&qjq (qfx h))||p.k==1||(p.k==2&&roI (qfx h)))&&qfX p.ks&&
   (p.k==0||(match qx ai with|some d=>decide (n≤d)&&p.ks.all (fun k=>k.1 != d)|none=>true))
def kA(n:Nat):List Dp→List AI→List AI→Bool
 |[],[],[]=>true
 |p::ps,h::hs,i::is=>qf1 n p h i&&kA n ps hs is
 |_,_,_=>false
def dOk(P:Program) (n:Nat) (ops:Array Oper) (plan:List Dp) (hs is:List AI):Bool:=
 P.follows .mixedOrders&&qf0 ops (qfv ops)&&qi6 ops&&qcY plan is (qfv ops)&&kA n plan hs is
theorem qnM: ∀ {ks:List Key},qfX ks=true→ks.Nodup
 |[],h=>List.nodup_nil
 |k::ks,h=>by
  simp only [qfX,Bool.and_eq_true,Bool.not_eq_true',List.contains_eq_mem,decide_eq_false_iff_not]at h
  exact List.nodup_cons.2 ⟨h.1,qnM h.2⟩
theorem qjd {n:Nat}: ∀ {plan:List Dp} {hs is:List AI},kA n plan hs is=true→plan.length=is.length∧hs.length=is.length∧
 ∀ (i:Nat) (p:Dp) (h ai:AI),plan[i]? =some p→hs[i]? =some h→is[i]? =some ai→qf1 n p h ai=true
 |[],[],[],h=>⟨rfl,rfl,fun i p h ai h1=>by simp at h1⟩
 |p::ps,h::hs,a::is,hk=>by
  simp only [kA,Bool.and_eq_true]at hk
  obtain ⟨h1,h2,h3⟩:=qjd hk.2
  refine ⟨by simp [h1],by simp [h2],fun i p' h' a' e1 e2 e3=> ?_⟩
  cases i with
  |zero=>simp at e1 e2 e3;subst e1;subst e2;subst e3;exact hk.1
  |succ i=>exact h3 i p' h' a' (by simpa using e1) (by simpa using e2) (by simpa using e3)
 |[],[],_::_,h=>by simp [kA]at h
 |[],_::_,_,h=>by simp [kA]at h
 |_::_,[],_,h=>by simp [kA]at h
 |_::_,_::_,[],h=>by simp [kA]at h
def qax(call:ze) (plan:List Dp) (is:List AI) (i:Nat) (s:FS):Option FS:=
 match plan[i]?,is[i]? with
 |some p,some ai=>Z1 call p ai s
 |_,_=>none
theorem qlj {call:ze} {plan:List Dp} {is:List AI}: ∀ (ps:List Dp) (as:List AI) (k:Nat) (st st1:St),plan.drop k=ps→is.drop k=as→zZ call ps as st=some st1→
 QB (qax call plan is) (List.range' k as.length) (YR st)=some (YR st1)
 |[],[],k,st,st1,h1,h2,h=>by
  simp only [zZ,Option.some.injEq]at h;subst h;rfl
 |p::ps,a::as,k,st,st1,h1,h2,h=>by
  simp only [zZ]at h
  split at h
  case h_2=>cases h
  rename_i st2 hs
  have hp:plan[k]? =some p:=by
   have:(plan.drop k)[0]? =some p:=by rw [h1];rfl
   simpa using this
  have ha:is[k]? =some a:=by
   have:(is.drop k)[0]? =some a:=by rw [h2];rfl
   simpa using this
  simp only [List.length_cons,List.range'_succ,QB,qax,hp,ha,qB3 hs]
  exact qlj ps as (k+1) st2 st1 (by rw [← List.drop_drop,h1];rfl) (by rw [← List.drop_drop,h2];rfl) h
 |[],_::_,k,st,st1,h1,h2,h=>by simp [zZ]at h
 |_::_,[],k,st,st1,h1,h2,h=>by simp [zZ]at h
section
variable {P:Program} {N n:Nat} {E:Env} {c:Cnt} {st:St} {tmps:Array Value}
theorem qqf: ∀ (ds:List Nat) {st:St} {E:Env} {c:Cnt},FRel N E st tmps c→(∀ d ∈ ds,n≤d)→
 ∃ E' c',E'.w=E.w∧E'.I=E.I∧KN n E E'∧FRel N E' (kg ds st) tmps c'∧cle c' c∧(∀ d ∈ ds,∀ j,E'.μ (d,j)=none)∧(∀ d,(∀ j,E.μ (d,j)=none)→ ∀ j,E'.μ (d,j)=none)
 |[],st,E,c,h,hd=>⟨E,c,rfl,rfl,KN.refl,h,za _,fun d hd=>(by cases hd),fun d h=>h⟩
 |d::ds,st,E,c,h,hd=>by
  obtain ⟨c1,h1,h2,h3⟩:=YT d h.σ h.T
  obtain ⟨E',c',w1,i1,k1,f1,l1,m1,m2⟩:=qqf ds (st:=zr d st) (E:=E.drop d) (c:=c1) ⟨h.sz,h1,h2,(h.g.drop d).le h3⟩ (fun e he=>hd e (List.mem_cons_of_mem _ he))
  have hdn:=hd d (List.mem_cons_self)
  refine ⟨E',c',w1,i1,fun k hk=> ?_,f1,yZ l1 h3,fun e he=> ?_,fun e he=> ?_⟩
  ·rw [k1 k hk]
   simp only [Env.drop];rw [if_neg (by omega)]
  ·rcases List.mem_cons.1 he with rfl|he
   ·exact m2 e (fun j=>Qp E e j)
   ·exact m1 e he
  ·exact m2 e fun j=>by
    simp only [Env.drop]
    split
    ·rfl
    ·exact he j
end
end Go.Vm
namespace Go.Vm
variable [Lay]
section
variable {P:Program} {N n:Nat} {ops:Array Oper} {o:Oper} {E:Env} {c:Cnt} {st st':St} {a:Act} {call:ze} {ai h:AI}
theorem qAy(hC:Qe P call) (hq:roI h=true) (ht:y8 P N o h=some ai) (hs:qj call st ai=some st') (hf:FRel N E st a.tmps c) {Q:Exit→Act→World→Prop} {K:Act→World→Prop}
 (hK: ∀ y E3 c5 r,E3.μ=E.μ→Rel E3.cl r y c5→Good E3 c5→Adv E c0 E3 c5→st'=kM o.dst r st→K (a.put o.dst y) E3.w):o.wp P a E.w K Q:=by
 unfold roI at hq
 split at hq
 case h_2=>cases hq
 rename_i d hh hs' fz
 simp only [y8]at ht
 split at ht
 case isFalse=>cases ht
 rename_i hd
 simp only [ZV,Bool.and_eq_true,decide_eq_true_eq]at hd
 obtain ⟨hd,hn⟩:=hd
 unfold X7 at ht
 split at ht
 case h_2=>cases ht
 rename_i cl ho
 split at ht
 case h_2=>cases ht
 rename_i f hfn
 obtain ⟨f',xs',h1,h2,rfl⟩:=Zb ht
 simp only [qj]at hs
 split at hs
 case h_2=>cases hs
 rename_i fv hfv
 split at hs
 case h_2=>cases hs
 rename_i g first caps xs hcal hxs
 have hrf:=qK hf.σ h1 hfv
 have hrx:=J0 hf.σ h2 hxs
 unfold callee at hcal
 split at hcal
 case h_2=>cases hcal
 rename_i g0 fi0 ca0
 simp only [Option.some.injEq,Prod.mk.injEq]at hcal
 obtain ⟨rfl,rfl,rfl⟩:=hcal
 simp only [Rel]at hrf
 obtain ⟨fs,cs,c1,c2,hv,hr1,hr2,hcc⟩:=hrf
 obtain ⟨rfl,rfl⟩:=cz hcc.symm.symm rfl
 have hL:qk E (_++xs++_) (fs.toList++cl.args.toList.map a.eval++cs.toList) c0:=jV (jV hr1 hrx) hr2
 simp only [kP]at hs
 split at hs
 case h_2=>cases hs
 rename_i r outs hcall
 split at hs
 case isFalse=>cases hs
 rename_i hnt
 simp only [Option.some.injEq]at hs
 have hA:=qo8 hC (fz:=fz) hcall hnt hL hf.T hf.g
 have hrun:(execOp a.eval o).run P E.w=(callFunc g0 (fs.toList++cl.args.toList.map a.eval++cs.toList).toArray).run P E.w:=by
  rw [execOp];simp only [ho,resolve,hfn,hv,Deferred.ofValue,invoke,Sem.run_bind,Sem.run_pure,Result.andThen_ok]
  congr 2
  apply Array.ext'
  simp
 unfold Oper.wp
 rw [hrun]
 have hK': ∀ y w',(∃ E3 c5,E3.w=w'∧E3.μ=E.μ∧Rel E3.cl (fzV fz r) y c5∧Good E3 c5∧(∀ b,b < E.w.heap.size→w'.heap[b]? =E.w.heap[b]?)∧Adv E c0 E3 c5)→K (a.put o.dst y) w':=by
  rintro y w' ⟨E3,c5,rfl,k1,k2,k3,-,k4⟩
  exact hK y E3 c5 _ k1 k2 k3 k4 (by rw [hd];exact hs.symm)
 unfold Zz at hA
 split at hA
 ·rename_i g' args w' he
  rw [he]
  obtain ⟨rfl,hc⟩:=hA
  refine hc.mono ?_
  rintro e w'' ⟨y,rfl,h3⟩
  exact hK' y w'' h3
 ·rename_i y w' he
  rw [he]
  exact hK' y w' hA
 ·exact hA.elim
theorem qkg {ops':Array Oper}: ∀ {os:List Oper} {hs is:List AI},kF P N n ops' os hs=some is→os.length=is.length∧ ∀ (i:Nat) (o:Oper),os[i]? =some o→
 ∃ h ai,hs[i]? =some h∧is[i]? =some ai∧trI P N n ops' o h=some ai
 |[],[],is,h=>by simp only [kF,Option.some.injEq]at h;subst h;exact ⟨rfl,fun i o h=>by simp at h⟩
 |[],_::_,is,h=>by simp [kF]at h
 |_::_,[],is,h=>by simp [kF]at h
 |o::os,x::hs,is,h=>by
  simp only [kF]at h
  split at h
  case h_2=>cases h
  rename_i i is' h1 h2
  simp only [Option.some.injEq]at h;subst h
  obtain ⟨h3,h4⟩:=qkg h2
  refine ⟨by simp [h3],fun j o' hj=> ?_⟩
  cases j with
  |zero=>simp at hj;subst hj;exact ⟨x,i,rfl,rfl,h1⟩
  |succ j=>simpa using h4 j o' (by simpa using hj)
end
end Go.Vm
namespace Go.Vm
variable [Lay]
section
variable {P:Program} {N n:Nat} {ops:Array Oper} {call:ze} {plan:List Dp} {hs is:List AI}
theorem qsr {listed:Array Bool} {i:Nat} {p:Dp} {ai:AI} (hl:listed.size=ops.size) (hi:i < ops.size) (hp:plan[i]? =some p) (ha:is[i]? =some ai) (hlen:is.length=ops.size)
 (hpairs:qcY plan is (qfv ops)=true) {d:Nat} (h:kR plan is (listed.setIfInBounds i true) d):kR plan is listed d∧(p.k ≠ 0→qx ai ≠ some d):=by
 obtain ⟨j,q,aj,h1,h2,h3,h4,h5⟩:=h
 have hne:j ≠ i:=by
  rintro rfl
  have:(listed.setIfInBounds j true).getD j true=true:=by simp [Array.getD_eq_getD_getElem?,hl,hi]
  rw [this]at h1;cases h1
 rw [getD_set_ne true (Ne.symm hne)]at h1
 refine ⟨⟨j,q,aj,h1,h2,h3,h4,h5⟩,fun hk hd=> ?_⟩
 simp only [qcY,List.all_eq_true,List.mem_range]at hpairs
 have hj:j < is.length:=(List.getElem?_eq_some_iff.1 h3).1
 rcases Nat.lt_or_gt_of_ne hne with hlt|hlt
 ·have:=hpairs i (by omega) j hlt
  simp only [h2,h3,hp,ha,Bool.and_eq_true,Bool.or_eq_true,beq_iff_eq]at this
  have h6:=this.2
  rcases h6 with (h6|h6)|h6
  ·exact h4 h6
  ·exact hk h6
  ·rw [h5,hd]at h6;simp [qa6]at h6
 ·have:=hpairs j hj i hlt
  simp only [h2,h3,hp,ha,Bool.and_eq_true,Bool.or_eq_true,beq_iff_eq]at this
  have h6:=this.2
  rcases h6 with (h6|h6)|h6
  ·exact hk h6
  ·exact h4 h6
  ·rw [h5,hd]at h6;simp [qa6]at h6
theorem qpV {o:Oper} {h ai:AI} (ht:y8 P N o h=some ai): ∀ t,o.dst=some t→t < N:=by
 cases h<;>simp only [y8]at ht<;>(first|(cases ht;done)|skip)<;>(split at ht)<;>(first|(cases ht;done)|skip)<;>rename_i hd
 case st.isTrue=>
  intro t h;have hd':o.dst=none:=by simpa using hd
  rw [hd']at h;cases h
 case mset.isTrue=>
  intro t h;have hd':o.dst=none:=by simpa using hd
  rw [hd']at h;cases h
 case mes.isTrue=>
  intro t h;have hd':o.dst=none:=by simpa using hd
  rw [hd']at h;cases h
 case call.isTrue=>
  simp only [ZV,Bool.and_eq_true,decide_eq_true_eq]at hd
  intro t h
  obtain ⟨h1,h2⟩:=hd
  rw [← h1,h]at h2;simpa using h2
 all_goals
  intro t h
  obtain ⟨h1,h2⟩:=zI hd
  rw [h1]at h;cases h;exact h2
theorem qCf {o:Oper} {h ai:AI} (ht:trI P N n ops o h=some ai): ∀ t,o.dst=some t→t < N:=by
 unfold trI at ht
 split at ht
 ·split at ht
  case h_2=>cases ht
  split at ht
  case isFalse=>cases ht
  rename_i hc
  rw [Option.map_eq_some_iff]at ht
  obtain ⟨i',hi',rfl⟩:=ht
  exact qpV hi'
 ·split at ht
  case isFalse=>cases ht
  rename_i hc
  simp only [Bool.and_eq_true]at hc
  intro t h
  obtain ⟨h1,h2⟩:=zI hc.2
  rw [h1]at h;cases h;exact h2
 ·split at ht
  case isFalse=>cases ht
  exact qpV ht
theorem qsd(hC:Qe P call) (hlen:is.length=ops.size) (hpl:plan.length=is.length) (htr:kF P N n ops ops.toList hs=some is) (hops:kA n plan hs is=true) (hpairs:qcY plan is (qfv ops)=true)
 {E0:Env} {k0:Cnt} {a0:Act} {Q:Exit→Act→World→Prop} (listed:Array Bool) (i:Nat) (s s1:FS) (a:Act) (w:World) (K:Act→World→Prop) (hsz:listed.size=ops.size)
 (hi:i ∈ Region.ready .any ops listed) (hF:qax call plan is i s=some s1) (hI: ∃ E c,E.w=w∧InvD N n E0 k0 a0 (kR plan is listed) s a E c)
 (hK: ∀ a' w',(∃ E c,E.w=w'∧InvD N n E0 k0 a0 (kR plan is (listed.setIfInBounds i true)) s1 a' E c)→K a' w'):wpOp P ops Q i K a w:=by
 obtain ⟨E,c,rfl,hI⟩:=hI
 obtain ⟨h0,o,ho,-⟩:=mem_ready.1 hi
 have hin:i < ops.size:=(Array.getElem?_eq_some_iff.1 ho).1
 obtain ⟨h,ai,hh,hai,ht⟩:=(qkg htr).2 i o (by simpa using ho)
 unfold qax at hF
 split at hF
 case h_2=>cases hF
 rename_i p ai' hp hai'
 rw [hai]at hai';cases hai'
 have hop:=(qjd hops).2.2 i p h ai hp hh hai
 obtain ⟨st',hg,hsome,rfl⟩:=qdi.1 hF
 simp only [qf1,Bool.and_eq_true,Bool.or_eq_true,beq_iff_eq]at hop
 obtain ⟨⟨hkind,hnd⟩,hal⟩:=hop
 have hnd:=qnM hnd
 obtain ⟨L,hL,hT⟩:=hI.T
 obtain ⟨cK,cR,hFR,hcR,hle⟩:=hI.sub hL hT (qY ai) hnd
 have hfs:=fun d=> @qsr _ ops plan is listed i p ai hsz hin hp hai hlen hpairs d
 obtain ⟨hdst,hcases⟩:=qCe ht hg hFR
 have hal':p.k ≠ 0→(∀ d,qx ai=some d→n≤d)∧(∀ k ∈ p.ks,qx ai ≠ some k.1)∧(∀ d,qx ai=some d→kR plan is listed d):=by
  intro hk
  have h1:=hal.resolve_left hk
  refine ⟨fun d hd=> ?_,fun k hk' hd=> ?_,fun d hd=>⟨i,p,ai,h0,hp,hai,hk,hd⟩⟩
  ·rw [hd]at h1;simp only [Bool.and_eq_true,decide_eq_true_eq]at h1;exact h1.1
  ·rw [hd]at h1
   simp only [Bool.and_eq_true,decide_eq_true_eq,List.all_eq_true,bne_iff_ne,ne_eq]at h1
   exact h1.2 k hk' rfl
 have hdN: ∀ t,qx ai=some t→t < N:=by rw [hdst];exact qCf ht
 have hstay:p.k=0→st'=st'→(∀ (x:V) (y:Value),(qx ai=none)→InvD N n E0 k0 a0 (kR plan is (listed.setIfInBounds i true)) (xi (qx ai) st'.σ s.1,xj p (qx ai) st'.T s.2) (a.put (qx ai) y) E c):=by
  intro hk _ x y hn
  have e1:xi none st'.σ s.1=s.1:=by funext t;simp [xi]
  have e2:xj p none st'.T s.2=s.2:=by funext k;simp [xj,qjf hk]
  rw [hn,e1,e2]
  exact ⟨hI.sz,hI.df,hI.σ,hI.T,hI.g,hI.kn,hI.adv,fun d hd=>hI.fr d (hfs d hd).1⟩
 have hquiet:p.k=0→ ∀ d x y,qx ai=some d→st'=St.put {σ:=xg s.1 (qY ai),T:=yf s.2 p.ks} d x→Rel E x y c0→K (a.put o.dst y) E.w:=by
  intro hk d x y hd hst hx
  refine hK _ _ ⟨E,c,rfl, ?_⟩
  rw [← hdst,hd,hst]
  exact hI.quiet hk (hdN d hd) hx fun d' hd'=>(hfs d' hd').1
 have hro:p.k=2→ ∀ y E3 c5 r,E3.μ=E.μ→Rel E3.cl r y c5→Good E3 c5→Adv E c0 E3 c5→st'=kM o.dst r {σ:=xg s.1 (qY ai),T:=yf s.2 p.ks}→K (a.put o.dst y) E3.w:=by
  intro hk y E3 c5 r k1 k2 k3 k4 k5
  have hk0:p.k ≠ 0:=by omega
  obtain ⟨g1,g2,g3⟩:=hal' hk0
  rw [← hdst]at k5 ⊢
  obtain ⟨E4,c4,hw4,hI4⟩:=hI.ro (fr':=kR plan is (listed.setIfInBounds i true)) hL hT hk hdN g3 (fun d hd=>⟨(hfs d hd).1,(hfs d hd).2 hk0⟩) g1 g2 k5 (fun _ _=>trivial) k1 k2 k3 k4
  rw [← hw4]
  exact hK _ _ ⟨E4,c4,rfl,hI4⟩
 unfold wpOp
 rw [ho]
 simp only
 by_cases hk1:p.k=1
 ·refine qpY hC ht hg hFR ?_
  intro y E' c' hF' hkn hkp hA
  obtain ⟨g1,g2,g3⟩:=hal' (by omega)
  rw [← hdst]at hF' hkp ⊢
  obtain ⟨c'',hI'⟩:=hI.write (fr':=kR plan is (listed.setIfInBounds i true)) hL hcR hle hk1 hdN g3 (fun d hd=>⟨(hfs d hd).1,(hfs d hd).2 (by omega)⟩) hF' hkn hkp hA
  exact hK _ _ ⟨E',c'',rfl,hI'⟩
 rcases hkind with (⟨hk,hq⟩|hk)|⟨hk,hq⟩
 ·rcases hcases with ⟨hw,hn1,hn2⟩|⟨hw,ai1,h1,h2⟩
  ·rw [hw,if_neg (by simp)]
   cases hd:qx ai with
   |none=>
    have:=hstay hk rfl (.d) undef hd
    rw [hdst]at this
    exact hK _ _ ⟨E,c,rfl,by rw [hdst];exact this⟩
   |some d=>exact hquiet hk d yI undef hd (hn2 d (by rw [← hdst,hd])).2 qp1
  ·rw [if_pos hw]
   refine .inl (qrP (qCd hq h1 h2 hFR) ?_)
   intro d x y hd hdn hst hx
   exact hquiet hk d x y (by rw [hdst,hd]) hst hx
 ·exact absurd hk hk1
 ·rcases hcases with ⟨hw,hn1,hn2⟩|⟨hw,ai1,h1,h2⟩
  ·rw [hw,if_neg (by simp)]
   refine hro hk undef E c0 yI rfl (by simp [yI,undef,Rel,yP]) (hI.g.le fun _=>Nat.zero_le _) (Adv.refl _ _) ?_
   cases hd:o.dst with
   |none=>simp only [kM];exact hn1 hd
   |some d=>
    simp only [kM,YA,yI,zk,Bool.not_true,Bool.false_eq_true,if_false]
    exact (hn2 d hd).2
  ·rw [if_pos hw]
   exact .inl (qAy hC hq h1 h2 hFR fun y E3 c5 r k1 k2 k3 k4 k5=>hro hk y E3 c5 r k1 k2 k3 k4 k5)
end
end Go.Vm
namespace Go.Vm
variable [Lay]
section
variable {P:Program} {N n:Nat} {ops:Array Oper} {call:ze} {plan:List Dp} {hs is:List AI}
theorem qfu: ∀ {plan:List Dp} {hs is:List AI},kA n plan hs is=true→ ∀ d ∈ yg plan is,n≤d
 |[],[],[],h,d,hd=>by simp [yg]at hd
 |p::ps,h::hs,a::is,hk,d,hd=>by
  simp only [kA,Bool.and_eq_true]at hk
  simp only [yg]at hd
  split at hd
  ·exact qfu hk.2 d hd
  ·rename_i hp
   split at hd
   ·rename_i e he
    rcases List.mem_cons.1 hd with rfl|hd
    ·have h1:=hk.1
     simp only [qf1,Bool.and_eq_true,Bool.or_eq_true,beq_iff_eq,he,decide_eq_true_eq]at h1
     exact (h1.2.resolve_left hp).1
    ·exact qfu hk.2 d hd
   ·exact qfu hk.2 d hd
 |[],[],_::_,h,d,hd=>by simp [kA]at h
 |[],_::_,_,h,d,hd=>by simp [kA]at h
 |_::_,[],_,h,d,hd=>by simp [kA]at h
 |_::_,_::_,[],h,d,hd=>by simp [kA]at h
theorem qlg: ∀ {plan:List Dp} {is:List AI} {i:Nat} {p:Dp} {ai:AI} {d:Nat},plan[i]? =some p→is[i]? =some ai→p.k ≠ 0→qx ai=some d→d ∈ yg plan is
 |[],is,i,p,ai,d,h1,h2,h3,h4=>by simp at h1
 |q::ps,[],i,p,ai,d,h1,h2,h3,h4=>by simp at h2
 |q::ps,b::is,0,p,ai,d,h1,h2,h3,h4=>by
  simp at h1 h2;subst h1;subst h2
  simp only [yg,if_neg h3,h4];exact List.mem_cons_self
 |q::ps,b::is,i+1,p,ai,d,h1,h2,h3,h4=>by
  have:=qlg (plan:=ps) (is:=is) (by simpa using h1) (by simpa using h2) h3 h4
  simp only [yg]
  split
  ·exact this
  ·split
   ·exact List.mem_cons_of_mem _ this
   ·exact this
theorem qsc(hC:Qe P call) (hchk:dOk P n ops plan hs is=true) (htr:kF P N n ops ops.toList hs=some is) {st st1:St} {a:Act} {E:Env} {c:Cnt}
 (hrun:zZ call plan is (kg (yg plan is) st)=some st1) (hnd:YI st1.T=true) (hf:FRel N E st a.tmps c) {Q:Exit→Act→World→Prop}
 (hQ: ∀ a' E' c',FRel N E' st1 a'.tmps c'→a'.defers=a.defers→KN n E E'→Adv E c E' c'→Q .normal a' E'.w) {id:Nat}:(Code.region id ops true).wp P Q a E.w:=by
 simp only [dOk,Bool.and_eq_true]at hchk
 obtain ⟨⟨⟨⟨hm,hanc⟩,hback⟩,hpairs⟩,hops⟩:=hchk
 obtain ⟨hl1,hl2,-⟩:=qjd hops
 have hlen:is.length=ops.size:=by have:=(qkg htr).1;rw [Array.length_toList]at this;exact this.symm
 let E1:Env:={E with w:={E.w with drawn:=E.w.drawn+1}}
 have hM: ∀ c,Mono E E1 c:=fun c=>⟨fun τ b hb=>⟨hb,rfl⟩,fun b _=>rfl,fun k l hk=>hk⟩
 have hf1:FRel N E1 st a.tmps c:=⟨hf.sz,jc hf.σ (hM _),yo hf.T (hM _),⟨hf.g.one,hf.g.imm,hf.g.sub,hf.g.bnd,hf.g.lay.next (fun b hb=>hb) (fun b hb=>rfl)⟩⟩
 have hA1:Adv E c E1 c:=⟨fun b n h=>h,rfl,rfl,rfl,Nat.le_refl _,fun _ _ _=>rfl,fun _ _ h=>h,fun _ h=> .inl h,fun _ _ h=> .inl h⟩
 obtain ⟨E2,c2,hw2,hI2,hk2,hf2,hle2,hfree,-⟩:=qqf (n:=n) (yg plan is) hf1 (qfu hops)
 have hA2:Adv E c E2 c2:=hA1.trans (QV hw2 hI2 hle2)
 have hK2:KN n E E2:=fun k hk=>hk2 k hk
 refine wp_region_any hm ?_
 have hsz:(Array.replicate ops.size false).size=ops.size:=by simp
 have hget: ∀ i,i < ops.size→(Array.replicate ops.size false).getD i true=false:=fun i hi=>by simp [Array.getD_eq_getD_getElem?,hi]
 have hrem:ka ops.size (Array.replicate ops.size false)=List.range ops.size:=by
  unfold ka
  rw [List.filter_eq_self]
  intro i hi
  rw [hget i (List.mem_range.1 hi)];rfl
 have hInv0:InvD N n E c a (kR plan is (Array.replicate ops.size false)) (YR (kg (yg plan is) st)) a E2 c2:=
  ⟨hf2.sz,rfl,fun t x hx=>hf2.σ t x hx,⟨_,fun k=>rfl,hf2.T⟩,hf2.g,hK2,hA2,fun d ⟨i,p,ai,_,h2,h3,h4,h5⟩=>hfree d (qlg h2 h3 h4 h5)⟩
 refine qCw (F:=qax call plan is) hanc hback ?_ (fun listed s a' w'=> ∃ E' c',E'.w=w'∧InvD N n E c a (kR plan is listed) s a' E' c')
  (qsd hC hlen hl1 htr hops hpairs) (s':=YR st1) ?_ ops.size _ (YR (kg (yg plan is) st)) a _ hsz (by rw [hrem];simp) ?_ ?_ ⟨E2,c2,hw2,hInv0⟩
 ·intro j i hj hi hcon s s1 s2 h1 h2
  simp only [qcY,List.all_eq_true,List.mem_range]at hpairs
  have:=hpairs i (by omega) j hj
  unfold qax at h1 h2 ⊢
  split at h1
  case h_2=>cases h1
  rename_i pj aj e1 e2
  split at h2
  case h_2=>cases h2
  rename_i pi ai e3 e4
  simp only [e1,e2,e3,e4,Bool.and_eq_true,Bool.or_eq_true]at this
  rcases this.1 with h3|h3
  ·rw [hcon]at h3;cases h3
  ·obtain ⟨s1',g1,g2⟩:=qB8 h3 h1 h2
   exact ⟨s1',g1,g2⟩
 ·rintro listed a' w' ⟨E',c',rfl,hI⟩
  obtain ⟨L,hL,hT⟩:=hI.T
  obtain ⟨c'',h1,h2⟩:=qpS hnd hT (fun k x hk=>by rw [hL];exact hk)
  exact hQ a' E' c'' ⟨hI.sz,fun t x hx=>hI.σ t x hx,h1,hI.g.le h2⟩ hI.df hI.kn (hI.adv.le h2)
 ·intro k o hk hl
  rw [hget k (Array.getElem?_eq_some_iff.1 hk).1]at hl;cases hl
 ·rw [hrem,List.range_eq_range', ← hlen]
  exact qlj plan is 0 _ _ rfl rfl hrun
end
end Go.Vm
namespace Go.Vm
variable [Lay]
section
variable {E E':Env}
end
def z6(E:Env):Env:={E with μ:=fun k=>if NB≤k.1 then some (.emp none)else E.μ k}
mutual
theorem qcU(E:Env) (d i:Nat) (nm:Bool) (hd:nm=true→NB≤d): ∀ (x:V) (y:Value) (c:Cnt),Rel E x y c→Rel (z6 E) (qW d i nm x) y c
 | .v x,y,c,h=>by simpa only [Rel,qW]using h
 | .p k a b,y,c,h=>by
   simp only [qW]
   split
   ·simp only [Rel]at h ⊢;exact h.1
   ·rename_i hk
    simp only [Rel,z6,if_neg hk]at h ⊢;exact h
 | .s k a b,y,c,h=>by
   simp only [qW]
   split
   ·simp only [Rel]at h ⊢;exact h.1
   ·rename_i hk
    simp only [Rel,z6,if_neg hk]at h ⊢;exact h
 | .q τ xs a b,y,c,h=>by simp only [Rel,qW]at h ⊢;exact h
 | .i τ xs,y,c,h=>by simp only [Rel,qW]at h ⊢;exact h
 | .o e xs,y,c,h=>by simp only [Rel,qW]at h ⊢;exact h
 | .n e,y,c,h=>by
   simp only [qW]
   split
   ·rename_i hn
    simp only [Rel]at h ⊢
    obtain ⟨rfl,rfl⟩:=h
    refine ⟨by trivial,.inl ⟨none,by simp only [z6,if_pos (hd hn)], ?_⟩⟩
    simp
   ·simpa only [Rel]using h
 | .b x,y,c,h=>by simp only [Rel,qW]at h ⊢;exact h
 | .f fn xs ys,y,c,h=>by
   simp only [Rel,qW]at h ⊢
   obtain ⟨fs,cs,c1,c2,hy,h1,h2,h3⟩:=h
   exact ⟨fs,cs,c1,c2,hy,qcT E d i false (fun h=>by cases h) xs _ _ h1,qcT E d i false (fun h=>by cases h) ys _ _ h2,h3⟩
 | .a xs,y,c,h=>by
   simp only [Rel,qW]at h ⊢
   obtain ⟨vs,hy,h⟩:=h
   exact ⟨vs,hy,qcT E d i nm hd xs _ _ h⟩
 | .t xs,y,c,h=>by
   simp only [Rel,qW]at h ⊢
   obtain ⟨vs,hy,h⟩:=h
   exact ⟨vs,hy,qcT E d i false (fun h=>by cases h) xs _ _ h⟩
 | .m k,y,c,h=>by
   simp only [qW]
   split
   ·simp only [Rel]at h ⊢;exact h.1
   ·rename_i hk
    simp only [Rel,z6,if_neg hk]at h ⊢;exact h
 | .w none es,y,c,h=>by simp only [Rel,qW]at h ⊢;exact h
 | .w (some _) es,y,c,h=>by simp only [Rel,qW]at h ⊢;exact h
 | .d,y,c,h=>by simpa only [Rel,qW]using h
theorem qcT(E:Env) (d i:Nat) (nm:Bool) (hd:nm=true→NB≤d): ∀ (xs:List V) (ys:List Value) (c:Cnt),qk E xs ys c→qk (z6 E) (zV d i nm xs) ys c
 |[],ys,c,h=>by simpa only [qk,zV]using h
 |x::xs,ys,c,h=>by
  simp only [qk,zV]at h ⊢
  obtain ⟨y,ys',c1,c2,hy,h1,h2,h3⟩:=h
  exact ⟨y,ys',c1,c2,hy,qcU E d i nm hd x _ _ h1,qcT E d (i+1) nm hd xs _ _ h2,h3⟩
end
theorem qi0(d:Nat) (nm:Bool): ∀ (xs:List V) (i:Nat),(zV d i nm xs).length=xs.length
 |[],_=>rfl
 |x::xs,i=>by simp only [zV,List.length_cons,qi0 d nm xs (i+1)]
theorem qi1(d i:Nat) (nm:Bool) (x:V):(qW d i nm x).cells.length=x.cells.length:=by
 cases x<;>simp only [qW]<;>first
  |rfl
  |(split<;>rfl)
  |(simp only [V.cells,qi0])
theorem qny(E:Env) (d:Nat) {e:Nat}: ∀ (xs:List V) (i:Nat) (ys:List Value) (c:Cnt),qn E e xs ys c→qn (z6 E) e (zV d i false xs) ys c
 |[],i,ys,c,h=>h
 |x::xs,i,ys,c,h=>by
  simp only [qn,zV]at h ⊢
  obtain ⟨y,ys',c1,c2,h1,h2,h3,h4,h5,h6,h7⟩:=h
  exact ⟨y,ys',c1,c2,h1,h2,by rw [qi1];exact h3,h4,qcU E d i false (fun h=>by cases h) _ _ _ h5,qny E d xs (i+1) _ _ h6,h7⟩
theorem qjv {E E':Env} (hc:E'.cl=E.cl) {e:Nat} {xs:List V} {ys:List Value} {c:Cnt} (h:qn E e xs ys c) (hx:qC xs=true):qn E' e xs ys c:=
 yN (by rw [hc];exact qgg h hx) (jR E' c)
theorem qxs(E:Env) (d i:Nat) (bx:Bool) (hd:NB≤d) {e:Nat} {xs:List V} {ys:List Value} {c:Cnt} (h:qn E e xs ys c):qn (z6 E) e (jw d i bx xs) ys c:=by
 have hall: ∀ xs,qn E e xs ys c→qn (z6 E) e (if qC xs then xs else zV 0 0 false xs) ys c:=by
  intro xs h
  split
  ·rename_i hc;exact qjv (E:=E) (E':=z6 E) rfl h hc
  ·exact qny E 0 xs 0 ys c h
 unfold jw
 split
 ·rename_i x
  have hone: ∀ g:V→V,(∀ y c,Rel E x y c→Rel (z6 E) (g x) y c)→(g x).cells.length=x.cells.length→qn (z6 E) e [g x] ys c:=by
   intro g hg hl
   simp only [qn]at h ⊢
   obtain ⟨y,ys',c1,c2,h1,h2,h3,h4,h5,h6,h7⟩:=h
   exact ⟨y,ys',c1,c2,h1,h2,by rw [hl];exact h3,h4,hg _ _ h5,h6,h7⟩
  split
  ·exact hone (qW d i true) (fun y c h=>qcU E d i true (fun _=>hd) x y c h) (qi1 _ _ _ _)
  ·split
   ·rename_i hc;exact qjv (E:=E) (E':=z6 E) rfl h (by simp only [qC,hc,Bool.and_self])
   ·exact hone (qW 0 0 false) (fun y c h=>qcU E 0 0 false (fun h=>by cases h) x y c h) (qi1 _ _ _ _)
 ·exact hall _ h
theorem qma(E:Env) {k:Key} (hk:NB≤k.1) (e:Nat):xQ (z6 E) k (e,[]) c0:= .inr (.inl ⟨⟨none,by simp only [z6,if_pos hk]⟩,rfl,rfl⟩)
theorem qiZ(E:Env) (d:Nat) (hd:NB≤d): ∀ (xs:List V) (i:Nat),qq (z6 E) (Q8 d i xs) c0
 |[],i=>by simp only [Q8,qq]
 |x::xs,i=>by
  cases x<;>simp only [Q8]<;>first
   |exact qiZ E d hd xs (i+1)
   |exact ⟨c0,c0,qma E hd _,qiZ E d hd xs (i+1),rfl⟩
theorem qnB(E:Env) (d i:Nat) (hd:NB≤d) (x:V):qq (z6 E) (yx d i x) c0:=by
 cases x<;>simp only [yx]<;>first
  |exact qiZ E d hd _ i
  |exact ⟨c0,c0,qma E hd _,rfl,rfl⟩
  |rfl
theorem qxt {E:Env} {σ:Sl} {tmps:Array Value} (h:zS E σ tmps):zS (z6 E) (kw σ) tmps:=by
 have hget: ∀ (σ:Sl) t z,qF (kw σ) t=some z→ ∃ x,qF σ t=some x∧z=qW (NB+t) 0 true x:=by
  intro σ
  induction σ with
  |nil=>intro t z h;simp [kw,qF]at h
  |cons p r ih=>
   obtain ⟨u,x⟩:=p
   intro t z h
   simp only [kw,qF]at h ⊢
   split at h
   ·rename_i hu;subst hu
    simp only [Option.some.injEq]at h
    rw [if_pos rfl];exact ⟨x,rfl,h.symm⟩
   ·rename_i hu;rw [if_neg hu];exact ih t z h
 intro t z hz
 obtain ⟨x,hx,rfl⟩:=hget σ t z hz
 obtain ⟨y,h1,h2⟩:=h t x hx
 exact ⟨y,h1,qcU E _ 0 true (fun _=>Nat.le_add_right _ _) x y c0 h2⟩
theorem qnz(E:Env): ∀ (σ:Sl),qq (z6 E) (jx σ) c0
 |[]=>rfl
 |(t,x)::r=>by
  simp only [jx]
  have:=ke (qnB E (NB+t) 0 (Nat.le_add_right _ _) x) (qnz E r)
  rwa [zo]at this
theorem qnA {E:Env} (bx:List Key): ∀ {T:Mem} {c:Cnt},qq E T c→ ∃ c',qq (z6 E) (xx bx T) c'∧cle c' c
 |[],c,h=>⟨c,h,za _⟩
 |(k,e,xs)::r,c,h=>by
  obtain ⟨c1,c2,h1,h2,rfl⟩:=h
  obtain ⟨c3,h3,h4⟩:=qnA bx h2
  simp only [xx]
  split
  ·exact ⟨c3,h3,yZ h4 (xJ _ _)⟩
  ·rename_i hk
   have hom:qq (z6 E) (XT (2*NB+k.1) (10*k.2) (xZ k bx) xs) c0:=by
    unfold XT
    split
    ·split
     ·exact qnB E _ _ (by omega) _
     ·rfl
    ·rfl
   have hob:xQ (z6 E) k (e,jw (2*NB+k.1) (10*k.2) (xZ k bx) xs) c1:=by
    rcases h1 with ⟨b,ents,clk,es,q1,q2,q3,q4,q5⟩|⟨⟨A,hA⟩,hn,hc⟩|⟨b,base,lim,cells,T,fz,c5,g1,g2,g3,g4,g5,g6,rfl⟩
    ·simp only at q4;subst q4
     refine .inl ⟨b,ents,clk,es,by simp only [z6,if_neg hk];exact q1,q2,q3, ?_,q5⟩
     simp [jw,qW,clE,clB]
    ·simp only at hn;subst hn
     refine .inr (.inl ⟨⟨A,by simp only [z6,if_neg hk];exact hA⟩, ?_,hc⟩)
     simp [jw,qC]
    ·have hlen:(jw (2*NB+k.1) (10*k.2) (xZ k bx) xs).length=xs.length:=by
      unfold jw
      split
      ·split
       ·rfl
       ·split<;>rfl
      ·split
       ·rfl
       ·exact qi0 _ _ _ _
     refine .inr (.inr ⟨b,base,lim,cells,T,fz,c5,by simp only [z6,if_neg hk];exact g1,g2,g3,g4, ?_, ?_,rfl⟩)
     ·simp only at g5 ⊢;rw [hlen];exact g5
     ·simp only at g6 ⊢;rw [hlen];exact qxs E _ _ _ (by omega) g6
   refine ⟨qh c1 c3, ?_,kN (za _) h4⟩
   have:=ke hom (show qq (z6 E) ((k,e,jw (2*NB+k.1) (10*k.2) (xZ k bx) xs)::xx bx r) (qh c1 c3)from ⟨c1,c3,hob,h3,rfl⟩)
   rwa [zo]at this
def jX(tb:List Key) (E:Env):Env:={E with μ:=fun k=>if k.1=CN then (tb[k.2]?).bind E.μ else E.μ k}
theorem qmG {k:Key}: ∀ {tb:List Key} {i j:Nat},YF k i tb=some j→i≤j∧tb[j - i]? =some k
 |[],i,j,h=>by simp [YF]at h
 |u::r,i,j,h=>by
  simp only [YF]at h
  split at h
  ·rename_i hu;simp only [Option.some.injEq]at h;subst h;subst hu;simp
  ·obtain ⟨h1,h2⟩:=qmG h
   refine ⟨by omega, ?_⟩
   rw [show j - i=(j - (i+1))+1 by omega]
   simpa using h2
theorem XZ {tb:List Key} {E:Env} {k k':Key} {l:Loc} (h:kb tb k=some k') (hl:E.μ k=some l):(jX tb E).μ k'=some l:=by
 unfold kb at h
 split at h
 ·rename_i i hi
  simp only [Option.some.injEq]at h;subst h
  obtain ⟨-,h2⟩:=qmG hi
  simp only [Nat.sub_zero]at h2
  simp only [jX,if_true,h2,Option.bind_some,hl]
 ·split at h
  ·cases h
  ·rename_i hk
   simp only [Option.some.injEq]at h;subst h
   simp only [jX,if_neg hk,hl]
mutual
theorem qjD(tb:List Key) (E:Env): ∀ (x:V) (y:Value) (c:Cnt),Rel E x y c→Rel (jX tb E) (zc tb x) y c
 | .v x,y,c,h=>by simpa only [Rel,zc]using h
 | .p k a b,y,c,h=>by
   simp only [zc]
   simp only [Rel]at h
   obtain ⟨h0,b',base,e,lim,h1,h2⟩:=h
   split
   ·rename_i k' hk
    simp only [Rel]
    exact ⟨h0,b',base,e,lim,XZ hk h1,h2⟩
   ·simp only [Rel];exact h0
 | .s k a b,y,c,h=>by
   simp only [zc]
   simp only [Rel]at h
   obtain ⟨h0,h⟩:=h
   split
   ·rename_i k' hk
    simp only [Rel]
    refine ⟨h0, ?_⟩
    rcases h with ⟨A,h1,h2⟩|⟨b',base,e,lim,cap,A,h1,h2⟩
    ·exact .inl ⟨A,XZ hk h1,h2⟩
    ·exact .inr ⟨b',base,e,lim,cap,A,XZ hk h1,h2⟩
   ·simp only [Rel];exact h0
 | .q τ xs a b,y,c,h=>by simp only [Rel,zc]at h ⊢;exact h
 | .i τ xs,y,c,h=>by simp only [Rel,zc]at h ⊢;exact h
 | .o e xs,y,c,h=>by simp only [Rel,zc]at h ⊢;exact h
 | .n e,y,c,h=>by simpa only [Rel,zc]using h
 | .b x,y,c,h=>by simp only [Rel,zc]at h ⊢;exact h
 | .f fn xs ys,y,c,h=>by
   simp only [Rel,zc]at h ⊢
   obtain ⟨fs,cs,c1,c2,hy,h1,h2,h3⟩:=h
   exact ⟨fs,cs,c1,c2,hy,qda tb E xs _ _ h1,qda tb E ys _ _ h2,h3⟩
 | .a xs,y,c,h=>by
   simp only [Rel,zc]at h ⊢
   obtain ⟨vs,hy,h⟩:=h
   exact ⟨vs,hy,qda tb E xs _ _ h⟩
 | .t xs,y,c,h=>by
   simp only [Rel,zc]at h ⊢
   obtain ⟨vs,hy,h⟩:=h
   exact ⟨vs,hy,qda tb E xs _ _ h⟩
 | .m k,y,c,h=>by
   simp only [zc]
   simp only [Rel]at h
   obtain ⟨h0,b',h1,h2⟩:=h
   split
   ·rename_i k' hk
    simp only [Rel]
    exact ⟨h0,b',XZ hk h1,h2⟩
   ·simp only [Rel];exact h0
 | .w none es,y,c,h=>by simp only [Rel,zc]at h ⊢;exact h
 | .w (some _) es,y,c,h=>by simp only [Rel,zc]at h ⊢;exact h
 | .d,y,c,h=>by simpa only [Rel,zc]using h
theorem qda(tb:List Key) (E:Env): ∀ (xs:List V) (ys:List Value) (c:Cnt),qk E xs ys c→qk (jX tb E) (z8 tb xs) ys c
 |[],ys,c,h=>by simpa only [qk,z8]using h
 |x::xs,ys,c,h=>by
  simp only [qk,z8]at h ⊢
  obtain ⟨y,ys',c1,c2,hy,h1,h2,h3⟩:=h
  exact ⟨y,ys',c1,c2,hy,qjD tb E x _ _ h1,qda tb E xs _ _ h2,h3⟩
end
theorem qjC(tb:List Key): ∀ (xs:List V),(z8 tb xs).length=xs.length
 |[]=>rfl
 |x::xs=>by simp only [z8,List.length_cons,qjC tb xs]
theorem qAt(tb:List Key) (x:V):(zc tb x).cells.length=x.cells.length:=by
 cases x<;>simp only [zc]<;>first
  |rfl
  |(split<;>rfl)
  |(simp only [V.cells,qjC])
theorem qoX(tb:List Key) (E:Env) {e:Nat}: ∀ (xs:List V) (ys:List Value) (c:Cnt),qn E e xs ys c→qn (jX tb E) e (z8 tb xs) ys c
 |[],ys,c,h=>h
 |x::xs,ys,c,h=>by
  simp only [qn,z8]at h ⊢
  obtain ⟨y,ys',c1,c2,h1,h2,h3,h4,h5,h6,h7⟩:=h
  exact ⟨y,ys',c1,c2,h1,h2,by rw [qAt];exact h3,h4,qjD tb E _ _ _ h5,qoX tb E xs _ _ h6,h7⟩
theorem qAs {E:Env} (tb:List Key) {σ:Sl} {tmps:Array Value} (h:zS E σ tmps):zS (jX tb E) (Zg tb σ) tmps:=by
 have hget: ∀ (σ:Sl) t z,qF (Zg tb σ) t=some z→ ∃ x,qF σ t=some x∧z=zc tb x:=by
  intro σ
  induction σ with
  |nil=>intro t z h;simp [Zg,qF]at h
  |cons p r ih=>
   obtain ⟨u,x⟩:=p
   intro t z h
   simp only [Zg,qF]at h ⊢
   split at h
   ·rename_i hu;subst hu
    simp only [Option.some.injEq]at h
    rw [if_pos rfl];exact ⟨x,rfl,h.symm⟩
   ·rename_i hu;rw [if_neg hu];exact ih t z h
 intro t z hz
 obtain ⟨x,hx,rfl⟩:=hget σ t z hz
 obtain ⟨y,h1,h2⟩:=h t x hx
 exact ⟨y,h1,qjD tb E x y c0 h2⟩
theorem qoY {E:Env} (tb:List Key): ∀ {T:Mem} {c:Cnt},qq E T c→ ∃ c',qq (jX tb E) (jY tb T) c'∧cle c' c
 |[],c,h=>⟨c,h,za _⟩
 |(k,e,xs)::r,c,h=>by
  obtain ⟨c1,c2,h1,h2,rfl⟩:=h
  obtain ⟨c3,h3,h4⟩:=qoY tb h2
  simp only [jY]
  split
  ·rename_i k' hk
   have hob:xQ (jX tb E) k' (e,if qC xs then xs else z8 tb xs) c1:=by
    have hlen:(if qC xs then xs else z8 tb xs).length=xs.length:=by
     split
     ·rfl
     ·exact qjC _ _
    rcases h1 with ⟨b,ents,clk,es,q1,q2,q3,q4,q5⟩|⟨⟨A,hA⟩,hn,hc⟩|⟨b,base,lim,cells,T,fz,c5,g1,g2,g3,g4,g5,g6,rfl⟩
    ·simp only at q4;subst q4
     exact .inl ⟨b,ents,clk,es,XZ hk q1,q2,q3,by simp [qC,clE,clB],q5⟩
    ·simp only at hn;subst hn
     exact .inr (.inl ⟨⟨A,XZ hk hA⟩,by simp [qC],hc⟩)
    ·refine .inr (.inr ⟨b,base,lim,cells,T,fz,c5,XZ hk g1,g2,g3,g4, ?_, ?_,rfl⟩)
     ·simp only at g5 ⊢;rw [hlen];exact g5
     ·simp only at g6 ⊢;rw [hlen]
      split
      ·rename_i hc;exact qjv (E:=E) (E':=jX tb E) rfl g6 hc
      ·exact qoX tb E xs _ _ g6
   exact ⟨qh c1 c3,⟨c1,c3,hob,h3,rfl⟩,kN (za _) h4⟩
  ·exact ⟨c3,h3,yZ h4 (xJ _ _)⟩
theorem qrM(n:Nat):qba (zf n):=by
 intro E T x y c1 c2 hT h
 unfold zf
 split
 ·rename_i hc;exact ⟨c1,c2,hT,qjA h hc,za _,rfl⟩
 ·exact JV n E T x y c1 c2 hT h
theorem qrJ {E:Env} {T:Mem} {c:Cnt} (k:Key) (h:qq E T c): ∃ c',qq E (XG T k) c'∧cle c' c:=by
 unfold XG
 split
 ·exact ⟨c,h,za _⟩
 ·rename_i ob hg
  split
  ·exact ⟨c,h,za _⟩
  ·obtain ⟨e,xs⟩:=ob
   obtain ⟨c1,c2,h1,h2,rfl⟩:=yH h hg
   rcases h1 with ⟨b,ents,clk,es,q1,q2,q3,q4,q5⟩|⟨⟨A,hA⟩,hn,rfl⟩|⟨b,base,lim,cells,Tt,fz,c5,g1,g2,g3,g4,g5,g6,rfl⟩
   ·rename_i hcl
    simp only at q4;subst q4
    simp [qC,clE,clB]at hcl
   ·simp only at hn;subst hn
    refine ⟨qh c0 c2,⟨c0,c2,.inr (.inl ⟨⟨A,hA⟩,by simp [qy],rfl⟩),by simpa [qy]using h2,rfl⟩,za _⟩
   ·obtain ⟨d1,d2,k1,k2,k3⟩:=qjy (qrM 30) h2 g6
    have hlen:=qfT (zf 30) (qE T k) xs
    refine ⟨qh (qh (qA b) d2) d1,⟨qh (qA b) d2,d1,.inr (.inr ⟨b,base,lim,cells,Tt,fz,d2,g1,g2,g3,g4, ?_, ?_,rfl⟩),k1,rfl⟩, ?_⟩
    ·simp only at g5 ⊢;rw [hlen];exact g5
    ·simp only at g6 ⊢;rw [hlen];exact yN k2 (jR E d2)
    ·intro z;have:=k3 z;simp only [qh]at*;omega
theorem qib {E:Env} (bx:List Key): ∀ (ks:List Key) {T:Mem} {c:Cnt},qq E T c→ ∃ c',qq E (Q3 bx ks T) c'∧cle c' c
 |[],T,c,h=>⟨c,h,za _⟩
 |k::ks,T,c,h=>by
  simp only [Q3]
  split
  ·exact qib bx ks h
  ·obtain ⟨c1,h1,h2⟩:=qrJ k h
   obtain ⟨c3,h3,h4⟩:=qib bx ks h1
   exact ⟨c3,h3,yZ h4 h2⟩
theorem qBp {E:Env} {T:Mem} {c:Cnt} (bx k0:List Key) (h:qq E T c): ∃ c',qq E (X2 bx k0 T) c'∧cle c' c:=by
 unfold X2
 obtain ⟨c1,h1,h1'⟩:=qib bx k0 h
 obtain ⟨c3,h3,h3'⟩:=qgF k0 h1
 exact ⟨c3,h3,yZ h3' h1'⟩
theorem qrx {E:Env} {σ:Sl} {T:Mem} {tmps:Array Value} {c:Cnt} (n:Nat) (bx:List Key) (hσ:zS E σ tmps) (hT:qq E T c):
 ∃ E' c',E'.w=E.w∧E'.I=E.I∧(∀ k:Key,k.1 < CN→E'.μ k=E.μ k)∧zS E' (YB n bx σ T).σ tmps∧qq E' (YB n bx σ T).T c'∧cle c' c:=by
 obtain ⟨c1,h1,h1'⟩:=qnA bx hT
 have h2:=ke (qnz E σ) h1
 rw [zo]at h2
 obtain ⟨c4,h4,h4'⟩:=qgF (xY (kw σ)++xW (jx σ++xx bx T) bx) h2
 obtain ⟨c3,h3,h3'⟩:=qoY (ju n (xY (kw σ)++xW (jx σ++xx bx T) bx)) h4
 refine ⟨jX (ju n (xY (kw σ)++xW (jx σ++xx bx T) bx)) (z6 E),c3,rfl,rfl, ?_,qAs _ (qxt hσ),h3,yZ h3' (yZ h4' h1')⟩
 intro k hk
 have e1: ¬ k.1=CN:=by omega
 have e2: ¬ NB≤k.1:=by unfold CN at hk;unfold NB;omega
 simp only [jX,if_neg e1,z6,if_neg e2]
theorem qod {N:Nat} {E:Env} {st:St} {tmps:Array Value} {c:Cnt} (ls:List Nat) (ks:List Key) (hf:FRel N E st tmps c):
 ∃ E' c',E'.w=E.w∧E'.I=E.I∧(∀ k:Key,k.1 < CN→E'.μ k=E.μ k)∧FRel N E' (kB ls ks st) tmps c'∧cle c' c:=by
 obtain ⟨c1,h1,h1'⟩:=qBp (xp (zL st.σ ls)) (xY (zL st.σ ls)++xW st.T (xp (zL st.σ ls))) hf.T
 obtain ⟨E',c',hw,hI,hμ,hσ,hT,hle⟩:=qrx (qcx ks) (xp (zL st.σ ls)) (qpg hf.σ ls) h1
 have hle':=yZ hle h1'
 exact ⟨E',c',hw,hI,hμ,⟨hf.sz,hσ,hT,ZO hw hI hle' hf.g⟩,hle'⟩
end Go.Vm
namespace Go.Vm
variable [Lay]
theorem qxJ {N:Nat} {E:Env} {st:St} {tmps:Array Value} {c:Cnt} (d:Nat) (k:Key) (i:Nat) (hf:FRel N E st tmps c):
 ∃ E' c',E'.w=E.w∧E'.I=E.I∧(∀ k:Key,k.1 ≠ d→E'.μ k=E.μ k)∧FRel N E' (qae d k i (zr d st)) tmps c'∧cle c' c:=by
 obtain ⟨c1,hσ1,hT1,hle1⟩:=YT d hf.σ hf.T
 have hself:FRel N (E.drop d) (zr d st) tmps c1:=⟨hf.sz,hσ1,hT1,(hf.g.drop d).le hle1⟩
 have hdrop: ∀ k:Key,k.1 ≠ d→(E.drop d).μ k=E.μ k:=(qdb E d).hμ
 have hnone: ∃ E' c',E'.w=E.w∧E'.I=E.I∧(∀ k:Key,k.1 ≠ d→E'.μ k=E.μ k)∧FRel N E' (zr d st) tmps c'∧cle c' c:=
  ⟨E.drop d,c1,rfl,rfl,hdrop,hself,hle1⟩
 unfold qae
 split
 case h_2=>exact hnone
 rename_i ob hg
 split
 case h_2=>exact hnone
 rename_i x hx
 obtain ⟨co,cr,hob,hrest,rfl⟩:=yH hT1 hg
 rcases hob with ⟨b,ents,clk,es,q1,q2,q3,q4,q5⟩|⟨⟨A0,hn1⟩,hn2,-⟩|⟨b,base,lim,cells,ty,fz,ce,hμ,hw,hl,hf',hs,hr,rfl⟩
 ·rw [q4]at hx
  have hi:i=0:=by
   cases i with
   |zero=>rfl
   |succ i=>simp at hx
  subst hi
  simp only [List.getElem?_cons_zero,Option.some.injEq]at hx
  subst hx
  have e1:(qX d 0 (.w (some true) es)).2.2=[]:=rfl
  have e2:(qX d 0 (.w (some true) es)).1= .w (some true) es:=rfl
  rw [e1,e2,q4]
  exact ⟨E.drop d,_,rfl,rfl,hdrop,⟨hf.sz,hσ1,⟨co,cr,.inl ⟨b,ents,clk,es,q1,q2,q3,rfl,q5⟩,hrest,rfl⟩,(hf.g.drop d).le hle1⟩,hle1⟩
 ·rw [hn2]at hx;simp at hx
 obtain ⟨yv,d0,d1,d2,e1,hs1,hl1,ho1,hr0,hr1,hr2,rfl⟩:=qgk hr hx
 obtain ⟨E2,cO,hn,hzz,hTO,hleO⟩:=qf2 (d:=d) (j:=0) (fun i _=>Qp E d i) hr1
 have hcl:=qnO d 0 x
 have hidx:i < ob.2.length:=(List.getElem?_eq_some_iff.1 hx).1
 have hR:=qjw hx (yN hr0 (hn.mono _)) hs1 (by rw [hcl];exact hl1) ho1 hzz (yN hr2 (hn.mono _))
 have hseg:(seg cells base (ob.2.length*ob.1)).take (i*ob.1)++yv.cells.toList++(seg cells base (ob.2.length*ob.1)).drop (i*ob.1+ob.1)=seg cells base (ob.2.length*ob.1):=by
  rw [← e1,List.append_assoc, ← List.drop_drop,List.take_append_drop,List.take_append_drop]
 rw [hseg]at hR
 have hO:xQ E2 k (ob.1,ob.2.set i (qX d 0 x).1) (qh (qA b) (qh (qh d0 c0) d2)):=
  .inr (.inr ⟨b,base,lim,cells,ty,fz,_,hn.hμ _ _ hμ,by rw [hn.hw];exact hw,hl,hf',by simpa using hs,by simpa using hR,rfl⟩)
 have hTT:qq E2 ((qX d 0 x).2.2++((k,ob.1,ob.2.set i (qX d 0 x).1)::qE (zr d st).T k)) (qh cO (qh (qh (qA b) (qh (qh d0 c0) d2)) cr)):=
  ke hTO ⟨_,_,hO,yo hrest (hn.mono _),rfl⟩
 have hcle:cle (qh cO (qh (qh (qA b) (qh (qh d0 c0) d2)) cr)) c:=by
  intro z
  have q1:=hle1 z;have q2:=hleO z
  simp only [qh,c0]at*;omega
 exact ⟨E2,_,hn.hw,hn.hI,fun k hk=>by rw [hn.hout k (fun h=>hk h)];exact hdrop k hk,⟨hf.sz,jc hσ1 (hn.mono _),hTT,ZO hn.hw hn.hI hcle (hf.g.drop d)⟩,hcle⟩
theorem qcV {N n:Nat}: ∀ (os:List (Nat × Key × Nat)) {E:Env} {st:St} {tmps:Array Value} {c:Cnt},(os.all fun o=>decide (n≤o.1))=true→FRel N E st tmps c→
 ∃ E' c',E'.w=E.w∧E'.I=E.I∧KN n E E'∧FRel N E' (kY os st) tmps c'∧cle c' c
 |[],E,st,tmps,c,_,hf=>⟨E,c,rfl,rfl,KN.refl,hf,za _⟩
 |(d,k,i)::os,E,st,tmps,c,ho,hf=>by
  simp only [List.all_cons,Bool.and_eq_true,decide_eq_true_eq]at ho
  obtain ⟨E1,c1,h1,h2,h3,h4,h5⟩:=qxJ d k i hf
  obtain ⟨E2,c2,g1,g2,g3,g4,g5⟩:=qcV os ho.2 h4
  exact ⟨E2,c2,g1.trans h1,g2.trans h2,KN.trans (fun k hk=>h3 k (by omega)) g3,g4,yZ g5 h5⟩
theorem ql7(n:Nat) (σ:Sl) (d r:Nat) (i:Option Nat) (h:n≤d):((jL σ d r i).all fun o=>decide (n≤o.1))=true:=by
 unfold jL
 split
 ·split<;>simp [h]
 ·split
  ·split
   ·simp [h]
   ·rfl
  ·rfl
 ·rfl
theorem qse(n:Nat) (st:St) (d r:Nat) (i:Option Nat) (h:n≤d):((XI st d r i).all fun o=>decide (n≤o.1))=true:=by
 unfold XI
 split
 ·rfl
 ·split
  ·split
   ·split
    ·simp [h]
    ·rfl
   ·rfl
  ·rfl
theorem qja {N n:Nat}: ∀ (os:List (Nat × Nat × Option Nat)) {E:Env} {st:St} {tmps:Array Value} {c:Cnt},(os.all fun o=>decide (n≤o.1))=true→FRel N E st tmps c→
 ∃ E' c',E'.w=E.w∧E'.I=E.I∧KN n E E'∧FRel N E' (Qx os st) tmps c'∧cle c' c
 |[],E,st,tmps,c,_,hf=>⟨E,c,rfl,rfl,KN.refl,hf,za _⟩
 |(d,r,none)::os,E,st,tmps,c,ho,hf=>by
  simp only [List.all_cons,Bool.and_eq_true,decide_eq_true_eq]at ho
  obtain ⟨E1,c1,h1,h2,h3,h4,h5⟩:=qcV (jL st.σ d r none) (ql7 n st.σ d r none ho.1) hf
  obtain ⟨E2,c2,g1,g2,g3,g4,g5⟩:=qja os ho.2 h4
  exact ⟨E2,c2,g1.trans h1,g2.trans h2,KN.trans h3 g3,g4,yZ g5 h5⟩
 |(d,r,some i)::os,E,st,tmps,c,ho,hf=>by
  simp only [List.all_cons,Bool.and_eq_true,decide_eq_true_eq]at ho
  obtain ⟨E0,c0',f1,f2,f3,f4,f5⟩:=qcV (XI st d r (some i)) (qse n st d r (some i) ho.1) hf
  obtain ⟨E1,c1,h1,h2,h3,h4,h5⟩:=qcV (jL st.σ d r (some i)) (ql7 n st.σ d r (some i) ho.1) f4
  obtain ⟨E2,c2,g1,g2,g3,g4,g5⟩:=qja os ho.2 h4
  exact ⟨E2,c2,g1.trans (h1.trans f1),g2.trans (h2.trans f2),KN.trans f3 (KN.trans h3 g3),g4,yZ g5 (yZ h5 f5)⟩
end Go.Vm
namespace Go.Vm
variable [Lay]
section
variable (P:Program) (N n:Nat)
def trC:Code→AC→Option AC
 |code,.opn os hx=>match trC code hx with
  |some x'=>if (os.all fun o=>decide (n≤o.1))=true then some (.opn os x')else none
  |none=>none
 |code,.opd os hx=>match trC code hx with
  |some x'=>if (os.all fun o=>decide (n≤o.1))=true then some (.opd os x')else none
  |none=>none
 |code,.nam ls ks hx=>match trC code hx with
  |some x'=>if n≤CN then some (.nam ls ks x')else none
  |none=>none
 |code,.keep ls hx=>match trC code hx with
  |some x'=>some (.keep ls x')
  |none=>none
 | .skip,.skip=>some .skip
 | .ret,.ret=>some .ret
 | .exit id,.exit _=>some (.exit id)
 | .region _ ops false,.reg hs=>(kF P N n ops ops.toList hs).map .reg
 | .region _ ops true,.dreg plan hs=>match kF P N n ops ops.toList hs with
   |some is=>if dOk P n ops plan hs is then some (.dreg plan is)else none
   |none=>none
 | .seq x y,.seq hx hy=>match trC x hx,trC y hy with
   |some x',some y'=>some (.seq x' y')
   |_,_=>none
 | .cond c x y,.cond hc hx hy=>match trO c hc,trC x hx,trC y hy with
   |some c',some x',some y'=>some (.cond c' x' y')
   |_,_,_=>none
 | .block id x,.block _ hx=>match trC x hx with
   |some x'=>some (.block id x')
   |none=>none
 | .loop x,.loop ls ks hx=>match trC x hx with
   |some x'=>if n≤CN then some (.loop ls ks x')else none
   |none=>none
 |_,_=>none
end
section
variable {P:Program} {N n:Nat} {E:Env} {c:Cnt} {st st':St} {a:Act} {call:ze}
theorem Adv.seq {E E' E'':Env} {c c' c'':Cnt} (h:Adv E c E' c') (h':Adv E' c' E'' c''):Adv E c E'' c'':=h.trans h'
theorem qll(hC:Qe P call) (ops:Array Oper) {Q:Exit→Act→World→Prop}: ∀ (os:List Oper) (k:Nat) (hs is:List AI) (st:St) (a:Act) (E:Env) (c:Cnt),
 ops.toList.drop k=os→kF P N n ops os hs=some is→xn call is st=some st'→FRel N E st a.tmps c→(∀ a' E' c',FRel N E' st' a'.tmps c'→a'.defers=a.defers→KN n E E'→Adv E c E' c'→Q .normal a' E'.w)→
 wpOps P ops Q (List.range' k os.length) a E.w
 |[],k,hs,is,st,a,E,c,hd,ht,hr,hf,hQ=>by
  cases hs with
  |cons=>simp [kF]at ht
  |nil=>
   simp only [kF,Option.some.injEq]at ht;subst ht
   simp only [xn,Option.some.injEq]at hr;subst hr
   simp only [List.length_nil,List.range'_zero,wpOps]
   exact hQ a E c hf rfl KN.refl (Adv.refl _ _)
 |o::os,k,hs,is,st,a,E,c,hd,ht,hr,hf,hQ=>by
  cases hs with
  |nil=>simp [kF]at ht
  |cons h hs=>
   simp only [kF]at ht
   split at ht
   case h_2=>cases ht
   rename_i i is' h1 h2
   simp only [Option.some.injEq]at ht;subst ht
   simp only [xn]at hr
   split at hr
   case h_2=>cases hr
   rename_i st1 hst1
   have hk:ops[k]? =some o:=by
    have:(ops.toList.drop k)[0]? =some o:=by rw [hd];rfl
    simpa using this
   have hd':ops.toList.drop (k+1)=os:=by
    rw [← List.drop_drop,hd];rfl
   simp only [List.length_cons,List.range'_succ,wpOps,hk]
   refine qpY hC h1 hst1 hf ?_
   intro y E' c' hF hkn hkp hA
   refine qll hC ops os (k+1) hs is' st1 (a.put o.dst y) E' c' hd' h2 hr hF ?_
   intro a'' E'' c'' hF' hdf' hkn' hA'
   exact hQ a'' E'' c'' hF' (hdf'.trans (qof _ _ _)) (hkn.trans hkn') (hA.seq hA')
def xOf:AX→Exit
 | .normal=> .normal
 | .exit id=> .exit id
 | .ret=> .ret
def QM(n N:Nat) (E:Env) (c:Cnt) (st':St) (a:Act) (x:AX):Exit→Act→World→Prop:=
 fun e a' w'=>e=xOf x∧a'.defers=a.defers∧ ∃ E' c',E'.w=w'∧FRel N E' st' a'.tmps c'∧KN n E E'∧Adv E c E' c'
theorem QM.then {E E':Env} {c c':Cnt} {a a':Act} {x:AX} {e:Exit} {a'':Act} {w:World} (h:QM n N E' c' st' a' x e a'' w) (hd:a'.defers=a.defers) (hk:KN n E E') (hA:Adv E c E' c'):
 QM n N E c st' a x e a'' w:=by
 obtain ⟨h1,h2,E'',c'',h3,h4,h5,h6⟩:=h
 exact ⟨h1,h2.trans hd,E'',c'',h3,h4,hk.trans h5,hA.seq h6⟩
theorem qlf(hC:Qe P call): ∀ (f:Nat),
 (∀ (code:Code) (h ac:AC) (st st':St) (x:AX),trC P N n code h=some ac→qu call f ac st=some (x,st')→
  ∀ (a:Act) (E:Env) (c:Cnt),FRel N E st a.tmps c→code.wp P (QM n N E c st' a x) a E.w)∧
 (∀ (body:Code) (ls:List Nat) (ks:List Key) (h ac:AC) (st st':St) (x:AX),n≤CN→trC P N n body h=some ac→qu call f (.loop ls ks ac) st=some (x,st')→
  ∀ (a:Act) (E:Env) (c:Cnt),FRel N E st a.tmps c→Code.rounds P body (QM n N E c st' a x) f a E.w)
 |0=>⟨fun code h ac st st' x ht hr=>by simp [qu]at hr,fun body ls ks h ac st st' x hn ht hr=>by simp [qu]at hr⟩
 |f+1=>by
  have IH:=qlf hC f
  have hloop: ∀ (body:Code) (ls:List Nat) (ks:List Key) (h ac:AC) (st st':St) (x:AX),n≤CN→trC P N n body h=some ac→qu call (f+1) (.loop ls ks ac) st=some (x,st')→
   ∀ (a:Act) (E:Env) (c:Cnt),FRel N E st a.tmps c→Code.rounds P body (QM n N E c st' a x) (f+1) a E.w:=by
   intro body ls ks h ac st st' x hn ht hr a E0 c hf
   rw [rounds_succ]
   simp only [qu]at hr
   obtain ⟨E,c1,hw0,hI0,hμ0,hp,hle⟩:=qod (tmps:=a.tmps) ls ks hf
   have hA0:Adv E0 c E c1:=QV hw0 hI0 hle
   have hk0:KN n E0 E:=fun k hk=>hμ0 k (by omega)
   rw [← hw0]
   split at hr
   ·rename_i st1 h1
    refine wp_mono (IH.1 _ _ _ _ _ _ ht h1 a E c1 hp) ?_
    rintro e a' w' ⟨rfl,hdf,E',c',rfl,hF,hk,hA⟩
    simp only [xOf,Exit.then]
    have:=IH.2 body ls ks h ac st1 st' x hn ht hr a' E' c' hF
    have hmono: ∀ (m:Nat) (a1:Act) (w1:World),Code.rounds P body (QM n N E' c' st' a' x) m a1 w1→Code.rounds P body (QM n N E0 c st' a x) m a1 w1:=by
     intro m
     induction m with
     |zero=>intro a1 w1 h;exact h.elim
     |succ m ih=>
      intro a1 w1 h
      rw [rounds_succ]at h ⊢
      refine wp_mono h ?_
      intro e a2 w2 hq
      cases e<;>simp only [Exit.then]at hq ⊢ <;>(first|exact ih _ _ hq|exact hq.then hdf (hk0.trans hk) (hA0.seq hA))
    exact hmono _ _ _ this
   ·rename_i r hnn
    have hb:=IH.1 _ _ _ _ _ _ ht hr a E c1 hp
    refine wp_mono hb ?_
    rintro e a' w' ⟨rfl,hdf,E',c',rfl,hF,hk,hA⟩
    have hx:x ≠ .normal:=by rintro rfl;exact hnn _ hr
    cases x with
    |normal=>exact absurd rfl hx
    |exit id=>exact ⟨rfl,hdf,E',c',rfl,hF,hk0.trans hk,hA0.seq hA⟩
    |ret=>exact ⟨rfl,hdf,E',c',rfl,hF,hk0.trans hk,hA0.seq hA⟩
  refine ⟨?_,hloop⟩
  intro code h ac st st' x ht hr a E c hf
  have hself:QM n N E c st a .normal .normal a E.w:=⟨rfl,rfl,E,c,rfl,hf,KN.refl,Adv.refl _ _⟩
  unfold trC at ht
  split at ht
  ·rename_i os hx
   split at ht
   case h_2=>cases ht
   rename_i x' h1
   split at ht
   case isFalse=>cases ht
   rename_i ho
   simp only [Option.some.injEq]at ht;subst ht
   simp only [qu]at hr
   obtain ⟨E1,c1,hw0,hI0,hk0,hF,hle⟩:=qcV (n:=n) os ho hf
   rw [← hw0]
   refine wp_mono (IH.1 _ _ _ _ _ _ h1 hr a E1 c1 hF) ?_
   intro e a' w' hq
   exact hq.then rfl hk0 (QV hw0 hI0 hle)
  ·rename_i os hx
   split at ht
   case h_2=>cases ht
   rename_i x' h1
   split at ht
   case isFalse=>cases ht
   rename_i ho
   simp only [Option.some.injEq]at ht;subst ht
   simp only [qu]at hr
   obtain ⟨E1,c1,hw0,hI0,hk0,hF,hle⟩:=qja (n:=n) os ho hf
   rw [← hw0]
   refine wp_mono (IH.1 _ _ _ _ _ _ h1 hr a E1 c1 hF) ?_
   intro e a' w' hq
   exact hq.then rfl hk0 (QV hw0 hI0 hle)
  ·rename_i ls ks hx
   split at ht
   case h_2=>cases ht
   rename_i x' h1
   split at ht
   case isFalse=>cases ht
   rename_i ho
   simp only [Option.some.injEq]at ht;subst ht
   simp only [qu]at hr
   obtain ⟨E1,c1,hw0,hI0,hk0,hF,hle⟩:=qod (tmps:=a.tmps) ls ks hf
   rw [← hw0]
   refine wp_mono (IH.1 _ _ _ _ _ _ h1 hr a E1 c1 hF) ?_
   intro e a' w' hq
   exact hq.then rfl (fun k hk=>hk0 k (by omega)) (QV hw0 hI0 hle)
  ·split at ht
   case h_2=>cases ht
   rename_i x' h1
   simp only [Option.some.injEq]at ht;subst ht
   simp only [qu]at hr
   exact IH.1 _ _ _ _ _ _ h1 hr a E c ⟨hf.sz,qpg hf.σ _,hf.T,hf.g⟩
  ·simp only [Option.some.injEq]at ht;subst ht
   simp only [qu,Option.some.injEq,Prod.mk.injEq]at hr
   obtain ⟨rfl,rfl⟩:=hr
   exact wp_skip hself
  ·simp only [Option.some.injEq]at ht;subst ht
   simp only [qu,Option.some.injEq,Prod.mk.injEq]at hr
   obtain ⟨rfl,rfl⟩:=hr
   exact wp_ret ⟨rfl,rfl,E,c,rfl,hf,KN.refl,Adv.refl _ _⟩
  ·simp only [Option.some.injEq]at ht;subst ht
   simp only [qu,Option.some.injEq,Prod.mk.injEq]at hr
   obtain ⟨rfl,rfl⟩:=hr
   exact wp_exit ⟨rfl,rfl,E,c,rfl,hf,KN.refl,Adv.refl _ _⟩
  ·rename_i id ops hs
   rw [Option.map_eq_some_iff]at ht
   obtain ⟨is,h1,rfl⟩:=ht
   simp only [qu,Option.map_eq_some_iff,Prod.mk.injEq]at hr
   obtain ⟨st1,h2,rfl,rfl⟩:=hr
   refine wp_region ?_
   have:=qll (Q:=QM n N E c st1 a .normal) hC ops ops.toList 0 hs is st a E c rfl h1 h2 hf ?_
   ·rw [Array.length_toList, ← List.range_eq_range']at this
    exact this
   ·intro a' E' c' hF hdf hk hA
    exact ⟨rfl,hdf,E',c',rfl,hF,hk,hA⟩
  ·rename_i id ops plan hs
   split at ht
   case h_2=>cases ht
   rename_i is h1
   split at ht
   case isFalse=>cases ht
   rename_i hk
   simp only [Option.some.injEq]at ht;subst ht
   simp only [qu]at hr
   split at hr
   case h_2=>cases hr
   rename_i st1 h2
   split at hr
   case isFalse=>cases hr
   rename_i hnd
   simp only [Option.some.injEq,Prod.mk.injEq]at hr
   obtain ⟨rfl,rfl⟩:=hr
   exact qsc hC hk h1 h2 hnd hf fun a' E' c' hF hdf hk hA=>⟨rfl,hdf,E',c',rfl,hF,hk,hA⟩
  ·rename_i cx cy hx hy
   split at ht
   case h_2=>cases ht
   rename_i x' y' h1 h2
   simp only [Option.some.injEq]at ht;subst ht
   simp only [qu]at hr
   refine wp_seq ?_
   split at hr
   ·rename_i st1 h3
    refine wp_mono (IH.1 _ _ _ _ _ _ h1 h3 a E c hf) ?_
    rintro e a' w' ⟨rfl,hdf,E',c',rfl,hF,hk,hA⟩
    simp only [xOf,Exit.then]
    exact wp_mono (IH.1 _ _ _ _ _ _ h2 hr a' E' c' hF) fun e a2 w2 hq=>hq.then hdf hk hA
   ·rename_i r hnn
    refine wp_mono (IH.1 _ _ _ _ _ _ h1 hr a E c hf) ?_
    intro e a' w' hq
    have hx:x ≠ .normal:=by rintro rfl;exact hnn _ hr
    have he:=hq.1
    cases x with
    |normal=>exact absurd rfl hx
    |exit id=>subst he;exact hq
    |ret=>subst he;exact hq
  ·rename_i cc cx cy hc hx hy
   split at ht
   case h_2=>cases ht
   rename_i c' x' y' h0 h1 h2
   simp only [Option.some.injEq]at ht;subst ht
   simp only [qu]at hr
   split at hr
   ·rename_i hb
    have:=qK hf.σ h0 hb
    simp only [Rel]at this
    exact wp_cond_true this.1 (IH.1 _ _ _ _ _ _ h1 hr a E c hf)
   ·rename_i hb
    have:=qK hf.σ h0 hb
    simp only [Rel]at this
    exact wp_cond_false this.1 (IH.1 _ _ _ _ _ _ h2 hr a E c hf)
   ·cases hr
  ·rename_i id cx id' hx
   split at ht
   case h_2=>cases ht
   rename_i x' h1
   simp only [Option.some.injEq]at ht;subst ht
   simp only [qu]at hr
   refine wp_block ?_
   split at hr
   ·rename_i id2 st1 h3
    refine wp_mono (IH.1 _ _ _ _ _ _ h1 h3 a E c hf) ?_
    rintro e a' w' ⟨rfl,hdf,E',c',rfl,hF,hk,hA⟩
    simp only [xOf,Exit.inBlock]
    split at hr
    ·rename_i he
     simp only [Option.some.injEq,Prod.mk.injEq]at hr
     obtain ⟨rfl,rfl⟩:=hr
     rw [if_pos he]
     exact ⟨rfl,hdf,E',c',rfl,hF,hk,hA⟩
    ·rename_i he
     simp only [Option.some.injEq,Prod.mk.injEq]at hr
     obtain ⟨rfl,rfl⟩:=hr
     rw [if_neg he]
     exact ⟨rfl,hdf,E',c',rfl,hF,hk,hA⟩
   ·rename_i r hnn
    refine wp_mono (IH.1 _ _ _ _ _ _ h1 hr a E c hf) ?_
    intro e a' w' hq
    have he:=hq.1
    cases x with
    |normal=>subst he;exact hq
    |exit id=>exact absurd hr (hnn _ _)
    |ret=>subst he;exact hq
  ·rename_i cx ls ks hx
   split at ht
   case h_2=>cases ht
   rename_i x' h1
   split at ht
   case isFalse=>cases ht
   rename_i hn
   simp only [Option.some.injEq]at ht;subst ht
   exact wp_loop_rounds (f+1) (hloop cx ls ks hx x' st st' x hn h1 hr a E c hf)
  ·cases ht
end
end Go.Vm
namespace Go.Vm
variable [Lay]
def jC(P:Program):List ResultVar→Option (List AR)
 |[]=>some []
 | .tmp t::r=>(jC P r).map (.tmp t:: ·)
 | .cell a t::r=>kZ (j5 P t) (jC P r) fun q rs=> .cell a q.1 q.2::rs
def qi(P:Program) (fn:Func) (h:AF):Option AF:=
 match fn.body with
 |some code=>match trC P fn.ntmps h.nargs code h.body,jC P fn.results.toList with
  |some b,some rs=>if decide (h.nargs≤fn.ntmps)&&fn.name != "runtime.NumGoroutine" then some {nargs:=h.nargs,ntmps:=fn.ntmps,res:=rs,body:=b} else none
  |_,_=>none
 |none=>none
def QP(P:Program) (prog:Nat→Option AE):Prop:=
 ∀ f e,prog f=some e→match e with
  | .fn af=> ∃ fn h,P.funcs[f]? =some fn∧qi P fn h=some af
  | .prim g=> ∀ args r outs,g args=some (r,outs)→Xo P f args r outs
section
variable {P:Program} {N n:Nat} {E:Env} {c:Cnt} {st st':St} {a:Act} {call:ze}
theorem qnP: ∀ (xs:List V) (i:Nat) (E:Env) (vs:List Value) (c:Cnt),(∀ k:Key,i≤k.1→E.μ k=none)→qk E xs vs c→
 ∃ E' c',E'.w=E.w∧E'.I=E.I∧(∀ k l,E.μ k=some l→E'.μ k=some l)∧(∀ k:Key,i+xs.length≤k.1→E'.μ k=none)∧
  qk E' (zq i xs).1 vs c0∧qq E' (zq i xs).2 c'∧cle c' c
 |[],i,E,vs,c,hf,h=>by
  simp only [qk]at h
  exact ⟨E,c0,rfl,rfl,fun _ _ h=>h,fun k hk=>hf k (by simpa using hk),by simp only [zq,qk];exact ⟨h.1,trivial⟩,rfl,fun _=>Nat.zero_le _⟩
 |x::xs,i,E,vs,c,hf,h=>by
  simp only [qk]at h
  obtain ⟨y,t,c1,c2,rfl,h1,h2,rfl⟩:=h
  obtain ⟨E1,d1,j',hn,hr1,ht1,hl1⟩:=qjb (d:=i) (fun j=>hf (i,j) (Nat.le_refl _)) h1
  obtain ⟨E2,d2,hw2,hI2,hμ2,hfree2,hr2,ht2,hl2⟩:=qnP xs (i+1) E1 t c2 (fun k hk=>by rw [hn.hout k (by omega)];exact hf k (by omega)) (x9 h2 (hn.mono _))
  have hm: ∀ c,Mono E1 E2 c:=fun c=>⟨fun τ b hb=>⟨by rw [hI2];exact hb,by rw [hw2]⟩,fun b _=>by rw [hw2],hμ2⟩
  refine ⟨E2,qh d1 d2,hw2.trans hn.hw,hI2.trans hn.hI,fun k l hk=>hμ2 k l (hn.hμ k l hk),fun k hk=>hfree2 k (by simp only [List.length_cons]at hk;omega), ?_, ?_,kN hl1 hl2⟩
  ·simp only [zq,qk]
   exact ⟨y,t,c0,c0,rfl,y7 hr1 (hm _),hr2,rfl⟩
  ·simp only [zq]
   exact ke (yo ht1 (hm _)) ht2
theorem qmy: ∀ (xs:List V) (i t:Nat) (x:V),qF (xO i xs) t=some x→ ∃ j,t=i+j∧xs[j]? =some x
 |[],i,t,x,h=>by simp [xO,qF]at h
 |y::ys,i,t,x,h=>by
  simp only [xO,qF]at h
  split at h
  ·rename_i he;subst he
   exact ⟨0,rfl,by simpa using h⟩
  ·obtain ⟨j,h1,h2⟩:=qmy ys (i+1) t x h
   exact ⟨j+1,by omega,by simpa using h2⟩
theorem qAO {xs:List V} {vs:List Value} {rest:Array Value} (h:qk E xs vs c0):zS E (xO 0 xs) (vs.toArray++rest):=by
 intro t x hx
 obtain ⟨j,rfl,hj⟩:=qmy xs 0 t x hx
 obtain ⟨y,c1,c2,hy,hr,hc,-⟩:=qge h hj
 have h0:c1=c0:=funext fun b=>by have:=congrFun hc b;simp only [c0,qh]at this ⊢;omega
 subst h0
 have hlt:j < vs.length:=(List.getElem?_eq_some_iff.1 hy).1
 refine ⟨y, ?_,hr⟩
 rw [Nat.zero_add,Array.getElem?_append_left (by simpa using hlt)]
 simpa using hy
theorem qAw {r:ResultVar} {x:V} {T T':Mem} {tmps:Array Value} {ar:AR} {cT:Cnt} (hr:jC P [r]=some [ar]) (hσ:zS E st.σ tmps) (hT:qq E T cT) (h:Zh {σ:=st.σ,T:=T} ar=some (x,T')):
 ∃ v d1 d2,((match r with
  | .tmp t=>pure (tmps.getD t undef)
  | .cell a t=>do loadVar t (← asAddr (tmps.getD a undef))):Sem Value).run P E.w= .ok v E.w∧Rel E x v d1∧qq E T' d2∧cle (qh d1 d2) cT:=by
 cases r with
 |tmp t=>
  simp only [jC,Option.map_some,Option.some.injEq,List.cons.injEq,and_true]at hr
  subst hr
  simp only [Zh,Option.map_eq_some_iff,Prod.mk.injEq]at h
  obtain ⟨y,hy,rfl,rfl⟩:=h
  obtain ⟨v,hv,hrv⟩:=hσ _ _ hy
  refine ⟨v,c0,cT, ?_,hrv,hT,by rw [zo];exact za _⟩
  simp only [Sem.run_pure,Array.getD_eq_getD_getElem?,hv,Option.getD_some]
 |cell a t=>
  simp only [jC]at hr
  obtain ⟨q,rs,hq,hrs,he⟩:=Zb hr
  simp only [Option.some.injEq]at hrs
  subst hrs
  simp only [List.cons.injEq,and_true]at he
  subst he
  simp only [Zh]at h
  split at h
  case h_2=>cases h
  rename_i k hk
  split at h
  case h_2=>cases h
  rename_i e0 xe hg
  rw [Option.bind_eq_some_iff]at h
  obtain ⟨y,hy,h⟩:=h
  split at h
  case isFalse=>cases h
  rename_i hlen
  simp only [Option.some.injEq,Prod.mk.injEq]at h
  obtain ⟨rfl,rfl⟩:=h
  obtain ⟨v,hv,hrv⟩:=hσ _ _ hk
  simp only [Rel]at hrv
  obtain ⟨-,b',base',e',kV,hμ',rfl⟩:=hrv
  obtain ⟨co,cr,hob,hrest,rfl⟩:=yH hT hg
  rcases hob with ⟨_,_,_,_,hn1,-⟩|⟨-,hn1,-⟩|⟨b,base,lim,cells,ty,fz,ce,hμ,hw,hl,hf,hs,hr',rfl⟩
  ·rw [hn1]at hμ';cases hμ'
  ·cases hn1
  rw [hμ]at hμ';cases hμ'
  simp only [List.length_singleton,Nat.one_mul]at hs hr'
  obtain ⟨u,hu,hus,hul,huo,hR⟩:=qc8 hr'
  obtain ⟨vz,f0,f1,f2,hz,hzl,hzle,hzc,hz0,hz2,rfl,hzT,hzF⟩:=qnc hR (by rw [hul,hus]) huo hy
  have haddr:tmps.getD a undef= .pointer (some ⟨b',base',none⟩):=by
   simp only [Array.getD_eq_getD_getElem?,hv,Option.getD_some]
   simp
  unfold j5 at hq
  split at hq
  case h_2=>cases hq
  rename_i dd i hud hi
  simp only [Option.some.injEq]at hq;subst hq
  refine ⟨vz,f1,cr, ?_,hz,hrest,fun z=>by simp only [qh];omega⟩
  simp only [haddr,asAddr,Sem.run_bind,Sem.run_pure,Result.andThen_ok]
  have hrun:=qjJ (P:=P) (w:=E.w) (t:=t) (o:=base') hud hi hw
  cases hag:Yy dd with
  |true=>
   obtain ⟨q1,q2⟩:=hzT hag
   have hsz:u.cells.size=i.size:=by omega
   rw [q2]
   have e2:u.cells.toList.take i.size=seg cells base' i.size:=by
    rw [← hu,qpp];congr 1;omega
   simp only [List.drop_zero,e2]
   exact hrun.1 hag (by omega)
  |false=>
   have q1:=hzF hag
   have h8:(seg cells base' e0)[0]? =some vz:=by rw [hu];simpa using q1
   exact hrun.2 hag vz (by simpa using Z0 h8)
theorem qo1 {tmps:Array Value} (hσ:zS E st.σ tmps): ∀ {rs:List ResultVar} {ars:List AR} {T T':Mem} {xs:List V} {cT:Cnt},jC P rs=some ars→qq E T cT→jA st.σ T ars=some (xs,T')→
 ∃ vs d1 d2,(rs.mapM fun
  | .tmp t=>pure (tmps.getD t undef)
  | .cell a t=>do loadVar t (← asAddr (tmps.getD a undef)):Sem (List Value)).run P E.w= .ok vs E.w∧qk E xs vs d1∧qq E T' d2∧cle (qh d1 d2) cT
 |[],ars,T,T',xs,cT,hr,hT,h=>by
  simp only [jC,Option.some.injEq]at hr;subst hr
  simp only [jA,Option.some.injEq,Prod.mk.injEq]at h
  obtain ⟨rfl,rfl⟩:=h
  exact ⟨[],c0,cT,by simp,by simp [qk],hT,by rw [zo];exact za _⟩
 |r::rs,ars,T,T',xs,cT,hr,hT,h=>by
  have hsplit: ∃ ar ars',ars=ar::ars'∧jC P [r]=some [ar]∧jC P rs=some ars':=by
   cases r with
   |tmp t=>
    simp only [jC,Option.map_eq_some_iff]at hr
    obtain ⟨q,h1,rfl⟩:=hr
    exact ⟨_,_,rfl,rfl,h1⟩
   |cell a t=>
    simp only [jC]at hr
    obtain ⟨q,qs,h1,h2,rfl⟩:=Zb hr
    exact ⟨_,_,rfl,by simp [jC,kZ,h1],h2⟩
  obtain ⟨ar,ars',rfl,h1,h2⟩:=hsplit
  simp only [jA]at h
  split at h
  case h_2=>cases h
  rename_i x T1 hx
  split at h
  case h_2=>cases h
  rename_i xs' T2 hxs
  simp only [Option.some.injEq,Prod.mk.injEq]at h
  obtain ⟨rfl,rfl⟩:=h
  obtain ⟨v,d1,d2,g1,g2,g3,g4⟩:=qAw h1 hσ hT hx
  obtain ⟨vs,e1,e2,k1,k2,k3,k4⟩:=qo1 hσ h2 g3 hxs
  refine ⟨v::vs,qh d1 e1,e2, ?_, ?_,k3,fun b=>by have:=g4 b;have:=k4 b;simp only [qh]at*;omega⟩
  ·rw [List.mapM_cons,Sem.run_bind,g1,Result.andThen_ok,Sem.run_bind,k1,Result.andThen_ok]
   rfl
  ·simp only [qk];exact ⟨v,vs,d1,e1,rfl,g2,k2,rfl⟩
theorem qxD {xs:List V} {vs:List Value} (h:qk E xs vs c):Rel E (jT xs) (if h:vs.toArray.size=1 then vs.toArray[0]else .tuple vs.toArray) c:=by
 have hl:=xM h
 match xs,vs,hl,h with
 |[x],[v],_,h=>
  obtain ⟨y,h1,h2⟩:=qc6 h
  simp only [List.cons.injEq,and_true]at h1;subst h1
  simpa [jT]using h2
 |[],[],_,h=>
  simp only [qk]at h
  simp [jT,Rel,qk,h.2]
 |x::y::xs,v::u::vs,_,h=>
  simp only [jT]
  rw [dif_neg (by simp)]
  simp only [Rel]
  exact ⟨_,rfl,by simpa using h⟩
theorem qAK {g:ResultVar→Sem Value} {l:Array ResultVar} {w:World} {vs:List Value} (h:(l.toList.mapM g).run P w= .ok vs w):(l.mapM g).run P w= .ok vs.toArray w:=by
 rw [Array.mapM_eq_mapM_toList]
 simp only [map_eq_pure_bind,Sem.run_bind,h,Result.andThen_ok,Sem.run_pure]
theorem qk8 {prog:Nat→Option AE} (hK:QP P prog): ∀ n,Qe P (zt prog n)
 |0=>fun f xs r outs h=>by simp [zt]at h
 |n+1=>by
  have IH:=qk8 hK n
  intro f xs r outs h
  simp only [zt]at h
  split at h
  ·rename_i g hg
   have:=hK f _ hg
   exact this xs r outs h
  ·rename_i af haf
   obtain ⟨fn,hh,hfn,htr⟩:=hK f _ haf
   split at h
   case isFalse=>cases h
   rename_i hlen
   unfold qi at htr
   split at htr
   case h_2=>cases htr
   rename_i code hcode
   split at htr
   case h_2=>cases htr
   rename_i b rs hb hrs
   split at htr
   case isFalse=>cases htr
   rename_i hcond
   simp only [Bool.and_eq_true,decide_eq_true_eq,bne_iff_ne,ne_eq]at hcond
   obtain ⟨hnt,hname⟩:=hcond
   simp only [Option.some.injEq]at htr;subst htr
   simp only at hlen h
   intro E vs c hxs hg
   have hcf:(callFunc f vs.toArray).run P E.w= .ok (.enter f vs.toArray) E.w:=by
    have hne:(fn.name== "runtime.NumGoroutine")=false:=by simpa using hname
    simp [callFunc,hfn,hname,hcode]
   rw [hcf]
   refine ⟨rfl, ?_⟩
   obtain ⟨E0,c1,hw0,hI0,-,hfree,hxs0,hT0,hle0⟩:=qnP xs 0 E.cl vs c (fun k _=>rfl) hxs
   rw [Nat.zero_add]at hfree
   have hvl:=xM hxs
   have hg0:Good E0 c1:=ZO (E:=E) hw0 hI0 hle0 hg
   have hsz:(vs.toArray++Array.replicate (fn.ntmps - vs.toArray.size) undef).size=fn.ntmps:=by
    simp only [Array.size_append,List.size_toArray,Array.size_replicate];omega
   have hF:FRel fn.ntmps E0 {σ:=xO 0 (zq 0 xs).1,T:=(zq 0 xs).2} (vs.toArray++Array.replicate (fn.ntmps - vs.toArray.size) undef) c1:=
    ⟨hsz,qAO hxs0,hT0,hg0⟩
   have hA0:Adv E c E0 c1:=QV hw0 hI0 hle0
   have hfin: ∀ (x:AX) (st:St),(x= .normal∨x= .ret)→qu (zt prog n) n b {σ:=xO 0 (zq 0 xs).1,T:=(zq 0 xs).2}=some (x,st)→
    qw {nargs:=hh.nargs,ntmps:=fn.ntmps,res:=rs,body:=b} (zq 0 xs).1 st=some (r,outs)→
    Calls P f vs.toArray E.w (fun e w''=> ∃ y,e= .returned y∧ ∃ E' cr co,E'.w=w''∧Rel E'.cl r y cr∧qk E'.cl outs vs co∧Good E' (qh cr co)∧Adv E c E' (qh cr co)):=by
    intro x st hx he hfi
    refine calls_of_wp hfn hcode ?_
    rw [show E.w=E0.w from hw0.symm]
    refine wp_mono ((qlf IH n).1 code hh.body b _ st x hb he _ E0 c1 hF) ?_
    rintro e a' w' ⟨rfl,hdf,E',c',rfl,hF',hkn,hA⟩
    simp only [qw]at hfi
    split at hfi
    case h_2=>cases hfi
    rename_i vals T' hres
    simp only [Option.some.injEq,Prod.mk.injEq]at hfi
    obtain ⟨rfl,rfl⟩:=hfi
    obtain ⟨ws,d1,d2,k1,k2,k3,k4⟩:=qo1 (P:=P) hF'.σ hrs hF'.T hres
    have hres':(results fn a'.tmps).run P E'.w= .ok (if h:ws.toArray.size=1 then ws.toArray[0]else .tuple ws.toArray) E'.w:=by
     unfold results
     rw [Sem.run_bind]
     refine Eq.trans (congrArg (fun r=>Result.andThen r _) (qAK (l:=fn.results) k1)) ?_
     rfl
    obtain ⟨e1,e2,g1,g2,g3,-⟩:=JV 30 E' T' _ _ d2 d1 k3 (qxD k2)
    have hargs:qk E' (zq 0 xs).1 vs c0:=by
     refine x9 hxs0 ⟨fun τ bb hb=>⟨hA.sub τ bb hb,hA.frame bb (hg0.imm τ bb hb).2 (hg0.imm τ bb hb).1⟩,fun bb hb=>absurd rfl hb,fun k l hk=> ?_⟩
     by_cases hkk:k.1 < hh.nargs
     ·rw [hkn k hkk];exact hk
     ·rw [hfree k (by omega)]at hk;cases hk
    obtain ⟨e3,e4,g4,g5,g6⟩:=XW (JV 30) g1 hargs
    have hle:cle (qh e2 e4) c':=fun bb=>by
     have:=k4 bb;have:=g3 bb;have:=g6 bb;simp only [qh,c0]at*;omega
    have hpost:a'.defers=[]∧ ∃ v,(results fn a'.tmps).run P E'.w= .ok v E'.w∧(∃ y,Ending.returned v= .returned y∧ ∃ E'' cr co,E''.w=E'.w∧Rel E''.cl (qz 30 T' (jT vals)).1 y cr∧
     qk E''.cl (qy (qz 30) (qz 30 T' (jT vals)).2 (zq 0 xs).1).1 vs co∧Good E'' (qh cr co)∧Adv E c E'' (qh cr co)):=
     ⟨hdf,_,hres',_,rfl,E',e2,e4,rfl,g2,g5,hF'.g.le hle,(hA0.trans hA).le hle⟩
    rcases hx with rfl|rfl<;>exact hpost
   split at h
   ·rename_i st he
    exact hfin .normal st (.inl rfl) he h
   ·rename_i st he
    exact hfin .ret st (.inr rfl) he h
   ·cases h
  ·cases h
end
end Go.Vm
namespace Go.Vm
section lim
variable {α:Type}
open Classical in
noncomputable def kV(f:Nat→Option α):Option α:=if h: ∃ n,(f n).isSome then f h.choose else none
def qkn(f:Nat→Option α):Prop:= ∀ n m r,n≤m→f n=some r→f m=some r
theorem qh8 {f:Nat→Option α} (h: ∀ n r,f n=some r→f (n+1)=some r):qkn f:=by
 intro n m r hnm
 induction hnm with
 |refl=>exact id
 |step _ ih=>exact fun h'=>h _ _ (ih h')
theorem qm9 {f:Nat→Option α} (hc:qkn f) {r:α}:kV f=some r↔ ∃ n,f n=some r:=by
 unfold kV
 constructor
 ·intro h
  split at h
  ·exact ⟨_,h⟩
  ·cases h
 ·rintro ⟨n,hn⟩
  have hex: ∃ n,(f n).isSome:=⟨n,by simp [hn]⟩
  rw [dif_pos hex]
  have hs:=hex.choose_spec
  obtain ⟨r',hr'⟩:=Option.isSome_iff_exists.1 hs
  have h1:=hc _ _ _ (Nat.le_max_left n hex.choose) hn
  have h2:=hc _ _ _ (Nat.le_max_right n hex.choose) hr'
  rw [h1]at h2
  rw [hr']
  exact h2.symm
theorem jN {x y:Option α} (h: ∀ r,x=some r↔y=some r):x=y:=by
 cases x with
 |none=>cases y with
  |none=>rfl
  |some b=>exact absurd ((h b).2 rfl) (by simp)
 |some a=>exact ((h a).1 rfl).symm
end lim
def CLe(c c':ze):Prop:= ∀ f xs r,c f xs=some r→c' f xs=some r
section
variable {c c':ze} {st st':St}
theorem qsa(h:CLe c c') {d:Option Nat} {g:Nat} {xs:List V} {m:Md} (hr:kP c d g xs m st=some st'):kP c' d g xs m st=some st':=by
 unfold kP at hr ⊢
 cases m with
 |ro fz=>
  simp only at hr ⊢
  cases he:c g (jd st.T xs)with
  |none=>rw [he]at hr;cases hr
  |some r=>rw [he]at hr;rw [h _ _ _ he];exact hr
 |io fz=>
  simp only at hr ⊢
  cases he:c g (qy (qz 30) st.T xs).1 with
  |none=>rw [he]at hr;cases hr
  |some r=>rw [he]at hr;rw [h _ _ _ he];exact hr
theorem qln(h:CLe c c') {i:AI} (hr:qj c st i=some st'):qj c' st i=some st':=by
 cases i
 case call d f args m=>
  simp only [qj]at hr ⊢
  split at hr
  ·split at hr
   ·exact qsa h hr
   ·cases hr
  ·cases hr
 all_goals exact hr
theorem qix(h:CLe c c') {i:AI} (hr:qp c st i=some st'):qp c' st i=some st':=by
 cases i
 case gd j want d i=>
  simp only [qp]at hr ⊢
  split at hr
  ·split at hr
   ·rename_i hb;rw [if_pos hb];exact qln h hr
   ·rename_i hb;rw [if_neg hb];exact hr
  ·exact hr
  ·cases hr
 all_goals (simp only [qp]at hr ⊢;exact qln h hr)
theorem qcu(h:CLe c c'): ∀ {is:List AI} {st:St},xn c is st=some st'→xn c' is st=some st'
 |[],_,hr=>hr
 |i::is,st,hr=>by
  simp only [xn]at hr ⊢
  cases he:qp c st i with
  |none=>rw [he]at hr;cases hr
  |some s=>rw [he]at hr;rw [qix h he];exact qcu h hr
theorem qpI(h:CLe c c') {p:Dp} {i:AI} (hr:kd c p i st=some st'):kd c' p i st=some st':=by
 unfold kd at hr ⊢
 cases he:qp c {σ:=zL st.σ (qY i),T:=x8 st.T p.ks} i with
 |none=>rw [he]at hr;cases hr
 |some s=>rw [he]at hr;rw [qix h he];exact hr
theorem qct(h:CLe c c'): ∀ {ps:List Dp} {is:List AI} {st:St},zZ c ps is st=some st'→zZ c' ps is st=some st'
 |[],[],_,hr=>hr
 |[],_::_,_,hr=>by simp [zZ]at hr
 |_::_,[],_,hr=>by simp [zZ]at hr
 |p::ps,i::is,st,hr=>by
  simp only [zZ]at hr ⊢
  cases he:kd c p i st with
  |none=>rw [he]at hr;cases hr
  |some s=>rw [he]at hr;rw [qpI h he];exact qct h hr
theorem yd(h:CLe c c'): ∀ (n m:Nat) (code:AC) (st:St) (r:AX × St),n≤m→qu c n code st=some r→qu c' m code st=some r
 |0,_,_,_,_,_,hr=>by simp [qu]at hr
 |n+1,0,_,_,_,hle,_=>by omega
 |n+1,m+1,code,st,r,hle,hr=>by
  have hle':n≤m:=by omega
  have IH:=fun code st r=>yd h n m code st r hle'
  cases code with
  |skip=>simpa only [qu]using hr
  |ret=>simpa only [qu]using hr
  |exit id=>simpa only [qu]using hr
  |reg is=>
   simp only [qu,Option.map_eq_some_iff]at hr ⊢
   obtain ⟨s,hs,rfl⟩:=hr
   exact ⟨s,qcu h hs,rfl⟩
  |dreg plan is=>
   simp only [qu]at hr ⊢
   cases he:zZ c plan is (kg (yg plan is) st)with
   |none=>rw [he]at hr;cases hr
   |some s=>rw [he]at hr;rw [qct h he];exact hr
  |seq x y=>
   simp only [qu]at hr ⊢
   cases he:qu c n x st with
   |none=>rw [he]at hr;cases hr
   |some s=>
    rw [he]at hr;rw [IH _ _ _ he]
    obtain ⟨e,s⟩:=s
    cases e<;>first|exact IH _ _ _ hr|exact hr
  |cond a x y=>
   simp only [qu]at hr ⊢
   split at hr
   ·exact IH _ _ _ hr
   ·exact IH _ _ _ hr
   ·cases hr
  |block id x=>
   simp only [qu]at hr ⊢
   cases he:qu c n x st with
   |none=>rw [he]at hr;cases hr
   |some s=>rw [he]at hr;rw [IH _ _ _ he];exact hr
  |opn os x=>
   simp only [qu]at hr ⊢
   exact IH _ _ _ hr
  |opd os x=>
   simp only [qu]at hr ⊢
   exact IH _ _ _ hr
  |nam ls ks x=>
   simp only [qu]at hr ⊢
   exact IH _ _ _ hr
  |keep ls x=>
   simp only [qu]at hr ⊢
   exact IH _ _ _ hr
  |loop ls ks x=>
   simp only [qu]at hr ⊢
   cases he:qu c n x (kB ls ks st)with
   |none=>rw [he]at hr;cases hr
   |some s=>
    rw [he]at hr;rw [IH _ _ _ he]
    obtain ⟨e,s⟩:=s
    cases e<;>first|exact IH _ _ _ hr|exact hr
end
theorem jf(prog:Nat→Option AE): ∀ (n:Nat),CLe (zt prog n) (zt prog (n+1))
 |0=>fun f xs r h=>by simp [zt]at h
 |n+1=>by
  have IH:=jf prog n
  intro f xs r h
  rw [zt]at h ⊢
  split at h
  ·rename_i g hg;exact h
  ·rename_i af haf
   split at h
   case isFalse=>cases h
   rename_i hlen
   rw [if_pos hlen]
   cases he:qu (zt prog n) n af.body {σ:=xO 0 (zq 0 xs).1,T:=(zq 0 xs).2} with
   |none=>rw [he]at h;cases h
   |some s=>rw [he]at h;rw [yd IH n (n+1) _ _ _ (by omega) he];exact h
  ·cases h
theorem QU(prog:Nat→Option AE) {n m:Nat} (h:n≤m):CLe (zt prog n) (zt prog m):=by
 intro f xs r
 exact qh8 (f:=fun n=>zt prog n f xs) (fun n r=>jf prog n f xs r) n m r h
section
variable (prog:Nat→Option AE)
noncomputable def cw:ze:=fun f xs=>kV fun n=>zt prog n f xs
noncomputable def xw(c:AC) (st:St):Option (AX × St):=kV fun n=>qu (zt prog n) n c st
variable {prog}
theorem JX {f:Nat} {xs:List V} {r:V × List V}:cw prog f xs=some r↔ ∃ n,zt prog n f xs=some r:=
 qm9 (qh8 fun n r=>jf prog n f xs r)
theorem zJ {c:AC} {st:St} {r:AX × St}:xw prog c st=some r↔ ∃ n,qu (zt prog n) n c st=some r:=
 qm9 (qh8 fun n r=>yd (jf prog n) n (n+1) c st r (by omega))
theorem qk7(n:Nat):CLe (zt prog n) (cw prog):=fun _ _ _ h=>JX.2 ⟨n,h⟩
variable {st st':St}
theorem qr9 {d:Option Nat} {g:Nat} {xs:List V} {m:Md} (h:kP (cw prog) d g xs m st=some st'): ∃ n,kP (zt prog n) d g xs m st=some st':=by
 unfold kP at h
 cases m with
 |ro fz=>
  simp only at h
  cases he:cw prog g (jd st.T xs)with
  |none=>rw [he]at h;cases h
  |some r=>rw [he]at h;obtain ⟨n,hn⟩:=JX.1 he;exact ⟨n,by unfold kP;simp only [hn];exact h⟩
 |io fz=>
  simp only at h
  cases he:cw prog g (qy (qz 30) st.T xs).1 with
  |none=>rw [he]at h;cases h
  |some r=>rw [he]at h;obtain ⟨n,hn⟩:=JX.1 he;exact ⟨n,by unfold kP;simp only [hn];exact h⟩
theorem qlm {i:AI} (h:qj (cw prog) st i=some st'): ∃ n,qj (zt prog n) st i=some st':=by
 cases i
 case call d f args m=>
  simp only [qj]at h ⊢
  split at h
  ·rename_i f' hf
   split at h
   ·rename_i hc ha
    obtain ⟨n,hn⟩:=qr9 h
    exact ⟨n,by rw [hn]⟩
   ·cases h
  ·cases h
 all_goals exact ⟨0,h⟩
theorem qmD {i:AI} (h:qp (cw prog) st i=some st'): ∃ n,qp (zt prog n) st i=some st':=by
 cases i
 case gd j want d i=>
  simp only [qp]at h ⊢
  split at h
  ·split at h
   ·rename_i hb;obtain ⟨n,hn⟩:=qlm h;exact ⟨n,by rw [if_pos hb];exact hn⟩
   ·rename_i hb;exact ⟨0,by rw [if_neg hb];exact h⟩
  ·exact ⟨0,h⟩
  ·cases h
 all_goals (simp only [qp]at h ⊢;exact qlm h)
theorem qlk: ∀ {is:List AI} {st:St},xn (cw prog) is st=some st'→ ∃ n,xn (zt prog n) is st=some st'
 |[],_,h=>⟨0,h⟩
 |i::is,st,h=>by
  simp only [xn]at h ⊢
  cases he:qp (cw prog) st i with
  |none=>rw [he]at h;cases h
  |some s=>
   rw [he]at h
   obtain ⟨n,hn⟩:=qmD he
   obtain ⟨m,hm⟩:=qlk h
   refine ⟨max n m, ?_⟩
   rw [qix (QU prog (Nat.le_max_left n m)) hn]
   exact qcu (QU prog (Nat.le_max_right n m)) hm
theorem qB4 {p:Dp} {i:AI} (h:kd (cw prog) p i st=some st'): ∃ n,kd (zt prog n) p i st=some st':=by
 unfold kd at h
 cases he:qp (cw prog) {σ:=zL st.σ (qY i),T:=x8 st.T p.ks} i with
 |none=>rw [he]at h;cases h
 |some s=>
  rw [he]at h
  obtain ⟨n,hn⟩:=qmD he
  exact ⟨n,by unfold kd;rw [hn];exact h⟩
theorem qli: ∀ {ps:List Dp} {is:List AI} {st:St},zZ (cw prog) ps is st=some st'→ ∃ n,zZ (zt prog n) ps is st=some st'
 |[],[],_,h=>⟨0,h⟩
 |[],_::_,_,h=>by simp [zZ]at h
 |_::_,[],_,h=>by simp [zZ]at h
 |p::ps,i::is,st,h=>by
  simp only [zZ]at h ⊢
  cases he:kd (cw prog) p i st with
  |none=>rw [he]at h;cases h
  |some s=>
   rw [he]at h
   obtain ⟨n,hn⟩:=qB4 he
   obtain ⟨m,hm⟩:=qli h
   refine ⟨max n m, ?_⟩
   rw [qpI (QU prog (Nat.le_max_left n m)) hn]
   exact qct (QU prog (Nat.le_max_right n m)) hm
theorem qC0:xw prog .skip st=some (.normal,st):=zJ.2 ⟨1,rfl⟩
theorem qCY:xw prog .ret st=some (.ret,st):=zJ.2 ⟨1,rfl⟩
theorem qCR {id:Nat}:xw prog (.exit id) st=some (.exit id,st):=zJ.2 ⟨1,rfl⟩
theorem qCX {is:List AI}:xw prog (.reg is) st=(xn (cw prog) is st).map fun st=>(.normal,st):=by
 apply jN
 intro r
 rw [zJ]
 constructor
 ·rintro ⟨n,h⟩
  cases n with
  |zero=>simp [qu]at h
  |succ n=>
   simp only [qu,Option.map_eq_some_iff]at h ⊢
   obtain ⟨s,hs,rfl⟩:=h
   exact ⟨s,qcu (qk7 _) hs,rfl⟩
 ·intro h
  simp only [Option.map_eq_some_iff]at h
  obtain ⟨s,hs,rfl⟩:=h
  obtain ⟨n,hn⟩:=qlk hs
  refine ⟨n+1, ?_⟩
  simp only [qu,Option.map_eq_some_iff]
  exact ⟨s,qcu (jf prog n) hn,rfl⟩
theorem qCQ {plan:List Dp} {is:List AI}:xw prog (.dreg plan is) st=match zZ (cw prog) plan is (kg (yg plan is) st)with
 |some st=>if YI st.T then some (.normal,st)else none
 |none=>none:=by
 apply jN
 intro r
 rw [zJ]
 constructor
 ·rintro ⟨n,h⟩
  cases n with
  |zero=>simp [qu]at h
  |succ n=>
   simp only [qu]at h
   cases he:zZ (zt prog (n+1)) plan is (kg (yg plan is) st)with
   |none=>rw [he]at h;cases h
   |some s=>rw [he]at h;rw [qct (qk7 _) he];exact h
 ·intro h
  cases he:zZ (cw prog) plan is (kg (yg plan is) st)with
  |none=>rw [he]at h;cases h
  |some s=>
   rw [he]at h
   obtain ⟨n,hn⟩:=qli he
   refine ⟨n+1, ?_⟩
   simp only [qu]
   rw [qct (jf prog n) hn];exact h
theorem qCZ {x y:AC}:xw prog (.seq x y) st=match xw prog x st with
 |some (.normal,st')=>xw prog y st'
 |r=>r:=by
 apply jN
 intro r
 rw [zJ]
 constructor
 ·rintro ⟨n,h⟩
  cases n with
  |zero=>simp [qu]at h
  |succ n=>
   simp only [qu]at h
   cases he:qu (zt prog (n+1)) n x st with
   |none=>rw [he]at h;cases h
   |some s=>
    rw [he]at h
    have hx:xw prog x st=some s:=zJ.2 ⟨n+1,yd (fun _ _ _ h=>h) n (n+1) _ _ _ (by omega) he⟩
    rw [hx]
    obtain ⟨e,s⟩:=s
    cases e
    ·exact zJ.2 ⟨n+1,yd (fun _ _ _ h=>h) n (n+1) _ _ _ (by omega) h⟩
    ·exact h
    ·exact h
 ·intro h
  cases he:xw prog x st with
  |none=>rw [he]at h;cases h
  |some s=>
   rw [he]at h
   obtain ⟨n,hn⟩:=zJ.1 he
   obtain ⟨e,s⟩:=s
   cases e
   ·obtain ⟨m,hm⟩:=zJ.1 h
    refine ⟨max n m+1, ?_⟩
    simp only [qu]
    rw [yd (QU prog (by omega)) n (max n m) _ _ _ (by omega) hn]
    exact yd (QU prog (by omega)) m (max n m) _ _ _ (by omega) hm
   all_goals
    refine ⟨n+1, ?_⟩
    simp only [qu]
    rw [yd (QU prog (by omega)) n n _ _ _ (by omega) hn]
    exact h
theorem qCP {a:AO} {x y:AC}:xw prog (.cond a x y) st=match ev st.σ a with
 |some (.v (.bool true))=>xw prog x st
 |some (.v (.bool false))=>xw prog y st
 |_=>none:=by
 apply jN
 intro r
 rw [zJ]
 constructor
 ·rintro ⟨n,h⟩
  cases n with
  |zero=>simp [qu]at h
  |succ n=>
   simp only [qu]at h
   split at h
   ·rename_i hv;rw [hv];exact zJ.2 ⟨n+1,yd (fun _ _ _ h=>h) n (n+1) _ _ _ (by omega) h⟩
   ·rename_i hv;rw [hv];exact zJ.2 ⟨n+1,yd (fun _ _ _ h=>h) n (n+1) _ _ _ (by omega) h⟩
   ·cases h
 ·intro h
  split at h
  ·rename_i hv
   obtain ⟨n,hn⟩:=zJ.1 h
   exact ⟨n+1,by simp only [qu,hv];exact yd (jf prog n) n n _ _ _ (by omega) hn⟩
  ·rename_i hv
   obtain ⟨n,hn⟩:=zJ.1 h
   exact ⟨n+1,by simp only [qu,hv];exact yd (jf prog n) n n _ _ _ (by omega) hn⟩
  ·cases h
theorem qCO {id:Nat} {x:AC}:xw prog (.block id x) st=match xw prog x st with
 |some (.exit id',st')=>if id'=id then some (.normal,st')else some (.exit id',st')
 |r=>r:=by
 apply jN
 intro r
 rw [zJ]
 constructor
 ·rintro ⟨n,h⟩
  cases n with
  |zero=>simp [qu]at h
  |succ n=>
   simp only [qu]at h
   cases he:qu (zt prog (n+1)) n x st with
   |none=>rw [he]at h;cases h
   |some s=>
    rw [he]at h
    rw [zJ.2 ⟨n+1,yd (fun _ _ _ h=>h) n (n+1) _ _ _ (by omega) he⟩]
    exact h
 ·intro h
  cases he:xw prog x st with
  |none=>rw [he]at h;cases h
  |some s=>
   rw [he]at h
   obtain ⟨n,hn⟩:=zJ.1 he
   refine ⟨n+1, ?_⟩
   simp only [qu]
   rw [yd (jf prog n) n n _ _ _ (by omega) hn]
   exact h
theorem qCS {ls:List Nat} {x:AC}:xw prog (.keep ls x) st=xw prog x {σ:=zL st.σ ls,T:=st.T}:=by
 apply jN
 intro r
 rw [zJ,zJ]
 constructor
 ·rintro ⟨n,h⟩
  cases n with
  |zero=>simp [qu]at h
  |succ n=>
   simp only [qu]at h
   exact ⟨n+1,yd (fun _ _ _ h=>h) n (n+1) _ _ _ (by omega) h⟩
 ·rintro ⟨n,h⟩
  exact ⟨n+1,by simp only [qu];exact yd (jf prog n) n n _ _ _ (by omega) h⟩
theorem qCW {os:List (Nat × Key × Nat)} {x:AC}:xw prog (.opn os x) st=xw prog x (kY os st):=by
 apply jN
 intro r
 rw [zJ,zJ]
 constructor
 ·rintro ⟨n,h⟩
  cases n with
  |zero=>simp [qu]at h
  |succ n=>
   simp only [qu]at h
   exact ⟨n+1,yd (fun _ _ _ h=>h) n (n+1) _ _ _ (by omega) h⟩
 ·rintro ⟨n,h⟩
  exact ⟨n+1,by simp only [qu];exact yd (jf prog n) n n _ _ _ (by omega) h⟩
theorem qCU {ls:List Nat} {ks:List Key} {x:AC}:xw prog (.nam ls ks x) st=xw prog x (kB ls ks st):=by
 apply jN
 intro r
 rw [zJ,zJ]
 constructor
 ·rintro ⟨n,h⟩
  cases n with
  |zero=>simp [qu]at h
  |succ n=>
   simp only [qu]at h
   exact ⟨n+1,yd (fun _ _ _ h=>h) n (n+1) _ _ _ (by omega) h⟩
 ·rintro ⟨n,h⟩
  exact ⟨n+1,by simp only [qu];exact yd (jf prog n) n n _ _ _ (by omega) h⟩
theorem qCV {os:List (Nat × Nat × Option Nat)} {x:AC}:xw prog (.opd os x) st=xw prog x (Qx os st):=by
 apply jN
 intro r
 rw [zJ,zJ]
 constructor
 ·rintro ⟨n,h⟩
  cases n with
  |zero=>simp [qu]at h
  |succ n=>
   simp only [qu]at h
   exact ⟨n+1,yd (fun _ _ _ h=>h) n (n+1) _ _ _ (by omega) h⟩
 ·rintro ⟨n,h⟩
  exact ⟨n+1,by simp only [qu];exact yd (jf prog n) n n _ _ _ (by omega) h⟩
theorem qCT {ls:List Nat} {ks:List Key} {x:AC}:xw prog (.loop ls ks x) st=match xw prog x (kB ls ks st)with
 |some (.normal,st')=>xw prog (.loop ls ks x) st'
 |r=>r:=by
 apply jN
 intro r
 rw [zJ]
 constructor
 ·rintro ⟨n,h⟩
  cases n with
  |zero=>simp [qu]at h
  |succ n=>
   rw [qu]at h
   cases he:qu (zt prog (n+1)) n x (kB ls ks st)with
   |none=>rw [he]at h;cases h
   |some s=>
    rw [he]at h
    have hx:xw prog x (kB ls ks st)=some s:=zJ.2 ⟨n+1,yd (fun _ _ _ h=>h) n (n+1) _ _ _ (by omega) he⟩
    rw [hx]
    obtain ⟨e,s⟩:=s
    cases e
    ·exact zJ.2 ⟨n+1,yd (fun _ _ _ h=>h) n (n+1) _ _ _ (by omega) h⟩
    ·exact h
    ·exact h
 ·intro h
  cases he:xw prog x (kB ls ks st)with
  |none=>rw [he]at h;cases h
  |some s=>
   rw [he]at h
   obtain ⟨n,hn⟩:=zJ.1 he
   obtain ⟨e,s⟩:=s
   cases e
   ·obtain ⟨m,hm⟩:=zJ.1 h
    refine ⟨max n m+1, ?_⟩
    rw [qu]
    rw [yd (QU prog (by omega)) n (max n m) _ _ _ (by omega) hn]
    exact yd (QU prog (by omega)) m (max n m) _ _ _ (by omega) hm
   all_goals
    refine ⟨n+1, ?_⟩
    rw [qu]
    rw [yd (QU prog (by omega)) n n _ _ _ (by omega) hn]
    exact h
theorem ql5 {f:Nat} {args:List V}:cw prog f args=match prog f with
 |some (.prim g)=>g args
 |some (.fn af)=>
  if args.length=af.nargs then
   match xw prog af.body {σ:=xO 0 (zq 0 args).1,T:=(zq 0 args).2} with
   |some (.normal,st)|some (.ret,st)=>qw af (zq 0 args).1 st
   |_=>none
  else none
 |none=>none:=by
 apply jN
 intro r
 rw [JX]
 constructor
 ·rintro ⟨n,h⟩
  cases n with
  |zero=>simp [zt]at h
  |succ n=>
   rw [zt]at h
   split at h
   ·rename_i hp;rw [hp];exact h
   ·rename_i af hp
    rw [hp]
    split at h
    case isFalse=>cases h
    rename_i hlen
    show (if args.length=af.nargs then _ else _)=_
    rw [if_pos hlen]
    cases he:qu (zt prog n) n af.body {σ:=xO 0 (zq 0 args).1,T:=(zq 0 args).2} with
    |none=>rw [he]at h;cases h
    |some s=>
     rw [he]at h
     rw [zJ.2 ⟨n,he⟩];exact h
   ·cases h
 ·intro h
  split at h
  ·rename_i hp;exact ⟨1,by rw [zt,hp];exact h⟩
  ·rename_i af hp
   split at h
   case isFalse=>cases h
   rename_i hlen
   cases he:xw prog af.body {σ:=xO 0 (zq 0 args).1,T:=(zq 0 args).2} with
   |none=>rw [he]at h;cases h
   |some s=>
    obtain ⟨n,hn⟩:=zJ.1 he
    refine ⟨n+1, ?_⟩
    rw [zt,hp]
    simp only [if_pos hlen]
    rw [he]at h
    rw [hn];exact h
  ·cases h
end
end Go.Vm
namespace Go.Vm
def I(n:Int):V:= .v (.int .i64 n)
def U8(n:Int):V:= .v (.int .u8 n)
def U32(n:Int):V:= .v (.int .u32 n)
def B(b:Bool):V:= .v (.bool b)
def S(l:List UInt8):V:= .v (.string ⟨l.toArray⟩)
def Fc(g:Nat):V:= .f (.func g) [] []
def w64(n:Int):Int:=IntKind.i64.wrap n
theorem qm {n:Int} (h1: -9223372036854775808≤n) (h2:n < 9223372036854775808):w64 n=n:=by
 have h: ∀ m:Int,m=n % 18446744073709551616→(if (true&&decide (m ≥ 9223372036854775808))=true then m - 18446744073709551616 else m)=n:=by
  intro m hm
  simp only [Bool.true_and,decide_eq_true_eq]
  split<;>omega
 exact h _ rfl
def jl(r:Option (AX × St)) (k:St→Option (AX × St)):Option (AX × St):=
 match r with
 |some (.normal,st)=>k st
 |r=>r
def jm {α:Type} (r:Option St) (k:St→Option α):Option α:=
 match r with
 |some st=>k st
 |none=>none
def qr {α:Type} (r:Option V) (k:V→Option α):Option α:=
 match r with
 |some y=>k y
 |none=>none
def ZL {α:Type} (r:Option Mem) (k:Mem→Option α):Option α:=
 match r with
 |some y=>k y
 |none=>none
def yC {α:Type} (r:Option (List V)) (k:List V→Option α):Option α:=
 match r with
 |some y=>k y
 |none=>none
def qfC {α:Type} (r:Option V) (x y:α) (z:α):α:=
 match r with
 |some (.v (.bool true))=>x
 |some (.v (.bool false))=>y
 |_=>z
def YK(id:Nat) (r:Option (AX × St)):Option (AX × St):=
 match r with
 |some (.exit id',st')=>if id'=id then some (.normal,st')else some (.exit id',st')
 |r=>r
def Q5 {α:Type} (r:Option (AX × St)) (k:St→Option α):Option α:=
 match r with
 |some (.normal,st)|some (.ret,st)=>k st
 |_=>none
@[congr] theorem qKl {r r':Option (AX × St)} {k:St→Option (AX × St)} (h:r=r'):jl r k=jl r' k:=by rw [h]
@[congr] theorem qKx {α:Type} {r r':Option St} {k:St→Option α} (h:r=r'):jm r k=jm r' k:=by rw [h]
@[congr] theorem qKB {α:Type} {r r':Option V} {k:V→Option α} (h:r=r'):qr r k=qr r' k:=by rw [h]
@[congr] theorem qKi {α:Type} {r r':Option Mem} {k:Mem→Option α} (h:r=r'):ZL r k=ZL r' k:=by rw [h]
@[congr] theorem qKf {α:Type} {r r':Option (List V)} {k:List V→Option α} (h:r=r'):yC r k=yC r' k:=by rw [h]
@[congr] theorem qMr {α:Type} {r r':Option V} {x y z:α} (h:r=r'):qfC r x y z=qfC r' x y z:=by rw [h]
@[congr] theorem qN2 {α:Type} {r r':Option (AX × St)} {k:St→Option α} (h:r=r'):Q5 r k=Q5 r' k:=by rw [h]
section
variable {α:Type} {k:St→Option (AX × St)} {st:St} {id id':Nat}
@[go_sem] theorem qKp:jl (some (.normal,st)) k=k st:=(rfl)
@[go_sem] theorem qKq:jl (some (.ret,st)) k=some (.ret,st):=(rfl)
@[go_sem] theorem qKm:jl (some (.exit id,st)) k=some (.exit id,st):=(rfl)
@[go_sem] theorem qKo:jl none k=none:=(rfl)
@[go_sem] theorem qKn {p:Prop} [Decidable p] {a b:Option (AX × St)}:jl (if p then a else b) k=if p then jl a k else jl b k:=by split<;>rfl
@[go_sem] theorem qKA {k:St→Option α}:jm (some st) k=k st:=(rfl)
@[go_sem] theorem qKz {k:St→Option α}:jm none k=none:=(rfl)
@[go_sem] theorem qKy {k:St→Option α} {p:Prop} [Decidable p] {a b:Option St}:jm (if p then a else b) k=if p then jm a k else jm b k:=by split<;>rfl
@[go_sem] theorem qKE {x:V} {k:V→Option α}:qr (some x) k=k x:=(rfl)
@[go_sem] theorem qKD {k:V→Option α}:qr none k=none:=(rfl)
@[go_sem] theorem qKC {k:V→Option α} {p:Prop} [Decidable p] {a b:Option V}:qr (if p then a else b) k=if p then qr a k else qr b k:=by split<;>rfl
@[go_sem] theorem qKk {x:Mem} {k:Mem→Option α}:ZL (some x) k=k x:=(rfl)
@[go_sem] theorem qKj {k:Mem→Option α}:ZL none k=none:=(rfl)
@[go_sem] theorem qKh {x:List V} {k:List V→Option α}:yC (some x) k=k x:=(rfl)
@[go_sem] theorem qKg {k:List V→Option α}:yC none k=none:=(rfl)
@[go_sem] theorem qMq {b:Bool} {x y z:α}:qfC (some (B b)) x y z=if b=true then x else y:=by cases b<;>rfl
@[go_sem] theorem qS8:YK id (some (.exit id',st))=if id'=id then some (.normal,st)else some (.exit id',st):=(rfl)
@[go_sem] theorem qTb:YK id (some (.normal,st))=some (.normal,st):=(rfl)
@[go_sem] theorem qTc:YK id (some (.ret,st))=some (.ret,st):=(rfl)
@[go_sem] theorem qTa:YK id none=none:=(rfl)
@[go_sem] theorem qS9 {p:Prop} [Decidable p] {a b:Option (AX × St)}:YK id (if p then a else b)=if p then YK id a else YK id b:=by split<;>rfl
@[go_sem] theorem qN5 {k:St→Option α}:Q5 (some (.normal,st)) k=k st:=(rfl)
@[go_sem] theorem qN6 {k:St→Option α}:Q5 (some (.ret,st)) k=k st:=(rfl)
@[go_sem] theorem qN4 {k:St→Option α}:Q5 none k=none:=(rfl)
@[go_sem] theorem qN3 {k:St→Option α} {p:Prop} [Decidable p] {a b:Option (AX × St)}:Q5 (if p then a else b) k=if p then Q5 a k else Q5 b k:=by split<;>rfl
end
noncomputable def cr(prog:Nat→Option AE) (f:Nat) (xs:List V):Option V:=(cw prog f xs).map Prod.fst
section
variable {prog:Nat→Option AE} {st:St}
theorem qo {f:Nat} {af:AF} {args:List V} (h:prog f=some (.fn af)) (hl:args.length=af.nargs):
 cr prog f args=Q5 (xw prog af.body {σ:=xO 0 (zq 0 args).1,T:=(zq 0 args).2}) fun st=>
  (jA st.σ st.T af.res).map fun r=>(qz 30 r.2 (jT r.1)).1:=by
 unfold cr
 rw [ql5,h]
 simp only [if_pos hl]
 cases he:xw prog af.body {σ:=xO 0 (zq 0 args).1,T:=(zq 0 args).2} with
 |none=>rfl
 |some s=>
  obtain ⟨e,s⟩:=s
  have hf:(qw af (zq 0 args).1 s).map Prod.fst=(jA s.σ s.T af.res).map fun r=>(qz 30 r.2 (jT r.1)).1:=by
   unfold qw
   cases jA s.σ s.T af.res<;>rfl
  cases e
  ·exact hf
  ·rfl
  ·exact hf
theorem qI {f:Nat} {af:AF} {args:List V} (h:prog f=some (.fn af)) (hl:args.length=af.nargs):
 cw prog f args=Q5 (xw prog af.body {σ:=xO 0 (zq 0 args).1,T:=(zq 0 args).2}) fun st=>qw af (zq 0 args).1 st:=by
 rw [ql5,h]
 simp only [if_pos hl]
 cases he:xw prog af.body {σ:=xO 0 (zq 0 args).1,T:=(zq 0 args).2} with
 |none=>rfl
 |some s=>obtain ⟨e,s⟩:=s;cases e<;>rfl
@[go_sem] theorem qVZ:xw prog .skip st=some (.normal,st):=qC0
@[go_sem] theorem qVX:xw prog .ret st=some (.ret,st):=qCY
@[go_sem] theorem qVR {id:Nat}:xw prog (.exit id) st=some (.exit id,st):=qCR
@[go_sem] theorem qVW {is:List AI}:xw prog (.reg is) st=jm (xn (cw prog) is st) fun st=>some (.normal,st):=by
 rw [qCX];cases xn (cw prog) is st<;>rfl
@[go_sem] theorem qVQ {plan:List Dp} {is:List AI}:xw prog (.dreg plan is) st=jm (zZ (cw prog) plan is (kg (yg plan is) st)) fun st=>if YI st.T=true then some (.normal,st)else none:=by
 rw [qCQ];cases zZ (cw prog) plan is (kg (yg plan is) st)<;>rfl
@[go_sem] theorem qVY {x y:AC}:xw prog (.seq x y) st=jl (xw prog x st) fun st'=>xw prog y st':=by
 rw [qCZ]
 cases xw prog x st with
 |none=>rfl
 |some s=>obtain ⟨e,s⟩:=s;cases e<;>rfl
@[go_sem] theorem qVP {a:AO} {x y:AC}:xw prog (.cond a x y) st=qfC (ev st.σ a) (xw prog x st) (xw prog y st) none:=by
 rw [qCP];rfl
@[go_sem] theorem qVO {id:Nat} {x:AC}:xw prog (.block id x) st=YK id (xw prog x st):=by
 rw [qCO]
 cases xw prog x st with
 |none=>rfl
 |some s=>obtain ⟨e,s⟩:=s;cases e<;>rfl
@[go_sem] theorem qVT {ls:List Nat} {ks:List Key} {x:AC}:xw prog (.nam ls ks x) st=xw prog x (kB ls ks st):=qCU
@[go_sem] theorem qVU {os:List (Nat × Nat × Option Nat)} {x:AC}:xw prog (.opd os x) st=xw prog x (Qx os st):=qCV
@[go_sem] theorem qVV {os:List (Nat × Key × Nat)} {x:AC}:xw prog (.opn os x) st=xw prog x (kY os st):=qCW
@[go_sem] theorem qVS {ls:List Nat} {x:AC} {σ:Sl} {T:Mem}:xw prog (.keep ls x) ⟨σ,T⟩=xw prog x ⟨zL σ ls,T⟩:=qCS
theorem qCM {ls:List Nat} {ks:List Key} {x:AC}:xw prog (.loop ls ks x) st=jl (xw prog x (kB ls ks st)) fun st'=>xw prog (.loop ls ks x) st':=by
 rw [qCT]
 cases xw prog x (kB ls ks st)with
 |none=>rfl
 |some s=>obtain ⟨e,s⟩:=s;cases e<;>rfl
variable {σ:Sl} {T:Mem} {call:ze}
@[go_sem] theorem qJA:xn call [] st=some st:=(rfl)
@[go_sem] theorem qJz {i:AI} {is:List AI}:xn call (i::is) st=jm (qp call st i) fun st=>xn call is st:=by
 simp only [xn];cases qp call st i<;>rfl
def gdK(b:Option V) (want:Bool) (x y:Option St):Option St:=
 match b with
 |some (.v (.bool b))=>if b=want then x else y
 |some (.v _)=>y
 |_=>none
@[congr] theorem qO2 {b b':Option V} {w:Bool} {x y:Option St} (h:b=b'):gdK b w x y=gdK b' w x y:=by rw [h]
@[go_sem] theorem qO1 {b w:Bool} {x y:Option St}:gdK (some (B b)) w x y=if b=w then x else y:=(rfl)
@[go_sem] theorem qO3 {w:Bool} {x y:Option St}:gdK (some yI) w x y=y:=(rfl)
@[go_sem] theorem qOB {j:Nat} {w:Bool} {d:Nat} {i:AI}:qp call ⟨σ,T⟩ (.gd j w (some d) i)=gdK (qF σ j) w (qj call ⟨σ,T⟩ i) (some ⟨(d,yI)::σ,T⟩):=by
 simp only [qp,gdK]
 cases qF σ j with
 |none=>rfl
 |some x=>cases x<;>first|rfl|(rename_i v;cases v<;>rfl)
@[go_sem] theorem qOC {j:Nat} {w:Bool} {i:AI}:qp call ⟨σ,T⟩ (.gd j w none i)=gdK (qF σ j) w (qj call ⟨σ,T⟩ i) (some ⟨σ,T⟩):=by
 simp only [qp,gdK]
 cases qF σ j with
 |none=>rfl
 |some x=>cases x<;>first|rfl|(rename_i v;cases v<;>rfl)
@[go_sem] theorem qOk {n:Nat}:ev σ (.t n)=qF σ n:=(rfl)
@[go_sem] theorem qOj {x:V}:ev σ (.c x)=some x:=(rfl)
@[go_sem] theorem qOf:evL σ []=some []:=(rfl)
@[go_sem] theorem qOe {x:AO} {xs:List AO}:evL σ (x::xs)=qr (ev σ x) fun y=>yC (evL σ xs) fun ys=>some (y::ys):=by
 simp only [evL];cases ev σ x<;>cases evL σ xs<;>rfl
@[go_sem] theorem qOg:evO σ none=some none:=(rfl)
@[go_sem] theorem qOh {x:AO}:evO σ (some x)=qr (ev σ x) fun y=>some (some y):=by
 simp only [evO];cases ev σ x<;>rfl
attribute [go_sem] qF qt qE qps qN qB x5 Q7 J7 qiI Q4 qdc kg
def pkS(o:Option V) (t:Nat) (r:Sl):Sl:=match o with|some x=>(t,x)::r|none=>r
@[congr] theorem qTr {o o':Option V} {t:Nat} {r:Sl} (h:o=o'):pkS o t r=pkS o' t r:=by rw [h]
@[go_sem] theorem qTt {x:V} {t:Nat} {r:Sl}:pkS (some x) t r=(t,x)::r:=(rfl)
@[go_sem] theorem qTs {t:Nat} {r:Sl}:pkS none t r=r:=(rfl)
@[go_sem] theorem qTo {σ:Sl}:zL σ []=[]:=(rfl)
@[go_sem] theorem qzT: ∀ (ls:List Nat),zL [] ls=[]
 |[]=>rfl
 |t::r=>by simp only [zL,qF,qzT r]
@[go_sem] theorem qTn {q:Nat × V} {σ:Sl} {t:Nat} {r:List Nat}:zL (q::σ) (t::r)=pkS (qF (q::σ) t) t (zL (q::σ) r):=by
 simp only [zL,pkS]
 cases qF (q::σ) t<;>rfl
def pkT(o:Option Ob) (k:Key) (a b:Mem):Mem:=match o with|some x=>(k,x)::a|none=>b
@[congr] theorem qTu {o o':Option Ob} {k:Key} {a b:Mem} (h:o=o'):pkT o k a b=pkT o' k a b:=by rw [h]
@[go_sem] theorem qTw {x:Ob} {k:Key} {a b:Mem}:pkT (some x) k a b=(k,x)::a:=(rfl)
@[go_sem] theorem qTv {k:Key} {a b:Mem}:pkT none k a b=b:=(rfl)
@[go_sem] theorem qTq {T:Mem}:xh T []=[]:=by cases T<;>rfl
@[go_sem] theorem qzU: ∀ (ks:List Key),xh [] ks=[]
 |[]=>rfl
 |k::r=>by simp only [xh,qt,qzU r]
@[go_sem] theorem qTp {q:Key × Ob} {T:Mem} {k:Key} {r:List Key}:xh (q::T) (k::r)=pkT (qt (q::T) k) k (xh (qE (q::T) k) r) (xh (q::T) r):=by
 simp only [xh,pkT]
 cases qt (q::T) k<;>rfl
@[go_sem] theorem qTm {T:Mem}:x8 T []=[]:=(rfl)
@[go_sem] theorem qzS: ∀ (ks:List Key),x8 [] ks=[]
 |[]=>rfl
 |k::r=>by simp only [x8,qt,qzS r]
@[go_sem] theorem qTl {q:Key × Ob} {T:Mem} {k:Key} {r:List Key}:x8 (q::T) (k::r)=pkT (qt (q::T) k) k (x8 (q::T) r) (x8 (q::T) r):=by
 simp only [x8,pkT]
 cases qt (q::T) k<;>rfl
def wT(d:Nat) (T:Mem):Mem:=Q7 d (Q4 d (qdc (J7 d T) T))
@[go_sem] theorem qki {d:Nat}:zr d ⟨σ,T⟩=⟨x5 d σ,wT d T⟩:=(rfl)
def kS {α:Type} (c:Bool) (x:Option α):Option α:=if c=true then x else none
@[congr] theorem qO4 {α:Type} {b b':Bool} {x:Option α} (h:b=b'):kS b x=kS b' x:=by rw [h]
@[go_sem] theorem qO6 {α:Type} {x:Option α}:kS true x=x:=(rfl)
@[go_sem] theorem qO5 {α:Type} {x:Option α}:kS false x=none:=(rfl)
def zW {α:Type} (c:Bool) (x y:α):α:=if c=true then x else y
@[congr] theorem qTi {α:Type} {b b':Bool} {x y:α} (h:b=b'):zW b x y=zW b' x y:=by rw [h]
@[go_sem] theorem qTk {α:Type} {x y:α}:zW true x y=x:=(rfl)
@[go_sem] theorem qTj {α:Type} {x y:α}:zW false x y=y:=(rfl)
section vals
variable {n:Int} {b:Bool} {l:List UInt8} {g:Nat}
attribute [go_sem] zk ya clB xX qC yT zb qT zd qH zx kX QX ZJ qF
@[go_sem] theorem qK5 {d:Nat} {x:V} {st:St}:kM (some d) x st=YA d x st:=(rfl)
@[go_sem] theorem qK4 {x:V} {st:St}:kM none x st=st:=(rfl)
@[go_sem] theorem qOq {x:V}:fzV true x=zb false x:=(rfl)
@[go_sem] theorem qOp {x:V}:fzV false x=x:=(rfl)
section
variable {cs xs ys:List V} {τ:Bool} {i o e:Nat} {x:V} {k:Key} {fn:Fn}
@[go_sem] theorem qLk:(V.a cs).cells=cs:=(rfl)
@[go_sem] theorem qLx:(V.p k i o).cells=[V.p k i o]:=(rfl)
@[go_sem] theorem qLz:(V.s k i o).cells=[V.s k i o]:=(rfl)
@[go_sem] theorem qLy:(V.q τ xs i o).cells=[V.q τ xs i o]:=(rfl)
@[go_sem] theorem qLn:(V.i τ xs).cells=[V.i τ xs]:=(rfl)
@[go_sem] theorem qLv:(V.o e xs).cells=[V.o e xs]:=(rfl)
@[go_sem] theorem qLu:(V.n e).cells=[V.n e]:=(rfl)
@[go_sem] theorem qLl:(V.b x).cells=[V.b x]:=(rfl)
@[go_sem] theorem qLm:(V.f fn xs ys).cells=[V.f fn xs ys]:=(rfl)
@[go_sem] theorem qLA:(V.t xs).cells=[V.t xs]:=(rfl)
@[go_sem] theorem qPi:(V.a cs).isA=true:=(rfl)
@[go_sem] theorem qPj:(V.i τ xs).isA=false:=(rfl)
@[go_sem] theorem qPr:(V.o e xs).isA=false:=(rfl)
@[go_sem] theorem qPq:(V.n e).isA=false:=(rfl)
@[go_sem] theorem qPs:(V.s k i o).isA=false:=(rfl)
@[go_sem] theorem qMP:(V.a cs).dead=false:=(rfl)
@[go_sem] theorem qMV:(V.p k i o).dead=false:=(rfl)
@[go_sem] theorem qMX:(V.s k i o).dead=false:=(rfl)
@[go_sem] theorem qMW:(V.q τ xs i o).dead=false:=(rfl)
@[go_sem] theorem qMS:(V.i τ xs).dead=false:=(rfl)
@[go_sem] theorem qMU:(V.o e xs).dead=false:=(rfl)
@[go_sem] theorem qMT:(V.n e).dead=false:=(rfl)
@[go_sem] theorem qMQ:(V.b x).dead=false:=(rfl)
@[go_sem] theorem qMR:(V.f fn xs ys).dead=false:=(rfl)
@[go_sem] theorem qLR:clE (V.a cs)=xX cs:=(rfl)
@[go_sem] theorem qLU:clE (V.i τ xs)=true:=(rfl)
@[go_sem] theorem qLW:clE (V.o e xs)=true:=(rfl)
@[go_sem] theorem qLV:clE (V.n e)=true:=(rfl)
@[go_sem] theorem qLY:clE (V.q τ xs i o)=true:=(rfl)
@[go_sem] theorem qLS:clE (V.b x)=true:=(rfl)
@[go_sem] theorem qLZ:clE (V.s k i o)=false:=(rfl)
@[go_sem] theorem qLX:clE (V.p k i o)=false:=(rfl)
@[go_sem] theorem qLT:clE (V.f fn xs ys)=(xX xs&&xX ys):=(rfl)
variable {d j:Nat}
@[go_sem] theorem qSZ:zB d j (.o e xs)=(.s (d,j) 0 xs.length,j+1,[((d,j),e,xs)]):=(rfl)
@[go_sem] theorem qSV:zB d j (.b x)=(.p (d,j) 0 0,j+1,[((d,j),x.cells.length,[x])]):=(rfl)
@[go_sem] theorem qSW:zB d j (.i τ xs)=(.i τ xs,j,[]):=(rfl)
@[go_sem] theorem qxH:zB d j (.q τ xs i o)=(.q τ xs i o,j,[]):=(rfl)
@[go_sem] theorem qSY:zB d j (.n e)=(.n e,j,[]):=(rfl)
@[go_sem] theorem qSR:zB d j (I n)=(I n,j,[]):=(rfl)
@[go_sem] theorem qSP:zB d j (B b)=(B b,j,[]):=(rfl)
@[go_sem] theorem qSS:zB d j (S l)=(S l,j,[]):=(rfl)
@[go_sem] theorem qSU:zB d j (U8 n)=(U8 n,j,[]):=(rfl)
@[go_sem] theorem qST:zB d j (U32 n)=(U32 n,j,[]):=(rfl)
@[go_sem] theorem qSQ:zB d j (Fc g)=(Fc g,j,[]):=(rfl)
@[go_sem] theorem qSu:qX d j (.a cs)=(.a (zx d j cs).1,(zx d j cs).2):=(rfl)
@[go_sem] theorem qSw:qX d j (.f fn xs ys)=(.f fn (zx d j xs).1 (zx d (zx d j xs).2.1 ys).1,(zx d (zx d j xs).2.1 ys).2.1,(zx d j xs).2.2++(zx d (zx d j xs).2.1 ys).2.2):=(rfl)
@[go_sem] theorem qSz:qX d j (.o e xs)=(.s (d,j) 0 xs.length,j+1,[((d,j),e,xs)]):=(rfl)
@[go_sem] theorem qSv:qX d j (.b x)=(.p (d,j) 0 0,j+1,[((d,j),x.cells.length,[x])]):=(rfl)
@[go_sem] theorem qSx:qX d j (.i τ xs)=(.i τ xs,j,[]):=(rfl)
@[go_sem] theorem qSA:qX d j (.q τ xs i o)=(.q τ xs i o,j,[]):=(rfl)
@[go_sem] theorem qSy:qX d j (.n e)=(.n e,j,[]):=(rfl)
@[go_sem] theorem qSq:qX d j (I n)=(I n,j,[]):=(rfl)
@[go_sem] theorem qSp:qX d j (B b)=(B b,j,[]):=(rfl)
@[go_sem] theorem qSr:qX d j (S l)=(S l,j,[]):=(rfl)
@[go_sem] theorem qSt:qX d j (U8 n)=(U8 n,j,[]):=(rfl)
@[go_sem] theorem qSs:qX d j (U32 n)=(U32 n,j,[]):=(rfl)
@[go_sem] theorem qSO:yn d (.t xs)=(.t (kX d 0 xs).1,(kX d 0 xs).2.2):=(rfl)
@[go_sem] theorem qSH:yn d (.a cs)=(.a (zx d 0 cs).1,(zx d 0 cs).2.2):=(rfl)
@[go_sem] theorem qSJ:yn d (.f fn xs ys)=((qX d 0 (.f fn xs ys)).1,(qX d 0 (.f fn xs ys)).2.2):=(rfl)
@[go_sem] theorem qSM:yn d (.o e xs)=(.s (d,0) 0 xs.length,[((d,0),e,xs)]):=(rfl)
@[go_sem] theorem qSI:yn d (.b x)=(.p (d,0) 0 0,[((d,0),x.cells.length,[x])]):=(rfl)
@[go_sem] theorem qSK:yn d (.i τ xs)=(.i τ xs,[]):=(rfl)
@[go_sem] theorem qSN:yn d (.q τ xs i o)=(.q τ xs i o,[]):=(rfl)
@[go_sem] theorem qSL:yn d (.n e)=(.n e,[]):=(rfl)
@[go_sem] theorem qSD:yn d (I n)=(I n,[]):=(rfl)
@[go_sem] theorem qSB:yn d (B b)=(B b,[]):=(rfl)
@[go_sem] theorem qSE:yn d (S l)=(S l,[]):=(rfl)
@[go_sem] theorem qSG:yn d (U8 n)=(U8 n,[]):=(rfl)
@[go_sem] theorem qSF:yn d (U32 n)=(U32 n,[]):=(rfl)
@[go_sem] theorem qSC:yn d (Fc g)=(Fc g,[]):=(rfl)
end
@[go_sem] theorem qPJ {d:Nat}:qN d (I n)=I n:=(rfl)
@[go_sem] theorem qPH {d:Nat}:qN d (B b)=B b:=(rfl)
@[go_sem] theorem qPK {d:Nat}:qN d (S l)=S l:=(rfl)
@[go_sem] theorem qPM {d:Nat}:qN d (U8 n)=U8 n:=(rfl)
@[go_sem] theorem qPL {d:Nat}:qN d (U32 n)=U32 n:=(rfl)
@[go_sem] theorem qPI {d:Nat}:qN d (Fc g)=Fc g:=(rfl)
@[go_sem] theorem qPO {d:Nat}:qN d yI=yI:=(rfl)
@[go_sem] theorem qLg:(I n).cells=[I n]:=(rfl)
@[go_sem] theorem qLe:(B b).cells=[B b]:=(rfl)
@[go_sem] theorem qLh:(S l).cells=[S l]:=(rfl)
@[go_sem] theorem qLj:(U8 n).cells=[U8 n]:=(rfl)
@[go_sem] theorem qLi:(U32 n).cells=[U32 n]:=(rfl)
@[go_sem] theorem qLf:(Fc g).cells=[Fc g]:=(rfl)
@[go_sem] theorem qPg:(I n).isA=false:=(rfl)
@[go_sem] theorem qPf:(B b).isA=false:=(rfl)
@[go_sem] theorem qPh:(S l).isA=false:=(rfl)
@[go_sem] theorem qMM:(I n).dead=false:=(rfl)
@[go_sem] theorem qML:(B b).dead=false:=(rfl)
@[go_sem] theorem qMN:(S l).dead=false:=(rfl)
@[go_sem] theorem qMO:(U8 n).dead=false:=(rfl)
@[go_sem] theorem qR8:(I n).one=true:=(rfl)
@[go_sem] theorem qR6:(B b).one=true:=(rfl)
@[go_sem] theorem qR9:(S l).one=true:=(rfl)
@[go_sem] theorem qSb:(U8 n).one=true:=(rfl)
@[go_sem] theorem qSa:(U32 n).one=true:=(rfl)
@[go_sem] theorem qR7:(Fc g).one=true:=(rfl)
@[go_sem] theorem qSi {k:Key} {i o:Nat}:(V.p k i o).one=true:=(rfl)
@[go_sem] theorem qSk {k:Key} {i o:Nat}:(V.s k i o).one=true:=(rfl)
@[go_sem] theorem qSj {τ:Bool} {xs:List V} {i o:Nat}:(V.q τ xs i o).one=true:=(rfl)
@[go_sem] theorem qSe {τ:Bool} {xs:List V}:(V.i τ xs).one=true:=(rfl)
@[go_sem] theorem qSh {e:Nat} {xs:List V}:(V.o e xs).one=true:=(rfl)
@[go_sem] theorem qSg {e:Nat}:(V.n e).one=true:=(rfl)
@[go_sem] theorem qSc {x:V}:(V.b x).one=true:=(rfl)
@[go_sem] theorem qSd {fn:Fn} {xs ys:List V}:(V.f fn xs ys).one=true:=(rfl)
@[go_sem] theorem qV2:zk (I n)=true:=(rfl)
@[go_sem] theorem qV0:zk (B b)=true:=(rfl)
@[go_sem] theorem qV3:zk (S l)=true:=(rfl)
@[go_sem] theorem qV5:zk (U8 n)=true:=(rfl)
@[go_sem] theorem qV4:zk (U32 n)=true:=(rfl)
@[go_sem] theorem qV1:zk (Fc g)=true:=(rfl)
@[go_sem] theorem qLJ:clB (I n)=true:=(rfl)
@[go_sem] theorem qLH:clB (B b)=true:=(rfl)
@[go_sem] theorem qLK:clB (S l)=true:=(rfl)
@[go_sem] theorem qLM:clB (U8 n)=true:=(rfl)
@[go_sem] theorem qLL:clB (U32 n)=true:=(rfl)
@[go_sem] theorem qLI:clB (Fc g)=true:=(rfl)
@[go_sem] theorem qLO:clE (I n)=true:=(rfl)
@[go_sem] theorem qLN:clE (B b)=true:=(rfl)
@[go_sem] theorem qLP:clE (S l)=true:=(rfl)
@[go_sem] theorem qLQ:clE (U8 n)=true:=(rfl)
@[go_sem] theorem qrQ {τ:Bool}:zb τ (I n)=I n:=(rfl)
@[go_sem] theorem qMC {τ:Bool}:zb τ (B b)=B b:=(rfl)
@[go_sem] theorem qrR {τ:Bool}:zb τ (S l)=S l:=(rfl)
@[go_sem] theorem qMG {τ:Bool}:zb τ (U8 n)=U8 n:=(rfl)
@[go_sem] theorem qMF {τ:Bool}:zb τ (U32 n)=U32 n:=(rfl)
@[go_sem] theorem qMD {τ:Bool}:zb τ (Fc g)=Fc g:=(rfl)
@[go_sem] theorem qfV:zd (I n)=true:=(rfl)
@[go_sem] theorem qRW:zd (B b)=true:=(rfl)
@[go_sem] theorem qfW:zd (S l)=true:=(rfl)
@[go_sem] theorem qR0:zd (U8 n)=true:=(rfl)
@[go_sem] theorem qRZ:zd (U32 n)=true:=(rfl)
@[go_sem] theorem qRX:zd (Fc g)=true:=(rfl)
@[go_sem] theorem qL6 {m:Nat} {T:Mem}:qz (m+1) T (I n)=(I n,T):=(rfl)
@[go_sem] theorem qL4 {m:Nat} {T:Mem}:qz (m+1) T (B b)=(B b,T):=(rfl)
@[go_sem] theorem qL7 {m:Nat} {T:Mem}:qz (m+1) T (S l)=(S l,T):=(rfl)
@[go_sem] theorem qL9 {m:Nat} {T:Mem}:qz (m+1) T (U8 n)=(U8 n,T):=(rfl)
@[go_sem] theorem qL8 {m:Nat} {T:Mem}:qz (m+1) T (U32 n)=(U32 n,T):=(rfl)
@[go_sem] theorem qL5 {m:Nat} {T:Mem}:qz (m+2) T (Fc g)=(Fc g,T):=(rfl)
@[go_sem] theorem qMd {m:Nat} {T:Mem} {τ:Bool} {xs:List V}:qz (m+1) T (.i τ xs)=(.i τ xs,T):=(rfl)
@[go_sem] theorem qMg {m:Nat} {T:Mem} {e:Nat} {xs:List V}:qz (m+1) T (.o e xs)=(.o e xs,T):=(rfl)
@[go_sem] theorem qlR {m:Nat} {T:Mem} {τ:Bool} {xs:List V} {i o:Nat}:qz (m+1) T (.q τ xs i o)=(.q τ xs i o,T):=(rfl)
@[go_sem] theorem qMb {m:Nat} {T:Mem} {x:V}:qz (m+1) T (.b x)=(.b x,T):=(rfl)
@[go_sem] theorem qMf {m:Nat} {T:Mem} {e:Nat}:qz (m+1) T (.n e)=(.o e [],T):=(rfl)
@[go_sem] theorem qMa {m:Nat} {T:Mem} {cs:List V}:qz (m+1) T (.a cs)=(.a (qy (qz m) T cs).1,(qy (qz m) T cs).2):=(rfl)
@[go_sem] theorem qMj {m:Nat} {T:Mem} {cs:List V}:qz (m+1) T (.t cs)=(.t (qy (qz m) T cs).1,(qy (qz m) T cs).2):=(rfl)
@[go_sem] theorem qMc {m:Nat} {T:Mem} {fn:Fn} {xs ys:List V}:qz (m+1) T (.f fn xs ys)=(.f fn (qy (qz m) T xs).1 (qy (qz m) (qy (qz m) T xs).2 ys).1,(qy (qz m) (qy (qz m) T xs).2 ys).2):=(rfl)
def esV(m:Nat) (T:Mem) (xs:List V):List V × Mem:=zW (qC xs) (xs,T) (qy (qz m) T xs)
def sK(m:Nat) (T':Mem) (lo len:Nat) (ob:Option Ob) (T:Mem):V × Mem:=
 match ob with
 |none=>(.d,T)
 |some ob=>if lo+len≤ob.2.length then
  (if lo=0 then (.o ob.1 (((esV m T' ob.2).1.drop lo).take len),(esV m T' ob.2).2)
  else (.o ob.1 (esV m T' ((ob.2.drop lo).take len)).1,(esV m T' ((ob.2.drop lo).take len)).2))else (.d,T)
@[go_sem] theorem qMi {m:Nat} {T:Mem} {k:Key} {lo len:Nat}:qz (m+1) T (.s k lo len)=sK m (qE T k) lo len (qt T k) T:=by
 simp only [qz,sK,esV,zW];cases qt T k<;>rfl
@[go_sem] theorem qUR {m:Nat} {T T':Mem} {lo len e:Nat} {xs:List V}:sK m T' lo len (some (e,xs)) T=if lo+len≤xs.length then (if lo=0 then (.o e (((esV m T' xs).1.drop lo).take len),(esV m T' xs).2)else (.o e (esV m T' ((xs.drop lo).take len)).1,(esV m T' ((xs.drop lo).take len)).2))else (.d,T):=(rfl)
@[go_sem] theorem qUQ {m:Nat} {T T':Mem} {lo len:Nat}:sK m T' lo len none T=(.d,T):=(rfl)
@[go_sem] theorem qOd {m:Nat} {T:Mem} {xs:List V}:esV m T xs=zW (qC xs) (xs,T) (qy (qz m) T xs):=(rfl)
def pK(m:Nat) (T':Mem) (ob:Option Ob) (T:Mem):V × Mem:=
 match ob with
 |some (_,[x])=>(.b ((esV m T' [x]).1.headD .d),(esV m T' [x]).2)
 |_=>(.d,T)
@[go_sem] theorem qMh {m:Nat} {T:Mem} {k:Key}:qz (m+1) T (.p k 0 0)=pK m (qE T k) (qt T k) T:=by
 simp only [qz,pK,esV,zW]
 cases qt T k with
 |none=>rfl
 |some ob=>obtain ⟨e,xs⟩:=ob;rcases xs with _|⟨x,_|⟨y,r⟩⟩<;>rfl
@[go_sem] theorem qTf {m:Nat} {T T':Mem} {e:Nat} {x:V}:pK m T' (some (e,[x])) T=(.b ((esV m T' [x]).1.headD .d),(esV m T' [x]).2):=(rfl)
@[go_sem] theorem qTe {m:Nat} {T T':Mem}:pK m T' none T=(.d,T):=(rfl)
attribute [go_sem] qy List.headD jd wT qgr
def qUJ(T:Mem) (k:Key) (ob:Option Ob):Mem:=
 match ob with
 |none=>T
 |some ob=>zW (qC ob.2) (jz k ob (qE T k)) (qE T k)
end vals
@[go_sem] theorem qOQ {d:Nat} {x:AO}:qp call ⟨σ,T⟩ (.mv d x)=qr (ev σ x) fun y=>some ⟨(d,y)::σ,T⟩:=by
 simp only [qp,qj];cases ev σ x<;>rfl
def qdf {α:Type} (c:Option V) (x y:α) (z:α):α:=
 match c with
 |some (.v (.bool true))=>x
 |some (.v (.bool false))=>y
 |_=>z
@[congr] theorem qUV {α:Type} {c c':Option V} {x y z:α} (h:c=c'):qdf c x y z=qdf c' x y z:=by rw [h]
@[go_sem] theorem qUU {α:Type} {b:Bool} {x y z:α}:qdf (some (B b)) x y z=if b=true then x else y:=by cases b<;>rfl
end
end Go.Vm
namespace Go.Vm
section
variable {prog:Nat→Option AE} {st:St} {σ:Sl} {T:Mem} {call:ze}
@[go_sem] theorem qJd {d:Nat} {x:AO}:qj call ⟨σ,T⟩ (.mv d x)=qp call ⟨σ,T⟩ (.mv d x):=(rfl)
@[go_sem] theorem qJh {d:Nat} {x:AO} {y:AO} {z:AO}:qj call ⟨σ,T⟩ (.pick d x y z)=qp call ⟨σ,T⟩ (.pick d x y z):=(rfl)
@[go_sem] theorem qJf {d:Nat} {x:AO}:qj call ⟨σ,T⟩ (.new d x)=qp call ⟨σ,T⟩ (.new d x):=(rfl)
@[go_sem] theorem qIS {d:Nat} {v:V} {bs:List (Nat × Nat × AO)}:qj call ⟨σ,T⟩ (.build d v bs)=qp call ⟨σ,T⟩ (.build d v bs):=(rfl)
@[go_sem] theorem qJb {d:Nat} {e:Nat} {xs:List AO}:qj call ⟨σ,T⟩ (.mks d e xs)=qp call ⟨σ,T⟩ (.mks d e xs):=(rfl)
@[go_sem] theorem qI9 {d:Nat} {e:Nat} {v:V} {n:Nat} {x:AO} {y:AO}:qj call ⟨σ,T⟩ (.mk d e v n x y)=qp call ⟨σ,T⟩ (.mk d e v n x y):=(rfl)
@[go_sem] theorem qI3 {d:Nat} {p:Bool} {n:Nat} {x:AO}:qj call ⟨σ,T⟩ (.ld d p n x)=qp call ⟨σ,T⟩ (.ld d p n x):=(rfl)
@[go_sem] theorem qI4 {d:Nat} {p:Bool} {n:Nat} {x:AO}:qj call ⟨σ,T⟩ (.ldq d p n x)=qp call ⟨σ,T⟩ (.ldq d p n x):=(rfl)
@[go_sem] theorem qJg {d:Nat} {x:AO}:qj call ⟨σ,T⟩ (.nilc d x)=qp call ⟨σ,T⟩ (.nilc d x):=(rfl)
@[go_sem] theorem qIR {d:Nat} {op:BinOp} {x:AO} {y:AO}:qj call ⟨σ,T⟩ (.bin d op x y)=qp call ⟨σ,T⟩ (.bin d op x y):=(rfl)
@[go_sem] theorem qIV {d:Nat} {n:Nat} {p:Bool} {x:AO} {y:AO}:qj call ⟨σ,T⟩ (.eqs d n p x y)=qp call ⟨σ,T⟩ (.eqs d n p x y):=(rfl)
@[go_sem] theorem qJn {d:Nat} {uo:UnOp} {x:AO}:qj call ⟨σ,T⟩ (.un d uo x)=qp call ⟨σ,T⟩ (.un d uo x):=(rfl)
@[go_sem] theorem qJi {d:Nat} {e:Nat} {x:AO} {ox:Option AO} {oy:Option AO}:qj call ⟨σ,T⟩ (.sl d e x ox oy)=qp call ⟨σ,T⟩ (.sl d e x ox oy):=(rfl)
@[go_sem] theorem qJk {d:Nat} {x:AO} {ox:Option AO} {oy:Option AO}:qj call ⟨σ,T⟩ (.ssl d x ox oy)=qp call ⟨σ,T⟩ (.ssl d x ox oy):=(rfl)
@[go_sem] theorem qJj {d:Nat} {x:AO}:qj call ⟨σ,T⟩ (.slen d x)=qp call ⟨σ,T⟩ (.slen d x):=(rfl)
@[go_sem] theorem qIX {d:Nat} {x:AO} {n:Nat}:qj call ⟨σ,T⟩ (.fa d x n)=qp call ⟨σ,T⟩ (.fa d x n):=(rfl)
@[go_sem] theorem qIY {d:Nat} {p:Bool} {n:Nat} {x:AO} {m:Nat}:qj call ⟨σ,T⟩ (.fld d p n x m)=qp call ⟨σ,T⟩ (.fld d p n x m):=(rfl)
@[go_sem] theorem qI0 {d:Nat} {e:Nat} {x:AO} {y:AO}:qj call ⟨σ,T⟩ (.ia d e x y)=qp call ⟨σ,T⟩ (.ia d e x y):=(rfl)
@[go_sem] theorem qI2 {d:Nat} {x:AO} {y:AO}:qj call ⟨σ,T⟩ (.ix d x y)=qp call ⟨σ,T⟩ (.ix d x y):=(rfl)
@[go_sem] theorem qIW {d:Nat} {x:AO} {n:Nat}:qj call ⟨σ,T⟩ (.ext d x n)=qp call ⟨σ,T⟩ (.ext d x n):=(rfl)
@[go_sem] theorem qIZ {d:Nat} {fn:Fn} {xs:List AO} {ys:List AO}:qj call ⟨σ,T⟩ (.fun d fn xs ys)=qp call ⟨σ,T⟩ (.fun d fn xs ys):=(rfl)
@[go_sem] theorem qIQ {d:Nat} {e:Nat} {n:Nat} {x:AO} {y:AO}:qj call ⟨σ,T⟩ (.app d e n x y)=qp call ⟨σ,T⟩ (.app d e n x y):=(rfl)
@[go_sem] theorem qI5 {d:Nat} {x:AO}:qj call ⟨σ,T⟩ (.len d x)=qp call ⟨σ,T⟩ (.len d x):=(rfl)
@[go_sem] theorem qJe {d:Nat} {p:Bool} {xs:List AO}:qj call ⟨σ,T⟩ (.mx d p xs)=qp call ⟨σ,T⟩ (.mx d p xs):=(rfl)
@[go_sem] theorem qI1 {d:Nat} {ik:IntKind} {x:AO}:qj call ⟨σ,T⟩ (.int d ik x)=qp call ⟨σ,T⟩ (.int d ik x):=(rfl)
@[go_sem] theorem qJm {d:Nat} {x:AO}:qj call ⟨σ,T⟩ (.str d x)=qp call ⟨σ,T⟩ (.str d x):=(rfl)
@[go_sem] theorem qIT {d:Nat} {x:AO}:qj call ⟨σ,T⟩ (.byt d x)=qp call ⟨σ,T⟩ (.byt d x):=(rfl)
@[go_sem] theorem qJl {n:Nat} {x:AO} {y:AO}:qj call ⟨σ,T⟩ (.st n x y)=qp call ⟨σ,T⟩ (.st n x y):=(rfl)
@[go_sem] theorem qIU {o:Option Nat} {x:AO} {xs:List AO} {md:Md}:qj call ⟨σ,T⟩ (.call o x xs md)=qp call ⟨σ,T⟩ (.call o x xs md):=(rfl)
@[go_sem] theorem qOU {d:Nat} {c x y:AO}:qp call ⟨σ,T⟩ (.pick d c x y)=qdf (ev σ c) (qr (ev σ x) fun y=>some ⟨(d,y)::σ,T⟩) (qr (ev σ y) fun y=>some ⟨(d,y)::σ,T⟩) none:=by
 simp only [qp,qj,qdf]
 split
 ·rename_i h;rw [h];cases ev σ x<;>rfl
 ·rename_i h;rw [h];cases ev σ y<;>rfl
 ·rename_i h1 h2;split
  ·rename_i h;exact absurd h h1
  ·rename_i h;exact absurd h h2
  ·rfl
@[go_sem] theorem qOS {d:Nat} {x:AO}:qp call ⟨σ,T⟩ (.new d x)=qr (ev σ x) fun y=>kS (yT y.cells) (some ⟨(d,.p (d,0) 0 0)::x5 d σ,((d,0),y.cells.length,[qN d y])::wT d T⟩):=by
 simp only [qp,qj];cases ev σ x<;>rfl
def qrv:List V→List (Nat × Nat × V)→Option (List V)
 |z,[]=>some z
 |z,(off,size,y)::r=>kS (!y.dead&&decide (y.cells.length=size∧off+size≤z.length)) (qrv (z.take off++y.cells++z.drop (off+size)) r)
@[go_sem] theorem qK7 {z:List V}:Qm σ z []=some z:=(rfl)
@[go_sem] theorem qK6 {z:List V} {off size:Nat} {x:AO} {r:List (Nat × Nat × AO)}:Qm σ z ((off,size,x)::r)=
 qr (ev σ x) fun y=>kS (!y.dead&&decide (y.cells.length=size)&&decide (off+size≤z.length)) (Qm σ (z.take off++y.cells++z.drop (off+size)) r):=by
 simp only [Qm]
 cases ev σ x with
 |none=>rfl
 |some y=>
  simp only [qr,kS]
  congr 1
  simp [and_assoc]
@[go_sem] theorem qOt {d:Nat} {z:V} {parts:List (Nat × Nat × AO)}:qp call ⟨σ,T⟩ (.build d z parts)=yC (Qm σ z.cells parts) fun cs=>some ⟨(d,.a cs)::σ,T⟩:=by
 simp only [qp,qj];cases Qm σ z.cells parts<;>rfl
def xV(e:Nat):List V→Bool
 |[]=>true
 |y::ys=>yT y.cells&&(y.cells.length==e)&&xV e ys
theorem qh2(e:Nat): ∀ (ys:List V),xV e ys=ys.all fun y=>yT y.cells&&y.cells.length==e
 |[]=>rfl
 |y::ys=>by simp only [xV,List.all_cons,qh2 e ys]
attribute [go_sem] xV
@[go_sem] theorem qOO {d e:Nat} {parts:List AO}:qp call ⟨σ,T⟩ (.mks d e parts)=yC (evL σ parts) fun ys=>
 kS (xV e ys) (some ⟨(d,.s (d,0) 0 ys.length)::x5 d σ,((d,0),e,qB d ys)::wT d T⟩):=by
 simp only [qp,qj,qh2];cases evL σ parts<;>rfl
def mkK(e bytes:Nat) (z l c:V) (d:Nat) (σ:Sl) (T:Mem):Option St:=
 match l,c with
 | .v (.int _ l),.v (.int _ c)=>
  if 0≤l∧l=c∧l*bytes≤lim∧l≤lim∧z.cells.length=e∧yT z.cells∧clE z then
   some {σ:=(d,.s (d,0) 0 l.toNat)::(zr d ⟨σ,T⟩).σ,T:=((d,0),e,List.replicate l.toNat z)::(zr d ⟨σ,T⟩).T}
  else none
 |_,_=>none
@[go_sem] theorem qOM {d e bytes:Nat} {z:V} {l c:AO}:qp call ⟨σ,T⟩ (.mk d e z bytes l c)=qr (ev σ l) fun l=>qr (ev σ c) fun c=>mkK e bytes z l c d σ T:=by
 simp only [qp,qj,mkK]
 cases ev σ l with
 |none=>rfl
 |some l=>cases ev σ c with
  |none=>cases l<;>first|rfl|(rename_i v;cases v<;>rfl)
  |some c=>cases l<;>first|rfl|(rename_i v;cases v<;>first|rfl|(cases c<;>first|rfl|(rename_i v;cases v<;>rfl)))
theorem qxi {e bytes:Nat} {z:V} {n d:Nat} (h1:n*bytes≤lim) (h2:n≤lim) (hz:z.cells.length=e) (ho:yT z.cells=true) (hc:clE z=true):
 mkK e bytes z (I n) (I n) d σ T=some ⟨(d,.s (d,0) 0 n)::x5 d σ,((d,0),e,List.replicate n z)::wT d T⟩:=by
 simp only [mkK,I]
 rw [if_pos ⟨by omega,trivial,by exact_mod_cast h1,by exact_mod_cast h2,hz,ho,hc⟩]
 simp [qki]
@[go_sem] theorem qOG {d size:Nat} {agg:Bool} {a:AO}:qp call ⟨σ,T⟩ (.ld d agg size a)=qr (ev σ a) fun p=>qr (x6 T agg size p) fun y=>
 zW (zk y) (some ⟨(d,y)::σ,T⟩) (qr (x6 (wT d T) agg size p) fun y'=>ZL (Z3 (wT d T) p (qX d 0 y').1) fun T'=>some ⟨(d,(qX d 0 y').1)::x5 d σ,(qX d 0 y').2.2++T'⟩):=by
 simp only [qp,qj]
 cases ev σ a with
 |none=>rfl
 |some p=>
  simp only [qr]
  cases x6 T agg size p with
  |none=>rfl
  |some y=>
   simp only [zW]
   cases h:zk y
   ·simp only [Bool.not_false,Bool.false_eq_true,if_true,if_false,qki]
    cases x6 (wT d T) agg size p with
    |none=>rfl
    |some y'=>
     simp only
     cases Z3 (wT d T) p (qX d 0 y').1<;>rfl
   ·simp [St.put]
@[go_sem] theorem qOH {d size:Nat} {agg:Bool} {a:AO}:qp call ⟨σ,T⟩ (.ldq d agg size a)=qr (ev σ a) fun p=>qr (x6 T agg size p) fun y=>kS (zk y) (some ⟨(d,y)::σ,T⟩):=by
 simp only [qp,qj]
 cases ev σ a with
 |none=>rfl
 |some p=>simp only [qr];cases x6 T agg size p<;>rfl
@[go_sem] theorem qOY {size:Nat} {a x:AO}:qp call ⟨σ,T⟩ (.st size a x)=qr (ev σ a) fun p=>qr (ev σ x) fun y=>
 kS (decide (y.cells.length=size)&&yT y.cells) (ZL (Z3 T p y) fun T'=>some ⟨σ,T'⟩):=by
 simp only [qp,qj]
 cases ev σ a with
 |none=>rfl
 |some p=>cases ev σ x with
  |none=>rfl
  |some y=>
   simp only [qr,kS,Bool.and_eq_true,decide_eq_true_eq]
   congr 1
   cases Z3 T p y<;>rfl
def qcS(d:Nat) (σ:Sl) (T:Mem):V→Option St
 | .p k idx off=>some ⟨(d,.p k idx off)::σ,T⟩
 | .q τ xs idx off=>some ⟨(d,.q τ xs idx off)::σ,T⟩
 | .f (.func g) first caps=>some ⟨(d,.f (.func g) first caps)::σ,T⟩
 |_=>none
@[go_sem] theorem qQL {d:Nat} {k:Key} {i o:Nat}:qcS d σ T (.p k i o)=some ⟨(d,.p k i o)::σ,T⟩:=(rfl)
@[go_sem] theorem qQM {d:Nat} {τ:Bool} {xs:List V} {i o:Nat}:qcS d σ T (.q τ xs i o)=some ⟨(d,.q τ xs i o)::σ,T⟩:=(rfl)
@[go_sem] theorem qQK {d g:Nat} {xs ys:List V}:qcS d σ T (.f (.func g) xs ys)=some ⟨(d,.f (.func g) xs ys)::σ,T⟩:=(rfl)
@[go_sem] theorem qQJ {d g:Nat}:qcS d σ T (Fc g)=some ⟨(d,Fc g)::σ,T⟩:=(rfl)
@[go_sem] theorem qOT {d:Nat} {x:AO}:qp call ⟨σ,T⟩ (.nilc d x)=qr (ev σ x) fun y=>qcS d σ T y:=by
 simp only [qp,qj]
 cases ev σ x with
 |none=>rfl
 |some y=>cases y<;>first|rfl|(rename_i f _ _;cases f<;>rfl)
@[go_sem] theorem qOs {d:Nat} {op:BinOp} {x y:AO}:qp call ⟨σ,T⟩ (.bin d op x y)=qr (ev σ x) fun x=>qr (ev σ y) fun y=>qr (qD op x y) fun z=>some ⟨(d,z)::σ,T⟩:=by
 simp only [qp,qj]
 cases ev σ x with
 |none=>rfl
 |some x=>cases ev σ y with
  |none=>rfl
  |some y=>simp only [qr];cases qD op x y<;>rfl
def eqB(k:Nat) (x y:V):Option V:=(eqV k x y).map B
@[go_sem] theorem qOw {d k:Nat} {neg:Bool} {x y:AO}:qp call ⟨σ,T⟩ (.eqs d k neg x y)=qr (ev σ x) fun x=>qr (ev σ y) fun y=>qr ((eqV k x y).map fun r=>B (r != neg)) fun z=>some ⟨(d,z)::σ,T⟩:=by
 simp only [qp,qj]
 cases ev σ x with
 |none=>rfl
 |some x=>cases ev σ y with
  |none=>rfl
  |some y=>simp only [qr];cases eqV k x y<;>rfl
def unV(op:UnOp):V→Option V
 | .v x=>(Op.unary op x).val?.map .v
 |_=>none
@[go_sem] theorem qO0 {d:Nat} {op:UnOp} {x:AO}:qp call ⟨σ,T⟩ (.un d op x)=qr (ev σ x) fun x=>qr (unV op x) fun z=>some ⟨(d,z)::σ,T⟩:=by
 simp only [qp,qj]
 cases ev σ x with
 |none=>rfl
 |some x=>cases x<;>first|rfl|(simp only [qr,unV,Option.map_map];rename_i v;cases (Op.unary op v).val?<;>rfl)
@[go_sem] theorem qVd {b:Bool}:unV .not (B b)=some (B (!b)):=(rfl)
@[go_sem] theorem qVc {n:Int}:unV .neg (I n)=some (I (w64 (0 - n))):=(rfl)
def ZM {α:Type} (r:Option (Option V)) (k:Option V→Option α):Option α:=
 match r with
 |some y=>k y
 |none=>none
@[congr] theorem qKr {α:Type} {r r':Option (Option V)} {k:Option V→Option α} (h:r=r'):ZM r k=ZM r' k:=by rw [h]
@[go_sem] theorem qKs {α:Type} {x:Option V} {k:Option V→Option α}:ZM (some x) k=k x:=(rfl)
@[go_sem] theorem qOi {x:AO}:evO σ (some x)=qr (ev σ x) fun y=>some (some y):=by
 simp only [evO];cases ev σ x<;>rfl
@[go_sem] theorem qOV {d e:Nat} {x:AO} {lo hi:Option AO}:qp call ⟨σ,T⟩ (.sl d e x lo hi)=qr (ev σ x) fun x=>ZM (evO σ lo) fun lo=>ZM (evO σ hi) fun hi=>qr (YN T e x lo hi) fun z=>some ⟨(d,z)::σ,T⟩:=by
 simp only [qp,qj]
 cases ev σ x with
 |none=>rfl
 |some x=>cases evO σ lo with
  |none=>rfl
  |some lo=>cases evO σ hi with
   |none=>rfl
   |some hi=>simp only [qr,ZM];cases YN T e x lo hi<;>rfl
def X5(x:V) (lo hi:Option V):Option V:=
 match x with
 | .v (.string s)=>match xH 0 lo,xH s.size hi with
  |some l,some h=>if l≤h∧h≤s.size then some (.v (.string (s.extract l h)))else none
  |_,_=>none
 |_=>none
@[go_sem] theorem qOX {d:Nat} {x:AO} {lo hi:Option AO}:qp call ⟨σ,T⟩ (.ssl d x lo hi)=qr (ev σ x) fun x=>ZM (evO σ lo) fun lo=>ZM (evO σ hi) fun hi=>qr (X5 x lo hi) fun z=>some ⟨(d,z)::σ,T⟩:=by
 simp only [qp,qj]
 cases ev σ x with
 |none=>rfl
 |some x=>cases evO σ lo with
  |none=>cases x<;>first|rfl|(rename_i v;cases v<;>rfl)
  |some lo=>cases evO σ hi with
   |none=>cases x<;>first|rfl|(rename_i v;cases v<;>rfl)
   |some hi=>
    simp only [qr,ZM,X5]
    cases x<;>first|rfl|(rename_i v;cases v<;>first|rfl|skip)
    rename_i s
    simp only
    cases xH 0 lo with
    |none=>rfl
    |some l=>cases xH s.size hi with
     |none=>rfl
     |some h=>simp only;split<;>rfl
def Yz(d:Nat):Option V→Option Int
 |none=>some d
 |some (.v (.int _ i))=>some i
 |_=>none
@[go_sem] theorem qKK {d:Nat}:Yz d none=some d:=(rfl)
@[go_sem] theorem qKJ {d:Nat} {i:Int}:Yz d (some (I i))=some i:=(rfl)
theorem qB2 {l:List UInt8} {lo hi:Option V} {a b:Int} (h1:Yz 0 lo=some a) (h2:Yz l.length hi=some b) (h3:0≤a) (h4:a≤b) (h5:b≤l.length):
 X5 (S l) lo hi=some (S ((l.take b.toNat).drop a.toNat)):=by
 have e1:xH 0 lo=some a.toNat:=by
  unfold xH;unfold Yz at h1;split at h1
  ·simp only [Option.some.injEq]at h1;subst h1;simp
  ·simp only [Option.some.injEq]at h1;subst h1;simp [h3]
  ·cases h1
 have e2:xH l.length hi=some b.toNat:=by
  unfold xH;unfold Yz at h2;split at h2
  ·simp only [Option.some.injEq]at h2;subst h2;simp
  ·simp only [Option.some.injEq]at h2;subst h2;show (if _ then _ else _)=_;rw [if_pos (by omega)]
  ·cases h2
 have hs:(ByteArray.mk l.toArray).size=l.length:=by simp [ByteArray.size]
 simp only [X5,S,hs,e1,e2]
 rw [if_pos ⟨by omega,by omega⟩]
 congr 3
 apply ByteArray.ext
 apply Array.ext'
 simp only [ByteArray.data_extract,List.extract_toArray,List.toList_toArray,List.extract_eq_take_drop]
 rw [List.drop_take]
def qjW:V→Option V
 | .v (.string s)=>some (.v (.int .i64 s.size))
 |_=>none
@[go_sem] theorem qOW {d:Nat} {x:AO}:qp call ⟨σ,T⟩ (.slen d x)=qr (ev σ x) fun x=>qr (qjW x) fun z=>some ⟨(d,z)::σ,T⟩:=by
 simp only [qp,qj]
 cases ev σ x with
 |none=>rfl
 |some x=>cases x<;>first|rfl|(rename_i v;cases v<;>rfl)
@[go_sem] theorem qU1 {l:List UInt8}:qjW (S l)=some (I l.length):=by simp [qjW,S,I,ByteArray.size]
def faV(off:Nat):V→Option V
 | .p k idx o=>some (.p k idx (o+off))
 | .q τ xs idx o=>some (.q τ xs idx (o+off))
 |_=>none
@[go_sem] theorem qOm {off:Nat} {k:Key} {i o:Nat}:faV off (.p k i o)=some (.p k i (o+off)):=(rfl)
@[go_sem] theorem qOn {off:Nat} {τ:Bool} {xs:List V} {i o:Nat}:faV off (.q τ xs i o)=some (.q τ xs i (o+off)):=(rfl)
@[go_sem] theorem qOy {d off:Nat} {x:AO}:qp call ⟨σ,T⟩ (.fa d x off)=qr (ev σ x) fun x=>qr (faV off x) fun z=>some ⟨(d,z)::σ,T⟩:=by
 simp only [qp,qj]
 cases ev σ x with
 |none=>rfl
 |some x=>cases x<;>rfl
def qin(agg:Bool) (size off:Nat):V→Option V
 | .a cs=>zh agg size (.a cs) off
 |_=>none
@[go_sem] theorem qOo {agg:Bool} {size off:Nat} {cs:List V}:qin agg size off (.a cs)=zh agg size (.a cs) off:=(rfl)
@[go_sem] theorem qOz {d size off:Nat} {agg:Bool} {x:AO}:qp call ⟨σ,T⟩ (.fld d agg size x off)=qr (ev σ x) fun x=>qr (qin agg size off x) fun z=>some ⟨(d,z)::σ,T⟩:=by
 simp only [qp,qj]
 cases ev σ x with
 |none=>rfl
 |some x=>cases x<;>first|rfl|(simp only [qr,qin];rename_i cs;cases zh agg size (.a cs) off<;>rfl)
def iaV(T:Mem) (e:Nat) (x i:V):Option V:=
 match i with
 | .v (.int _ i)=>jj T e x i
 |_=>none
@[go_sem] theorem qO7 {e:Nat} {x:V} {i:Int}:iaV T e x (I i)=jj T e x i:=(rfl)
@[go_sem] theorem qOD {d e:Nat} {x i:AO}:qp call ⟨σ,T⟩ (.ia d e x i)=qr (ev σ x) fun x=>qr (ev σ i) fun i=>qr (iaV T e x i) fun z=>some ⟨(d,z)::σ,T⟩:=by
 simp only [qp,qj]
 cases ev σ x with
 |none=>rfl
 |some x=>cases ev σ i with
  |none=>rfl
  |some i=>cases i<;>first|rfl|(rename_i v;cases v<;>first|rfl|(simp only [qr,iaV];rename_i j;cases jj T e x j<;>rfl))
def ixV:V→V→Option V
 | .v (.string s),.v (.int _ i)=>(yj i s.size).map fun j=>zm (s.data[j]?.getD 0)
 |_,_=>none
@[go_sem] theorem qOF {d:Nat} {x i:AO}:qp call ⟨σ,T⟩ (.ix d x i)=qr (ev σ x) fun x=>qr (ev σ i) fun i=>qr (ixV x i) fun z=>some ⟨(d,z)::σ,T⟩:=by
 simp only [qp,qj]
 cases ev σ x with
 |none=>rfl
 |some x=>cases ev σ i with
  |none=>cases x<;>first|rfl|(rename_i v;cases v<;>rfl)
  |some i=>
   cases x<;>first|rfl|(rename_i v;cases v<;>first|rfl|skip)
   rename_i s
   cases i<;>first|rfl|(rename_i v;cases v<;>first|rfl|(simp only [qr,ixV];rename_i j;cases yj j s.size<;>rfl))
theorem yw {l:List UInt8} {i:Int} {c:UInt8} (h0:0≤i) (h:l[i.toNat]? =some c):ixV (S l) (I i)=some (U8 c.toNat):=by
 have hl:i.toNat < l.length:=(List.getElem?_eq_some_iff.1 h).1
 have hs:(ByteArray.mk l.toArray).size=l.length:=by simp [ByteArray.size]
 simp only [ixV,S,I,hs,yj]
 rw [if_pos ⟨h0,by omega⟩]
 simp [h,zm,U8]
def qil(i:Nat):V→Option V
 | .t vs=>vs[i]?
 |_=>none
@[go_sem] theorem qOl {i:Nat} {vs:List V}:qil i (.t vs)=vs[i]? :=(rfl)
@[go_sem] theorem qOx {d i:Nat} {x:AO}:qp call ⟨σ,T⟩ (.ext d x i)=qr (ev σ x) fun x=>qr (qil i x) fun z=>some ⟨(d,z)::σ,T⟩:=by
 simp only [qp,qj]
 cases ev σ x with
 |none=>rfl
 |some x=>cases x<;>first|rfl|(simp only [qr,qil];rename_i vs;cases vs[i]? <;>rfl)
@[go_sem] theorem qOA {d:Nat} {fn:Fn} {first caps:List AO}:qp call ⟨σ,T⟩ (.fun d fn first caps)=yC (evL σ first) fun a=>yC (evL σ caps) fun b=>some ⟨(d,.f fn a b)::σ,T⟩:=by
 simp only [qp,qj]
 cases evL σ first with
 |none=>rfl
 |some a=>cases evL σ caps<;>rfl
def qcP(x:V):Option V:=(ZT x).map fun n=>I n
@[go_sem] theorem qPY {k:Key} {lo len:Nat}:qcP (.s k lo len)=some (I len):=(rfl)
@[go_sem] theorem qPW {τ:Bool} {xs:List V}:qcP (.i τ xs)=some (I xs.length):=(rfl)
@[go_sem] theorem qPX {e:Nat}:qcP (.n e)=some (I 0):=(rfl)
@[go_sem] theorem qOI {d:Nat} {x:AO}:qp call ⟨σ,T⟩ (.len d x)=qr (ev σ x) fun x=>qr (qcP x) fun z=>some ⟨(d,z)::σ,T⟩:=by
 simp only [qp,qj]
 cases ev σ x with
 |none=>rfl
 |some x=>simp only [qr,qcP];cases ZT x<;>rfl
def mxV(max:Bool):List V→Option V
 |[.v (.int k a),.v (.int _ b)]=>some (.v (.int k (if max then (if b > a then b else a)else (if b < a then b else a))))
 |_=>none
@[go_sem] theorem qOR {d:Nat} {max:Bool} {args:List AO}:qp call ⟨σ,T⟩ (.mx d max args)=yC (evL σ args) fun xs=>qr (mxV max xs) fun z=>some ⟨(d,z)::σ,T⟩:=by
 simp only [qp,qj]
 cases evL σ args with
 |none=>rfl
 |some xs=>
  rcases xs with _|⟨x,_|⟨y,_|⟨z,r⟩⟩⟩
  ·rfl
  ·cases x<;>first|rfl|(rename_i v;cases v<;>rfl)
  ·cases x<;>first|rfl|(rename_i v;cases v<;>first|rfl|(cases y<;>first|rfl|(rename_i v;cases v<;>rfl)))
  ·cases x<;>first|rfl|(rename_i v;cases v<;>first|rfl|(cases y<;>first|rfl|(rename_i v;cases v<;>rfl)))
@[go_sem] theorem qQE {a b:Int}:mxV true [I a,I b]=some (I (if b > a then b else a)):=(rfl)
@[go_sem] theorem qQF {a b:Int}:mxV false [I a,I b]=some (I (if b < a then b else a)):=(rfl)
def qiG(k:IntKind):V→Option V
 | .v (.int _ n)=>some (.v (.int k (k.wrap n)))
 |_=>none
@[go_sem] theorem qOE {d:Nat} {k:IntKind} {x:AO}:qp call ⟨σ,T⟩ (.int d k x)=qr (ev σ x) fun x=>qr (qiG k x) fun z=>some ⟨(d,z)::σ,T⟩:=by
 simp only [qp,qj]
 cases ev σ x with
 |none=>rfl
 |some x=>cases x<;>first|rfl|(rename_i v;cases v<;>rfl)
@[go_sem] theorem qPb {n:Int}:qiG .i64 (U8 n)=some (I (w64 n)):=(rfl)
@[go_sem] theorem qPa {n:Int}:qiG .u8 (I n)=some (U8 (IntKind.u8.wrap n)):=(rfl)
def qj9(xs:Option (List V)):Option V:=
 match xs with
 |some xs=>(jq xs).map fun l=>S l
 |none=>none
@[go_sem] theorem qOZ {d:Nat} {x:AO}:qp call ⟨σ,T⟩ (.str d x)=qr (ev σ x) fun x=>qr (qj9 (jM T 1 x)) fun z=>some ⟨(d,z)::σ,T⟩:=by
 simp only [qp,qj]
 cases ev σ x with
 |none=>rfl
 |some x=>
  simp only [qr]
  cases jM T 1 x with
  |none=>rfl
  |some xs=>simp only [qj9];cases jq xs<;>rfl
@[go_sem] theorem qU7 {xs:List V}:qj9 (some xs)=(jq xs).map fun l=>S l:=(rfl)
def XF {α:Type} (f:V) (k:Nat→List V→List V→Option α):Option α:=
 match f with
 | .f (.func g) first caps=>k g first caps
 |_=>none
@[congr] theorem qK9 {α:Type} {f f':V} {k:Nat→List V→List V→Option α} (h:f=f'):XF f k=XF f' k:=by rw [h]
@[go_sem] theorem qK8 {α:Type} {g:Nat} {k:Nat→List V→List V→Option α}:XF (Fc g) k=k g [] []:=(rfl)
@[go_sem] theorem qLa {α:Type} {g:Nat} {a b:List V} {k:Nat→List V→List V→Option α}:XF (.f (.func g) a b) k=k g a b:=(rfl)
@[go_sem] theorem qOv {d:Option Nat} {f:AO} {args:List AO} {fz:Bool}:qp (cw prog) ⟨σ,T⟩ (.call d f args (.ro fz))=qr (ev σ f) fun fv=>yC (evL σ args) fun xs=>
 XF fv fun g first caps=>qr (cr prog g (jd T (first++xs++caps))) fun r=>kS (zd r) (some (kM d (fzV fz r) ⟨σ,T⟩)):=by
 simp only [qp,qj]
 cases ev σ f with
 |none=>rfl
 |some fv=>
  cases evL σ args with
  |none=>simp only [qr,yC];cases callee fv<;>rfl
  |some xs=>
   simp only [qr,yC]
   cases fv with
   |f fn first caps=>
    cases fn<;>first|rfl|skip
    simp only [callee,XF,kP]
    unfold cr
    rename_i g
    cases cw prog g (jd T (first++xs++caps))with
    |none=>rfl
    |some r=>obtain ⟨r,o⟩:=r;rfl
   |_=>rfl
def ioK {α:Type} (r:Option (V × List V)) (k:V→List V→Option α):Option α:=
 match r with
 |some (r,outs)=>k r outs
 |none=>none
@[congr] theorem qPd {α:Type} {r r':Option (V × List V)} {k:V→List V→Option α} (h:r=r'):ioK r k=ioK r' k:=by rw [h]
@[go_sem] theorem qPe {α:Type} {r:V} {outs:List V} {k:V→List V→Option α}:ioK (some (r,outs)) k=k r outs:=(rfl)
@[go_sem] theorem qOu {d:Option Nat} {f:AO} {args:List AO} {fz:Bool}:qp (cw prog) ⟨σ,T⟩ (.call d f args (.io fz))=qr (ev σ f) fun fv=>yC (evL σ args) fun xs=>
 XF fv fun g first caps=>ioK (cw prog g (qy (qz 30) T (first++xs++caps)).1) fun r outs=>some (kM d (fzV fz r) ⟨σ,ZJ T (first++xs++caps) outs++(qy (qz 30) T (first++xs++caps)).2⟩):=by
 simp only [qp,qj]
 cases ev σ f with
 |none=>rfl
 |some fv=>
  cases evL σ args with
  |none=>simp only [qr,yC];cases callee fv<;>rfl
  |some xs=>
   simp only [qr,yC]
   cases fv with
   |f fn first caps=>
    cases fn<;>first|rfl|skip
   |_=>rfl
def bkO(k:Key) (lo e:Nat) (xs:List V) (ob:Option Ob):Mem:=
 match ob with
 |some ob=>if lo=0∧ob.1=e then [(k,e,xs)]else []
 |none=>[]
section
variable {k:Key} {lo len e i o:Nat} {xs ys zs:List V} {x y:V} {τ:Bool} {n:Int} {b:Bool} {l:List UInt8} {fn fn':Fn} {cs ds:List V}
@[go_sem] theorem qJK:xG T (.s k lo len) (.o e xs)=bkO k lo e xs (qt T k):=by simp only [xG,bkO];cases qt T k<;>rfl
@[go_sem] theorem qKF {e':Nat} {zs:List V}:bkO k lo e xs (some (e',zs))=if lo=0∧e'=e then [(k,e,xs)]else []:=(rfl)
@[go_sem] theorem qJJ:xG T (.s k lo len) .d=[]:=(rfl)
@[go_sem] theorem qJF:xG T (.i τ xs) y=[]:=(rfl)
@[go_sem] theorem qJD:xG T (I n) y=[]:=(rfl)
@[go_sem] theorem qJE:xG T (S l) y=[]:=(rfl)
@[go_sem] theorem qJC:xG T (B b) y=[]:=(rfl)
@[go_sem] theorem qJG:xG T (.n e) y=[]:=(rfl)
@[go_sem] theorem qJI:xG T (.q τ xs i o) y=[]:=(rfl)
@[go_sem] theorem qJO:Qk T (.a cs) (.a ds)=QX T cs ds:=(rfl)
@[go_sem] theorem qJS:Qk T (.s k lo len) y=xG T (.s k lo len) y:=(rfl)
@[go_sem] theorem qJP:Qk T (.i τ xs) y=[]:=(rfl)
@[go_sem] theorem qJM:Qk T (I n) y=[]:=(rfl)
@[go_sem] theorem qJN:Qk T (S l) y=[]:=(rfl)
@[go_sem] theorem qJL:Qk T (B b) y=[]:=(rfl)
@[go_sem] theorem qJQ:Qk T (.n e) y=[]:=(rfl)
@[go_sem] theorem qJR:Qk T (.p k i o) y=xG T (.p k i o) y:=(rfl)
end
theorem qrt {d:Nat} {x:V}:YA d x ⟨σ,T⟩=zW (zk x) ⟨(d,x)::σ,T⟩ ⟨(d,(yn d x).1)::x5 d σ,(yn d x).2++wT d T⟩:=by
 unfold YA zW
 cases h:zk x<;>simp [qki,St.put]
end
end Go.Vm
