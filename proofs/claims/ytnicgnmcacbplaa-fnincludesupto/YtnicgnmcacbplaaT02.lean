import Derived.Test.YtnicgnmcacbplaaT01
import Derived.Attr
set_option autoImplicit false
set_option linter.unusedSectionVars false
set_option linter.unusedVariables false
set_option linter.unusedSimpArgs false
namespace Go.Vm
variable [Lay]
def qcW:AI→Bool
 | .mv .. | .pick .. | .build .. | .ldq .. | .nilc .. | .bin .. | .eqs .. | .un .. | .sl .. | .ssl .. | .slen .. | .fa .. | .fld .. | .ia .. | .ix .. | .ext .. | .fun .. | .len .. | .mx .. | .int .. | .str .. | .mget .. =>true
 |_=>false
def roI:AI→Bool
 | .call _ _ _ (.ro _)=>true
 |_=>false
def JV:AI→AI
 | .gd _ _ _ i=>i
 |i=>i
section
variable {P:Program} {N n:Nat} {ops:Array Oper} {o:Oper} {E:Env} {c:Cnt} {st st':St} {a:Act} {call:Call} {ai h:AI}
theorem qqr(hq:qcW h=true) (ht:yw P N o h=some ai) (hs:qi call st ai=some st') (hf:FRel N E st a.tmps c):
 qI N E st st' o.dst ((execOp a.eval o).run P E.w):=by
 cases h<;>simp only [qcW]at hq<;>(first|(cases hq;done)|skip)<;>simp only [yw]at ht<;>(split at ht)<;>(first|(cases ht;done)|skip)<;>rename_i hd
 case mv.isTrue=>exact qhD hd ht hs hf
 case pick.isTrue=>exact qhG hd ht hs hf
 case build.isTrue=>exact qhr hd ht hs hf
 case ldq.isTrue=>exact qhA hd ht hs hf
 case nilc.isTrue=>exact qhF hd ht hs hf
 case bin.isTrue=>exact qhq hd ht hs hf
 case eqs.isTrue=>exact qhs hd ht hs hf
 case un.isTrue=>exact qhL hd ht hs hf
 case sl.isTrue=>exact qhH hd ht hs hf
 case ssl.isTrue=>exact qhJ hd ht hs hf
 case slen.isTrue=>exact qhI hd ht hs hf
 case fa.isTrue=>exact qhu hd ht hs hf
 case fld.isTrue=>exact qhv hd ht hs hf
 case ia.isTrue=>exact qhx hd ht hs hf
 case ix.isTrue=>exact qhz hd ht hs hf
 case ext.isTrue=>exact qht hd ht hs hf
 case fun.isTrue=>exact qhw hd ht hs hf
 case len.isTrue=>exact qhB hd ht hs hf
 case mx.isTrue=>exact qhE hd ht hs hf
 case int.isTrue=>exact qhy hd ht hs hf
 case str.isTrue=>exact qhK hd ht hs hf
 case mget.isTrue=>exact qhC hd ht hs hf
theorem qjL {Q:Exit→Act→World→Prop} {K:Act→World→Prop} (h:qI N E st st' o.dst ((execOp a.eval o).run P E.w))
 (hK: ∀ d x y,o.dst=some d→d < N→st'=st.put d x→Rel E x y c0→K (a.put o.dst y) E.w):o.wp P a E.w K Q:=by
 obtain ⟨d,x,y,hd,hn,hr,hs,hx⟩:=h
 unfold Oper.wp
 rw [hr]
 exact hK d x y hd hn hs hx
theorem qiP(ht:yw P N o h=some ai):qt ai=o.dst:=by
 cases h<;>simp only [yw]at ht<;>(first|(cases ht;done)|skip)<;>(split at ht)<;>(first|(cases ht;done)|skip)<;>rename_i hd
 case st.isTrue=>
  have hd':o.dst=none:=by simpa using hd
  unfold XD at ht
  (repeat' (split at ht))<;>simp_all [qt]
  subst ht;simp [qt]
 case mset.isTrue=>
  have hd':o.dst=none:=by simpa using hd
  unfold Xu at ht
  (repeat' (split at ht))<;>simp_all [qt]<;>(subst ht;simp [qt])
 case mes.isTrue=>
  have hd':o.dst=none:=by simpa using hd
  unfold Xp at ht
  (repeat' (split at ht))<;>simp_all [qt]
  subst ht;simp [qt]
 case call.isTrue=>
  simp only [j0,Bool.and_eq_true,decide_eq_true_eq]at hd
  unfold ZT at ht
  split at ht
  case h_2=>cases ht
  split at ht
  case h_2=>cases ht
  obtain ⟨x,y,-,-,rfl⟩:=jB ht
  simp only [qt];exact hd.1.symm
 all_goals
  rw [(zp hd).1]
  simp only [jG,Xz,Xw,Xb,Xt,Xr,Xl,Xm,Xx,Xa,Xc,XF,XA,XC,XB,Xe,Xf,Xi,Xk,Xd,Xg,Y9,Xn,Xv,Xj,XE,Xs,Xq,Xo,xM]at ht
  (repeat' (split at ht))<;>(first|(cases ht;done)|skip)<;>simp only [Option.map_eq_some_iff,Option.some.injEq]at ht<;>
   (first|(subst ht;rfl)|(obtain ⟨x,-,rfl⟩:=ht;rfl))
theorem qqs(ht:trI P N n ops o h=some ai) (hs:ql call st ai=some st') (hf:FRel N E st a.tmps c):
 qt ai=o.dst∧((Region.wanted o (yielded ops a.tmps)=false∧(o.dst=none→st'=st)∧(∀ d,o.dst=some d→d < N∧st'=st.put d ye))∨
 (Region.wanted o (yielded ops a.tmps)=true∧ ∃ ai1,yw P N o (JV h)=some ai1∧qi call st ai1=some st')):=by
 have hwant:o.guard.isNone=true→Region.wanted o (yielded ops a.tmps)=true:=by
  intro hg
  unfold Region.wanted
  split
  ·rfl
  ·rename_i he;rw [he]at hg;cases hg
 have hplain: ∀ i,o.guard.isNone=true→yw P N o i=some ai→Region.wanted o (yielded ops a.tmps)=true∧ ∃ ai1,yw P N o i=some ai1∧qi call st ai1=some st':=by
  intro i hg hi
  refine ⟨hwant hg,ai,hi, ?_⟩
  have hng: ∀ j w d i',ai ≠ .gd j w d i':=by
   rintro j w d i' rfl
   cases i<;>simp only [yw]at hi<;>(first|(cases hi;done)|skip)<;>(split at hi)<;>(first|(cases hi;done)|skip)<;>
    simp only [jG,Xz,Xw,Xb,Xt,Xr,Xl,Xm,Xx,Xa,Xc,XF,XA,XC,XB,Xe,Xf,Xi,Xk,Xd,Xg,Y9,Xn,Xv,Xj,XE,XD,ZT,Xs,Xu,Xq,Xo,Xp,xM]at hi<;>
    (repeat' (split at hi))<;>simp_all
  rw [qfh call ai hng]at hs
  exact hs
 unfold trI at ht
 split at ht
 ·rename_i j want d i
  split at ht
  case h_2=>cases ht
  rename_i k w hg
  split at ht
  case isFalse=>cases ht
  rename_i hc
  simp only [Bool.and_eq_true,decide_eq_true_eq]at hc
  obtain ⟨⟨⟨rfl,hdn⟩,hdst⟩,hj⟩:=hc
  rw [Option.map_eq_some_iff]at ht
  obtain ⟨i',hi',rfl⟩:=ht
  simp only [j0,Bool.and_eq_true,decide_eq_true_eq]at hdst
  obtain ⟨hod,hdN⟩:=hdst
  refine ⟨by simp only [qt];exact hod.symm, ?_⟩
  simp only [ql]at hs
  have hno:(d=none→st'=st)→(∀ t,d=some t→st'=st.put t ye)→(o.dst=none→st'=st)∧(∀ d,o.dst=some d→d < N∧st'=st.put d ye):=by
   intro h1 h2
   rw [hod]
   refine ⟨h1,fun t e=>⟨?_,h2 t e⟩⟩
   subst e;simpa using hdN
  split at hs
  ·rename_i b hb
   obtain ⟨v,hv,hr⟩:=hf.σ _ _ hb
   simp only [Rel]at hr
   have hy:yielded ops a.tmps k=some b:=by simp only [yielded,hj,Option.bind_some,hv,hr.1]
   by_cases hbw:b=w
   ·subst hbw
    rw [if_pos rfl]at hs
    exact .inr ⟨by simp only [Region.wanted,hg,hy,beq_self_eq_true],i',hi',hs⟩
   ·rw [if_neg hbw]at hs
    refine .inl ⟨by simp only [Region.wanted,hg,hy];simp [hbw], ?_⟩
    exact hno (fun e=>by subst e;simpa using hs.symm) (fun t e=>by subst e;simpa using hs.symm)
  ·rename_i x hnb hx
   obtain ⟨v,hv,hr⟩:=hf.σ _ _ hx
   simp only [Rel]at hr
   have hy:yielded ops a.tmps k=none:=by
    simp only [yielded,hj,Option.bind_some,hv,hr.1]
    cases x<;>first|rfl|exact absurd rfl (hnb _)
   refine .inl ⟨by simp only [Region.wanted,hg,hy];rfl, ?_⟩
   exact hno (fun e=>by subst e;simpa using hs.symm) (fun t e=>by subst e;simpa using hs.symm)
  ·cases hs
 ·rename_i d h'
  split at ht
  case isFalse=>cases ht
  rename_i hc
  simp only [Bool.and_eq_true]at hc
  have hi:yw P N o (.mv d h')=some ai:=by simp only [yw,hc.2,if_true];exact ht
  exact ⟨qiP hi,.inr (hplain _ hc.1 hi)⟩
 ·rename_i i hn1 hn2
  split at ht
  case isFalse=>cases ht
  rename_i hc
  simp only [Bool.and_eq_true]at hc
  have hb:JV h=h:=by cases h<;>first|rfl|exact absurd rfl (hn1 _ _ _ _)
  rw [hb]
  exact ⟨qiP ht,.inr (hplain _ hc.1 ht)⟩
end
end Go.Vm
namespace Go.Vm
variable [Lay]
section
variable {E:Env}
theorem ZS(f:Key→Bool): ∀ {T:Mem} {c:Cnt},qm E T c→ ∃ c',qm E (qG f T) c'∧cle c' c
 |[],c,h=>⟨c,h,qO _⟩
 |(k,ob)::r,c,h=>by
  obtain ⟨c1,c2,h1,h2,rfl⟩:=h
  obtain ⟨c3,h3,h4⟩:=ZS f h2
  simp only [qG]
  split
  ·exact ⟨qg c1 c3,⟨c1,c3,h1,h3,rfl⟩,xD (qO _) h4⟩
  ·exact ⟨c3,h3,yJ h4 (yU _ _)⟩
theorem qb4: ∀ {T:Mem} {k k':Key},k' ≠ k→qp (qy T k) k'=qp T k'
 |[],k,k',h=>rfl
 |(u,x)::r,k,k',h=>by
  simp only [qy]
  split
  ·rename_i e;subst e
   simp only [qp];rw [if_neg (Ne.symm h)]
  ·simp only [qp,qb4 h]
theorem KQ(f g:Key→Bool): ∀ T:Mem,qG f (qG g T)=qG (fun u=>g u&&f u) T
 |[]=>rfl
 |(k,x)::r=>by
  by_cases hg:g k=true
  ·by_cases hf:f k=true
   ·simp [qG,hg,hf,KQ f g r]
   ·simp [qG,hg,hf,KQ f g r]
  ·simp [qG,hg,KQ f g r]
theorem qfc {f:Key→Bool} {k:Key} (h:f k=false): ∀ {T:Mem},qG f (qy T k)=qG f T
 |[]=>rfl
 |(u,x)::r=>by
  simp only [qy]
  split
  ·rename_i e;subst e
   simp only [qG,h,Bool.false_eq_true,if_false]
  ·simp only [qG,qfc h]
theorem qdy: ∀ (ks:List Key) {L:Mem} {c:Cnt},ks.Nodup→qm E L c→
 ∃ c1 c2,qm E (zM (qp L) ks) c1∧qm E (qG (fun k=> !ks.contains k) L) c2∧cle (qg c1 c2) c
 |[],L,c,hn,h=>by
  obtain ⟨c2,h2,h3⟩:=ZS (fun k=> !([]:List Key).contains k) h
  exact ⟨c0,c2,rfl,h2,by rw [zc];exact h3⟩
 |k::ks,L,c,hn,h=>by
  obtain ⟨hk,hn⟩:=List.nodup_cons.1 hn
  cases hg:qp L k with
  |none=>
   obtain ⟨c1,c2,h1,h2,h3⟩:=qdy ks hn h
   refine ⟨c1,c2,by simp only [zM,hg];exact h1, ?_,h3⟩
   have:qG (fun u=> !(k::ks).contains u) L=qG (fun u=> !ks.contains u) L:=by
    clear h h1 h2
    induction L with
    |nil=>rfl
    |cons x r ih=>
     obtain ⟨u,y⟩:=x
     simp only [qp]at hg
     split at hg
     ·cases hg
     ·rename_i hu
      simp only [qG,ih hg]
      have:(k::ks).contains u=ks.contains u:=by
       simp only [List.contains_cons]
       have:(u==k)=false:=by simpa using hu
       rw [this,Bool.false_or]
      rw [this]
   rw [this];exact h2
  |some ob=>
   obtain ⟨d1,d2,ho,hr,rfl⟩:=yd h hg
   obtain ⟨c1,c2,h1,h2,h3⟩:=qdy ks hn hr
   obtain ⟨c3,h4,h5⟩:=ZS (fun u=>u != k) h2
   refine ⟨qg d1 c1,c3, ?_, ?_,fun b=>by have:=h3 b;have:=h5 b;simp only [qg]at*;omega⟩
   ·simp only [zM,hg]
    refine ⟨d1,c1,ho, ?_,rfl⟩
    rw [K7 (g:=qp (qy L k)) (fun u hu=>(qb4 (by rintro rfl;exact hk hu)).symm)]
    exact h1
   ·have:qG (fun u=> !(k::ks).contains u) L=qG (fun u=>u != k) (qG (fun u=> !ks.contains u) (qy L k)):=by
     rw [KQ,qfc (by simp)]
     congr 1
     funext u
     simp only [List.contains_cons,Bool.not_or,bne]
     exact Bool.and_comm _ _
    rw [this];exact h4
theorem qiL: ∀ {T:Mem} {L:Mem} {c:Cnt},QK T=true→qm E L c→(∀ k x,qp T k=some x→qp L k=some x)→ ∃ c',qm E T c'∧cle c' c
 |[],L,c,hn,h,hs=>⟨c0,rfl,fun _=>Nat.zero_le _⟩
 |(k,ob)::r,L,c,hn,h,hs=>by
  simp only [QK,Bool.and_eq_true,Option.isNone_iff_eq_none]at hn
  have hg:qp L k=some ob:=hs k ob (by simp [qp])
  obtain ⟨d1,d2,ho,hr,rfl⟩:=yd h hg
  obtain ⟨c',h1,h2⟩:=qiL (T:=r) hn.2 hr (fun u x hu=>by
   have hne:u ≠ k:=by rintro rfl;rw [hn.1]at hu;cases hu
   rw [qb4 hne]
   exact hs u x (by simp only [qp];rw [if_neg (Ne.symm hne)];exact hu))
  exact ⟨qg d1 c',⟨d1,c',ho,h1,rfl⟩,xD (qO _) h2⟩
end
end Go.Vm
namespace Go.Vm
variable [Lay]
def xG(plan:List Dp) (is:List AI) (listed:Array Bool) (d:Nat):Prop:=
 ∃ (i:Nat) (p:Dp) (ai:AI),listed.getD i true=false∧plan[i]? =some p∧is[i]? =some ai∧p.k ≠ 0∧qt ai=some d
structure InvD (N n:Nat) (E0:Env) (k0:Cnt) (a0:Act) (fr:Nat→Prop) (s:FS) (a:Act) (E:Env) (c:Cnt):Prop where
 sz:a.tmps.size=N
 df:a.defers=a0.defers
 σ: ∀ t x,s.1 t=some x→ ∃ y,a.tmps[t]? =some y∧Rel E x y c0
 T: ∃ L,(∀ k,qp L k=s.2 k)∧qm E L c
 g:Good E c
 kn:KN n E0 E
 adv:Adv E0 k0 E c
 fr: ∀ d,fr d→ ∀ j,E.μ (d,j)=none
section
variable {N n:Nat} {E0 E E':Env} {k0 c cA cB:Cnt} {a0 a:Act} {fr fr':Nat→Prop} {s:FS} {dst:Option Nat} {σ':Sl} {T' L:Mem} {y:Value} {p:Dp}
theorem InvD.next(h:InvD N n E0 k0 a0 fr s a E c) (hL: ∀ k,qp L k=s.2 k) (hd: ∀ t,dst=some t→t < N) (hm:Mono E E' c0) (hσ: ∀ d x,dst=some d→qz σ' d=some x→Rel E' x y c0)
 (hA:qm E' (qG (p.own dst) T') cA) (hB:qm E' (qG (fun k=> !p.own dst k) L) cB) (hg:Good E' (qg cA cB)) (hadv:Adv E c E' (qg cA cB)) (hkn:KN n E E')
 (hfr: ∀ d,fr' d→ ∀ j,E'.μ (d,j)=none):InvD N n E0 k0 a0 fr' (yD dst σ' s.1,yF p dst T' s.2) (a.put dst y) E' (qg cA cB):=by
 refine ⟨by cases dst<;>simp [Act.put,h.sz],(QN _ _ _).trans h.df,fun t x hx=> ?_,⟨qG (p.own dst) T'++qG (fun k=> !p.own dst k) L,fun k=> ?_,xk hA hB⟩,hg,h.kn.trans hkn,h.adv.trans hadv,hfr⟩
 ·simp only [yD]at hx
  split at hx
  ·rename_i e
   subst e
   have ht:=hd t rfl
   refine ⟨y, ?_,hσ t x rfl hx⟩
   simp [Act.put,h.sz,ht]
  ·rename_i e
   obtain ⟨v,h1,h2⟩:=h.σ t x hx
   refine ⟨v, ?_,yp h2 hm⟩
   cases dst with
   |none=>exact h1
   |some d=>
    have:d ≠ t:=by rintro rfl;exact e rfl
    simp only [Act.put]
    rw [Array.getElem?_setIfInBounds_ne this];exact h1
 ·rw [qb3,YK,YK]
  simp only [yF,hL]
  cases p.own dst k<;>simp
theorem qb6 {f:Nat→Option V}: ∀ {us:List Nat} {t:Nat} {x:V},qz (yB f us) t=some x→f t=some x
 |[],t,x,h=>by cases h
 |u::us,t,x,h=>by
  simp only [yB]at h
  split at h
  ·rename_i z hz
   simp only [qz]at h
   split at h
   ·rename_i e;subst e;rw [hz];exact h
   ·exact qb6 h
  ·exact qb6 h
theorem InvD.sub(h:InvD N n E0 k0 a0 fr s a E c) (hL: ∀ k,qp L k=s.2 k) (hT:qm E L c) (us:List Nat) {ks:List Key} (hn:ks.Nodup):
 ∃ cK cR,FRel N E {σ:=yB s.1 us,T:=zM s.2 ks} a.tmps cK∧qm E (qG (fun k=> !ks.contains k) L) cR∧cle (qg cK cR) c:=by
 obtain ⟨c1,c2,h1,h2,h3⟩:=qdy ks hn hT
 have he:zM s.2 ks=zM (qp L) ks:=K7 fun k _=>(hL k).symm
 refine ⟨c1,c2,⟨h.sz,fun t x hx=>h.σ t x (qb6 hx),by rw [he];exact h1,h.g.le (yJ (QB _ _) h3)⟩,h2,h3⟩
theorem InvD.quiet(h:InvD N n E0 k0 a0 fr s a E c) {d:Nat} {x:V} {st0:St} (hp:p.k=0) (hd:d < N) (hx:Rel E x y c0) (hfr: ∀ d,fr' d→fr d):
 InvD N n E0 k0 a0 fr' (yD (some d) (st0.put d x).σ s.1,yF p (some d) (st0.put d x).T s.2) (a.put (some d) y) E c:=by
 obtain ⟨L,hL,hT⟩:=h.T
 have hown: ∀ k,p.own (some d) k=false:=fun k=>qcI hp k
 have hf1: ∀ T:Mem,qG (p.own (some d)) T=[]:=by
  intro T;induction T with
  |nil=>rfl
  |cons z r ih=>obtain ⟨u,v⟩:=z;simp only [qG,hown,Bool.false_eq_true,if_false,ih]
 have hf2: ∀ T:Mem,qG (fun k=> !p.own (some d) k) T=T:=by
  intro T
  have e:(fun k=> !p.own (some d) k)=fun _=>true:=funext fun k=>by rw [hown k];rfl
  rw [e]
  induction T with
  |nil=>rfl
  |cons z r ih=>obtain ⟨u,v⟩:=z;simp only [qG,if_true,ih]
 have:=InvD.next (fr':=fr') (E':=E) (cA:=c0) (cB:=c) (dst:=some d) (σ':=(st0.put d x).σ) (T':=(st0.put d x).T) (y:=y) (p:=p) h hL (fun t ht=>by cases ht;exact hd) (qm8 E c0)
  (fun d' x' hd' hx'=>by cases hd';simp only [St.put,qz,if_pos,Option.some.injEq]at hx';subst hx';exact hx) (by rw [hf1];rfl) (by rw [hf2];exact hT) (by rw [zc];exact h.g) (by rw [zc];exact Adv.refl _ _) KN.refl
  (fun d' hd'=>h.fr d' (hfr d' hd'))
 rw [zc]at this;exact this
end
end Go.Vm
namespace Go.Vm
variable [Lay]
section
variable {P:Program} {N n:Nat} {E0 E E':Env} {k0 c cK cR c':Cnt} {a0 a:Act} {fr fr':Nat→Prop} {s:FS} {dst:Option Nat} {st':St} {L:Mem} {y:Value} {p:Dp} {call:Call}
theorem qna(h:InvD N n E0 k0 a0 fr s a E c) (hkp:yt dst E E') (hdf: ∀ d,dst=some d→fr d): ∀ k l,E.μ k=some l→E'.μ k=some l:=by
 intro k l hk
 by_cases hd:dst=some k.1
 ·have:=h.fr k.1 (hdf _ hd) k.2
  rw [hk]at this;cases this
 ·rw [hkp k hd];exact hk
theorem InvD.write(h:InvD N n E0 k0 a0 fr s a E c) (hL: ∀ k,qp L k=s.2 k) (hcR:qm E (qG (fun k=> !p.ks.contains k) L) cR) (hle:cle (qg cK cR) c)
 (hp:p.k=1) (hd: ∀ t,dst=some t→t < N) (hdf: ∀ d,dst=some d→fr d) (hfr: ∀ d,fr' d→fr d∧dst ≠ some d)
 (hF:FRel N E' st' (a.put dst y).tmps c') (hkn:KN n E E') (hkp:yt dst E E') (hA:Adv E cK E' c'):
 ∃ c'',InvD N n E0 k0 a0 fr' (yD dst st'.σ s.1,yF p dst st'.T s.2) (a.put dst y) E' c'':=by
 have hμ:=qna h hkp hdf
 have hg:Good E (qg cK cR):=h.g.le hle
 have hmono:=KY hg hA hμ
 have hgood:=qb8 hg hA hF.g
 obtain ⟨cA,h1,h2⟩:=ZS (p.own dst) hF.T
 have he:qG (fun k=> !p.own dst k) L=qG (fun k=> !p.own dst k) (qG (fun k=> !p.ks.contains k) L):=by
  rw [KQ]
  congr 1
  funext u
  cases hc:p.ks.contains u with
  |false=>simp
  |true=>
   have:p.own dst u=true:=by unfold Dp.own;rw [hp,hc];rfl
   rw [this];rfl
 obtain ⟨cB,h3,h4⟩:=ZS (fun k=> !p.own dst k) (zU hcR hmono)
 rw [← he]at h3
 have hle2:cle (qg cA cB) (qg c' cR):=xD h2 h4
 refine ⟨qg cA cB,InvD.next h hL hd (hmono.le fun _=>Nat.zero_le _) ?_ h1 h3 (hgood.le hle2) ((YA (qbB cR hA) hle).le hle2) hkn ?_⟩
 ·intro d x hdd hx
  obtain ⟨v,hv,hr⟩:=hF.σ d x hx
  subst hdd
  have hdN:=hd d rfl
  have:(a.put (some d) y).tmps[d]? =some y:=by simp [Act.put,h.sz,hdN]
  rw [this]at hv;cases hv
  exact hr
 ·intro d hd' j
  obtain ⟨h5,h6⟩:=hfr d hd'
  rw [hkp (d,j) h6]
  exact h.fr d h5 j
theorem qqx {d:Nat} {st:St}:qG (fun k=>decide (k.1=d)) (zh d st).T=[]:=by
 have: ∀ T:Mem,(∀ k ob,(k,ob) ∈ T→k.1 ≠ d)→qG (fun k=>decide (k.1=d)) (ju d T)=[]:=by
  intro T hT
  induction T with
  |nil=>rfl
  |cons z r ih=>
   obtain ⟨k,e,xs⟩:=z
   have hk:=hT k _ (List.mem_cons_self)
   simp only [ju,qG]
   rw [if_neg (by simpa using hk)]
   exact ih fun k ob h=>hT k ob (List.mem_cons_of_mem _ h)
 exact this _ fun k ob hk=>KL d hk
theorem qfb(f:Key→Bool): ∀ A B:Mem,qG f (A++B)=qG f A++qG f B
 |[],B=>rfl
 |(k,x)::r,B=>by
  simp only [List.cons_append,qG,qfb f r B]
  split<;>rfl
theorem qbX {f:Key→Bool} {g:Key→Option Ob}: ∀ {ks:List Key},(∀ k ∈ ks,f k=false)→qG f (zM g ks)=[]
 |[],h=>rfl
 |k::ks,h=>by
  simp only [zM]
  split
  ·simp only [qG,h k (List.mem_cons_self),Bool.false_eq_true,if_false]
   exact qbX fun u hu=>h u (List.mem_cons_of_mem _ hu)
  ·exact qbX fun u hu=>h u (List.mem_cons_of_mem _ hu)
theorem InvD.ro(h:InvD N n E0 k0 a0 fr s a E c) (hL: ∀ k,qp L k=s.2 k) (hT:qm E L c) (hp:p.k=2) (hd: ∀ t,dst=some t→t < N) (hdf: ∀ d,dst=some d→fr d) (hfr: ∀ d,fr' d→fr d∧dst ≠ some d)
 (hnk: ∀ t,dst=some t→n≤t) (hks: ∀ k ∈ p.ks,dst ≠ some k.1) {σ0:Sl} {r:V} {c5:Cnt} (hst:st'=xC dst r {σ:=σ0,T:=zM s.2 p.ks}) (hσd: ∀ d,dst=some d→True)
 (hμ:E'.μ=E.μ) (hr:Rel E'.cl r y c5) (hg5:Good E' c5) (hA:Adv E c0 E' c5):
 ∃ E4 c4,E4.w=E'.w∧InvD N n E0 k0 a0 fr' (yD dst st'.σ s.1,yF p dst st'.T s.2) (a.put dst y) E4 c4:=by
 have hg':Good E (qg c0 c):=by rw [zc];exact h.g
 have hM:Mono E E' c:=KY hg' hA (fun k l hk=>by rw [hμ];exact hk)
 have hgood:Good E' (qg c5 c):=qb8 hg' hA hg5
 have hadv:Adv E c E' (qg c5 c):=by have:=qbB c hA;rwa [zc]at this
 have hown: ∀ k,p.own dst k=decide (dst=some k.1):=fun k=>by
  simp only [Dp.own,hp]
  rw [Bool.eq_iff_iff]
  cases dst<;>simp
 obtain ⟨cB,hB,hBle⟩:=ZS (fun k=> !p.own dst k) (zU hT hM)
 cases dst with
 |none=>
  have e1: ∀ T,qG (p.own none) T=[]:=by
   intro T;induction T with
   |nil=>rfl
   |cons z t ih=>obtain ⟨k,x⟩:=z;simp only [qG,hown k];rw [if_neg (by simp)];exact ih
  refine ⟨E',qg c0 cB,rfl,InvD.next h hL hd (hM.le fun _=>Nat.zero_le _) (fun d x hdd=>by cases hdd) (by rw [e1];rfl) hB (hgood.le ?_) (hadv.le ?_) (fun k _=>by rw [hμ]) (fun d hd' j=>by rw [hμ];exact h.fr d (hfr d hd').1 j)⟩
  ·rw [zc];exact yJ hBle (yU _ _)
  ·rw [zc];exact yJ hBle (yU _ _)
 |some d=>
  have hdN:=hd d rfl
  have hfree: ∀ j,E'.μ (d,j)=none:=fun j=>by rw [hμ];exact h.fr d (hdf d rfl) j
  have hownd:p.own (some d)=fun k:Key=>decide (k.1=d):=funext fun k=>by rw [hown];simp [eq_comm]
  simp only [xC,Qy]at hst
  split at hst
  ·
   obtain ⟨E4,c6,j',hn,h1,h2,h3⟩:=qcD (d:=d) hfree (yp hr (kB E' c5))
   subst hst
   have hA4:qG (p.own (some d)) ((zT d r).2++(zh d {σ:=σ0,T:=zM s.2 p.ks}).T)=qG (p.own (some d)) (zT d r).2:=by
    rw [qfb,hownd,qqx,List.append_nil]
   obtain ⟨cA,h4,h5⟩:=ZS (p.own (some d)) h2
   have hle:cle (qg cA cB) (qg c5 c):=fun b=>by have:=h5 b;have:=h3 b;have:=hBle b;simp only [qg]at*;omega
   have hMn:=hn.mono (E:=E') (E':=E4)
   have hg4:Good E4 (qg cA cB):=jW hn.hw hn.hI hle hgood
   refine ⟨E4,qg cA cB,hn.hw,InvD.next h hL hd ?_ ?_ (by simp only [hA4];exact h4) (zU hB (hn.mono _)) hg4 ?_ ?_ ?_⟩
   ·exact ⟨fun τ b hb=>⟨by rw [hn.hI];exact (hM.hI τ b hb).1,by rw [hn.hw];exact (hM.hI τ b hb).2⟩,fun b hb=>absurd rfl hb,fun k l hk=>hn.hμ k l (by rw [hμ];exact hk)⟩
   ·intro d' x hdd hx
    cases hdd
    simp only [qz,if_pos,Option.some.injEq]at hx
    subst hx;exact h1
   ·exact hadv.trans (kS hn.hw hn.hI hle)
   ·intro k hk
    rw [hn.hout k (by have:=hnk d rfl;omega),hμ]
   ·intro d' hd' j
    obtain ⟨h6,h7⟩:=hfr d' hd'
    rw [hn.hout (d',j) (by rintro rfl;exact h7 rfl),hμ]
    exact h.fr d' h6 j
  ·rename_i hz
   have h0:=ZL hr (by simpa using hz)
   subst h0
   subst hst
   have e1:qG (p.own (some d)) (St.put {σ:=σ0,T:=zM s.2 p.ks} d r).T=[]:=qbX fun k hk=>by
    rw [hown];simpa using hks k hk
   rw [zc]at hgood hadv
   refine ⟨E',qg c0 cB,rfl,InvD.next h hL hd (hM.le fun _=>Nat.zero_le _) ?_ (by rw [e1];rfl) hB (hgood.le ?_) (hadv.le ?_) (fun k _=>by rw [hμ]) (fun d hd' j=>by rw [hμ];exact h.fr d (hfr d hd').1 j)⟩
   ·intro d' x hdd hx
    cases hdd
    simp only [St.put,qz,if_pos,Option.some.injEq]at hx
    subst hx
    exact yp hr (kB E' c0)
   ·rw [zc];exact hBle
   ·rw [zc];exact hBle
end
end Go.Vm
namespace Go.Vm
variable [Lay]
def qd3(l:List Nat) (x:Nat):List Nat:=if l.contains x then l else x::l
def JS(ops:Array Oper):List (List Nat):=
 ops.toList.foldl (fun acc o=>
  acc++[((o.after.toList.filter fun e=>Region.binds .any e).map (·.on)).foldl (fun l k=>(acc.getD k []).foldl qd3 (qd3 l k)) []]) []
def K6(plan:List Dp) (is:List AI) (anc:List (List Nat)):Bool:=
 (List.range is.length).all fun i=>(List.range i).all fun j=>match plan[j]?,is[j]?,plan[i]?,is[i]? with
  |some pj,some aj,some pi,some ai=>((anc.getD i []).contains j||qdx pj aj pi ai)&&(pj.k==0||pi.k==0||XG (qt aj) (qt ai))
  |_,_,_,_=>false
def qaq:List Key→Bool
 |[]=>true
 |k::ks=> !ks.contains k&&qaq ks
def qaw(n:Nat) (p:Dp) (h ai:AI):Bool:=
 ((p.k==0&&qcW (JV h))||p.k==1||(p.k==2&&roI (JV h)))&&qaq p.ks&&
   (p.k==0||(match qt ai with|some d=>decide (n≤d)&&p.ks.all (fun k=>k.1 != d)|none=>true))
def xt(n:Nat):List Dp→List AI→List AI→Bool
 |[],[],[]=>true
 |p::ps,h::hs,i::is=>qaw n p h i&&xt n ps hs is
 |_,_,_=>false
def dOk(P:Program) (n:Nat) (ops:Array Oper) (plan:List Dp) (hs is:List AI):Bool:=
 P.follows .mixedOrders&&qau ops (JS ops)&&qcC ops&&K6 plan is (JS ops)&&xt n plan hs is
theorem qgQ: ∀ {ks:List Key},qaq ks=true→ks.Nodup
 |[],h=>List.nodup_nil
 |k::ks,h=>by
  simp only [qaq,Bool.and_eq_true,Bool.not_eq_true',List.contains_eq_mem,decide_eq_false_iff_not]at h
  exact List.nodup_cons.2 ⟨h.1,qgQ h.2⟩
theorem qcF {n:Nat}: ∀ {plan:List Dp} {hs is:List AI},xt n plan hs is=true→plan.length=is.length∧hs.length=is.length∧
 ∀ (i:Nat) (p:Dp) (h ai:AI),plan[i]? =some p→hs[i]? =some h→is[i]? =some ai→qaw n p h ai=true
 |[],[],[],h=>⟨rfl,rfl,fun i p h ai h1=>by simp at h1⟩
 |p::ps,h::hs,a::is,hk=>by
  simp only [xt,Bool.and_eq_true]at hk
  obtain ⟨h1,h2,h3⟩:=qcF hk.2
  refine ⟨by simp [h1],by simp [h2],fun i p' h' a' e1 e2 e3=> ?_⟩
  cases i with
  |zero=>simp at e1 e2 e3;subst e1;subst e2;subst e3;exact hk.1
  |succ i=>exact h3 i p' h' a' (by simpa using e1) (by simpa using e2) (by simpa using e3)
 |[],[],_::_,h=>by simp [xt]at h
 |[],_::_,_,h=>by simp [xt]at h
 |_::_,[],_,h=>by simp [xt]at h
 |_::_,_::_,[],h=>by simp [xt]at h
def Y8(call:Call) (plan:List Dp) (is:List AI) (i:Nat) (s:FS):Option FS:=
 match plan[i]?,is[i]? with
 |some p,some ai=>j6 call p ai s
 |_,_=>none
theorem qea {call:Call} {plan:List Dp} {is:List AI}: ∀ (ps:List Dp) (as:List AI) (k:Nat) (st st1:St),plan.drop k=ps→is.drop k=as→zE call ps as st=some st1→
 ja (Y8 call plan is) (List.range' k as.length) (QU st)=some (QU st1)
 |[],[],k,st,st1,h1,h2,h=>by
  simp only [zE,Option.some.injEq]at h;subst h;rfl
 |p::ps,a::as,k,st,st1,h1,h2,h=>by
  simp only [zE]at h
  split at h
  case h_2=>cases h
  rename_i st2 hs
  have hp:plan[k]? =some p:=by
   have:(plan.drop k)[0]? =some p:=by rw [h1];rfl
   simpa using this
  have ha:is[k]? =some a:=by
   have:(is.drop k)[0]? =some a:=by rw [h2];rfl
   simpa using this
  simp only [List.length_cons,List.range'_succ,ja,Y8,hp,ha,qqc hs]
  exact qea ps as (k+1) st2 st1 (by rw [← List.drop_drop,h1];rfl) (by rw [← List.drop_drop,h2];rfl) h
 |[],_::_,k,st,st1,h1,h2,h=>by simp [zE]at h
 |_::_,[],k,st,st1,h1,h2,h=>by simp [zE]at h
section
variable {P:Program} {N n:Nat} {E:Env} {c:Cnt} {st:St} {tmps:Array Value}
theorem qiV: ∀ (ds:List Nat) {st:St} {E:Env} {c:Cnt},FRel N E st tmps c→(∀ d ∈ ds,n≤d)→
 ∃ E' c',E'.w=E.w∧E'.I=E.I∧KN n E E'∧FRel N E' (xl ds st) tmps c'∧cle c' c∧(∀ d ∈ ds,∀ j,E'.μ (d,j)=none)∧(∀ d,(∀ j,E.μ (d,j)=none)→ ∀ j,E'.μ (d,j)=none)
 |[],st,E,c,h,hd=>⟨E,c,rfl,rfl,KN.refl,h,qO _,fun d hd=>(by cases hd),fun d h=>h⟩
 |d::ds,st,E,c,h,hd=>by
  obtain ⟨c1,h1,h2,h3⟩:=QX d h.σ h.T
  obtain ⟨E',c',w1,i1,k1,f1,l1,m1,m2⟩:=qiV ds (st:=zh d st) (E:=E.drop d) (c:=c1) ⟨h.sz,h1,h2,(h.g.drop d).le h3⟩ (fun e he=>hd e (List.mem_cons_of_mem _ he))
  have hdn:=hd d (List.mem_cons_self)
  refine ⟨E',c',w1,i1,fun k hk=> ?_,f1,yJ l1 h3,fun e he=> ?_,fun e he=> ?_⟩
  ·rw [k1 k hk]
   simp only [Env.drop];rw [if_neg (by omega)]
  ·rcases List.mem_cons.1 he with rfl|he
   ·exact m2 e (fun j=>kX E e j)
   ·exact m1 e he
  ·exact m2 e fun j=>by
    simp only [Env.drop]
    split
    ·rfl
    ·exact he j
end
end Go.Vm
namespace Go.Vm
variable [Lay]
section
variable {P:Program} {N n:Nat} {ops:Array Oper} {o:Oper} {E:Env} {c:Cnt} {st st':St} {a:Act} {call:Call} {ai h:AI}
theorem qpg(hC:kO P call) (hq:roI h=true) (ht:yw P N o h=some ai) (hs:qi call st ai=some st') (hf:FRel N E st a.tmps c) {Q:Exit→Act→World→Prop} {K:Act→World→Prop}
 (hK: ∀ y E3 c5 r,E3.μ=E.μ→Rel E3.cl r y c5→Good E3 c5→Adv E c0 E3 c5→st'=xC o.dst r st→K (a.put o.dst y) E3.w):o.wp P a E.w K Q:=by
 unfold roI at hq
 split at hq
 case h_2=>cases hq
 rename_i d hh hs' fz
 simp only [yw]at ht
 split at ht
 case isFalse=>cases ht
 rename_i hd
 simp only [j0,Bool.and_eq_true,decide_eq_true_eq]at hd
 obtain ⟨hd,hn⟩:=hd
 unfold ZT at ht
 split at ht
 case h_2=>cases ht
 rename_i cl ho
 split at ht
 case h_2=>cases ht
 rename_i f hfn
 obtain ⟨f',xs',h1,h2,rfl⟩:=jB ht
 simp only [qi]at hs
 split at hs
 case h_2=>cases hs
 rename_i fv hfv
 split at hs
 case h_2=>cases hs
 rename_i g first caps xs hcal hxs
 have hrf:=qD hf.σ h1 hfv
 have hrx:=YI hf.σ h2 hxs
 unfold callee at hcal
 split at hcal
 case h_2=>cases hcal
 rename_i g0 fi0 ca0
 simp only [Option.some.injEq,Prod.mk.injEq]at hcal
 obtain ⟨rfl,rfl,rfl⟩:=hcal
 simp only [Rel]at hrf
 obtain ⟨fs,cs,c1,c2,hv,hr1,hr2,hcc⟩:=hrf
 obtain ⟨rfl,rfl⟩:=cz hcc.symm.symm rfl
 have hL:qj E (_++xs++_) (fs.toList++cl.args.toList.map a.eval++cs.toList) c0:=kD (kD hr1 hrx) hr2
 simp only [xE]at hs
 split at hs
 case h_2=>cases hs
 rename_i r outs hcall
 split at hs
 case isFalse=>cases hs
 rename_i hnt
 simp only [Option.some.injEq]at hs
 have hA:=qie hC (fz:=fz) hcall hnt hL hf.T hf.g
 have hrun:(execOp a.eval o).run P E.w=(callFunc g0 (fs.toList++cl.args.toList.map a.eval++cs.toList).toArray).run P E.w:=by
  rw [execOp];simp only [ho,resolve,hfn,hv,Deferred.ofValue,invoke,Sem.run_bind,Sem.run_pure,Result.andThen_ok]
  congr 2
  apply Array.ext'
  simp
 unfold Oper.wp
 rw [hrun]
 have hK': ∀ y w',(∃ E3 c5,E3.w=w'∧E3.μ=E.μ∧Rel E3.cl (fzV fz r) y c5∧Good E3 c5∧(∀ b,b < E.w.heap.size→w'.heap[b]? =E.w.heap[b]?)∧Adv E c0 E3 c5)→K (a.put o.dst y) w':=by
  rintro y w' ⟨E3,c5,rfl,k1,k2,k3,-,k4⟩
  exact hK y E3 c5 _ k1 k2 k3 k4 (by rw [hd];exact hs.symm)
 unfold jM at hA
 split at hA
 ·rename_i g' args w' he
  rw [he]
  obtain ⟨rfl,hc⟩:=hA
  refine hc.mono ?_
  rintro e w'' ⟨y,rfl,h3⟩
  exact hK' y w'' h3
 ·rename_i y w' he
  rw [he]
  exact hK' y w' hA
 ·exact hA.elim
theorem qdz {ops':Array Oper}: ∀ {os:List Oper} {hs is:List AI},xA P N n ops' os hs=some is→os.length=is.length∧ ∀ (i:Nat) (o:Oper),os[i]? =some o→
 ∃ h ai,hs[i]? =some h∧is[i]? =some ai∧trI P N n ops' o h=some ai
 |[],[],is,h=>by simp only [xA,Option.some.injEq]at h;subst h;exact ⟨rfl,fun i o h=>by simp at h⟩
 |[],_::_,is,h=>by simp [xA]at h
 |_::_,[],is,h=>by simp [xA]at h
 |o::os,x::hs,is,h=>by
  simp only [xA]at h
  split at h
  case h_2=>cases h
  rename_i i is' h1 h2
  simp only [Option.some.injEq]at h;subst h
  obtain ⟨h3,h4⟩:=qdz h2
  refine ⟨by simp [h3],fun j o' hj=> ?_⟩
  cases j with
  |zero=>simp at hj;subst hj;exact ⟨x,i,rfl,rfl,h1⟩
  |succ j=>simpa using h4 j o' (by simpa using hj)
end
end Go.Vm
namespace Go.Vm
variable [Lay]
section
variable {P:Program} {N n:Nat} {ops:Array Oper} {call:Call} {plan:List Dp} {hs is:List AI}
theorem qkc {listed:Array Bool} {i:Nat} {p:Dp} {ai:AI} (hl:listed.size=ops.size) (hi:i < ops.size) (hp:plan[i]? =some p) (ha:is[i]? =some ai) (hlen:is.length=ops.size)
 (hpairs:K6 plan is (JS ops)=true) {d:Nat} (h:xG plan is (listed.setIfInBounds i true) d):xG plan is listed d∧(p.k ≠ 0→qt ai ≠ some d):=by
 obtain ⟨j,q,aj,h1,h2,h3,h4,h5⟩:=h
 have hne:j ≠ i:=by
  rintro rfl
  have:(listed.setIfInBounds j true).getD j true=true:=by simp [Array.getD_eq_getD_getElem?,hl,hi]
  rw [this]at h1;cases h1
 rw [getD_set_ne true (Ne.symm hne)]at h1
 refine ⟨⟨j,q,aj,h1,h2,h3,h4,h5⟩,fun hk hd=> ?_⟩
 simp only [K6,List.all_eq_true,List.mem_range]at hpairs
 have hj:j < is.length:=(List.getElem?_eq_some_iff.1 h3).1
 rcases Nat.lt_or_gt_of_ne hne with hlt|hlt
 ·have:=hpairs i (by omega) j hlt
  simp only [h2,h3,hp,ha,Bool.and_eq_true,Bool.or_eq_true,beq_iff_eq]at this
  have h6:=this.2
  rcases h6 with (h6|h6)|h6
  ·exact h4 h6
  ·exact hk h6
  ·rw [h5,hd]at h6;simp [XG]at h6
 ·have:=hpairs j hj i hlt
  simp only [h2,h3,hp,ha,Bool.and_eq_true,Bool.or_eq_true,beq_iff_eq]at this
  have h6:=this.2
  rcases h6 with (h6|h6)|h6
  ·exact hk h6
  ·exact h4 h6
  ·rw [h5,hd]at h6;simp [XG]at h6
theorem qiO {o:Oper} {h ai:AI} (ht:yw P N o h=some ai): ∀ t,o.dst=some t→t < N:=by
 cases h<;>simp only [yw]at ht<;>(first|(cases ht;done)|skip)<;>(split at ht)<;>(first|(cases ht;done)|skip)<;>rename_i hd
 case st.isTrue=>
  intro t h;have hd':o.dst=none:=by simpa using hd
  rw [hd']at h;cases h
 case mset.isTrue=>
  intro t h;have hd':o.dst=none:=by simpa using hd
  rw [hd']at h;cases h
 case mes.isTrue=>
  intro t h;have hd':o.dst=none:=by simpa using hd
  rw [hd']at h;cases h
 case call.isTrue=>
  simp only [j0,Bool.and_eq_true,decide_eq_true_eq]at hd
  intro t h
  obtain ⟨h1,h2⟩:=hd
  rw [← h1,h]at h2;simpa using h2
 all_goals
  intro t h
  obtain ⟨h1,h2⟩:=zp hd
  rw [h1]at h;cases h;exact h2
theorem qqt {o:Oper} {h ai:AI} (ht:trI P N n ops o h=some ai): ∀ t,o.dst=some t→t < N:=by
 unfold trI at ht
 split at ht
 ·split at ht
  case h_2=>cases ht
  split at ht
  case isFalse=>cases ht
  rename_i hc
  rw [Option.map_eq_some_iff]at ht
  obtain ⟨i',hi',rfl⟩:=ht
  exact qiO hi'
 ·split at ht
  case isFalse=>cases ht
  rename_i hc
  simp only [Bool.and_eq_true]at hc
  intro t h
  obtain ⟨h1,h2⟩:=zp hc.2
  rw [h1]at h;cases h;exact h2
 ·split at ht
  case isFalse=>cases ht
  exact qiO ht
theorem qj0(hC:kO P call) (hlen:is.length=ops.size) (hpl:plan.length=is.length) (htr:xA P N n ops ops.toList hs=some is) (hops:xt n plan hs is=true) (hpairs:K6 plan is (JS ops)=true)
 {E0:Env} {k0:Cnt} {a0:Act} {Q:Exit→Act→World→Prop} (listed:Array Bool) (i:Nat) (s s1:FS) (a:Act) (w:World) (K:Act→World→Prop) (hsz:listed.size=ops.size)
 (hi:i ∈ Region.ready .any ops listed) (hF:Y8 call plan is i s=some s1) (hI: ∃ E c,E.w=w∧InvD N n E0 k0 a0 (xG plan is listed) s a E c)
 (hK: ∀ a' w',(∃ E c,E.w=w'∧InvD N n E0 k0 a0 (xG plan is (listed.setIfInBounds i true)) s1 a' E c)→K a' w'):wpOp P ops Q i K a w:=by
 obtain ⟨E,c,rfl,hI⟩:=hI
 obtain ⟨h0,o,ho,-⟩:=mem_ready.1 hi
 have hin:i < ops.size:=(Array.getElem?_eq_some_iff.1 ho).1
 obtain ⟨h,ai,hh,hai,ht⟩:=(qdz htr).2 i o (by simpa using ho)
 unfold Y8 at hF
 split at hF
 case h_2=>cases hF
 rename_i p ai' hp hai'
 rw [hai]at hai';cases hai'
 have hop:=(qcF hops).2.2 i p h ai hp hh hai
 obtain ⟨st',hg,hsome,rfl⟩:=Jq.1 hF
 simp only [qaw,Bool.and_eq_true,Bool.or_eq_true,beq_iff_eq]at hop
 obtain ⟨⟨hkind,hnd⟩,hal⟩:=hop
 have hnd:=qgQ hnd
 obtain ⟨L,hL,hT⟩:=hI.T
 obtain ⟨cK,cR,hFR,hcR,hle⟩:=hI.sub hL hT (qM ai) hnd
 have hfs:=fun d=> @qkc _ ops plan is listed i p ai hsz hin hp hai hlen hpairs d
 obtain ⟨hdst,hcases⟩:=qqs ht hg hFR
 have hal':p.k ≠ 0→(∀ d,qt ai=some d→n≤d)∧(∀ k ∈ p.ks,qt ai ≠ some k.1)∧(∀ d,qt ai=some d→xG plan is listed d):=by
  intro hk
  have h1:=hal.resolve_left hk
  refine ⟨fun d hd=> ?_,fun k hk' hd=> ?_,fun d hd=>⟨i,p,ai,h0,hp,hai,hk,hd⟩⟩
  ·rw [hd]at h1;simp only [Bool.and_eq_true,decide_eq_true_eq]at h1;exact h1.1
  ·rw [hd]at h1
   simp only [Bool.and_eq_true,decide_eq_true_eq,List.all_eq_true,bne_iff_ne,ne_eq]at h1
   exact h1.2 k hk' rfl
 have hdN: ∀ t,qt ai=some t→t < N:=by rw [hdst];exact qqt ht
 have hstay:p.k=0→st'=st'→(∀ (x:V) (y:Value),(qt ai=none)→InvD N n E0 k0 a0 (xG plan is (listed.setIfInBounds i true)) (yD (qt ai) st'.σ s.1,yF p (qt ai) st'.T s.2) (a.put (qt ai) y) E c):=by
  intro hk _ x y hn
  have e1:yD none st'.σ s.1=s.1:=by funext t;simp [yD]
  have e2:yF p none st'.T s.2=s.2:=by funext k;simp [yF,qcI hk]
  rw [hn,e1,e2]
  exact ⟨hI.sz,hI.df,hI.σ,hI.T,hI.g,hI.kn,hI.adv,fun d hd=>hI.fr d (hfs d hd).1⟩
 have hquiet:p.k=0→ ∀ d x y,qt ai=some d→st'=St.put {σ:=yB s.1 (qM ai),T:=zM s.2 p.ks} d x→Rel E x y c0→K (a.put o.dst y) E.w:=by
  intro hk d x y hd hst hx
  refine hK _ _ ⟨E,c,rfl, ?_⟩
  rw [← hdst,hd,hst]
  exact hI.quiet hk (hdN d hd) hx fun d' hd'=>(hfs d' hd').1
 have hro:p.k=2→ ∀ y E3 c5 r,E3.μ=E.μ→Rel E3.cl r y c5→Good E3 c5→Adv E c0 E3 c5→st'=xC o.dst r {σ:=yB s.1 (qM ai),T:=zM s.2 p.ks}→K (a.put o.dst y) E3.w:=by
  intro hk y E3 c5 r k1 k2 k3 k4 k5
  have hk0:p.k ≠ 0:=by omega
  obtain ⟨g1,g2,g3⟩:=hal' hk0
  rw [← hdst]at k5 ⊢
  obtain ⟨E4,c4,hw4,hI4⟩:=hI.ro (fr':=xG plan is (listed.setIfInBounds i true)) hL hT hk hdN g3 (fun d hd=>⟨(hfs d hd).1,(hfs d hd).2 hk0⟩) g1 g2 k5 (fun _ _=>trivial) k1 k2 k3 k4
  rw [← hw4]
  exact hK _ _ ⟨E4,c4,rfl,hI4⟩
 unfold wpOp
 rw [ho]
 simp only
 by_cases hk1:p.k=1
 ·refine Xh hC ht hg hFR ?_
  intro y E' c' hF' hkn hkp hA
  obtain ⟨g1,g2,g3⟩:=hal' (by omega)
  rw [← hdst]at hF' hkp ⊢
  obtain ⟨c'',hI'⟩:=hI.write (fr':=xG plan is (listed.setIfInBounds i true)) hL hcR hle hk1 hdN g3 (fun d hd=>⟨(hfs d hd).1,(hfs d hd).2 (by omega)⟩) hF' hkn hkp hA
  exact hK _ _ ⟨E',c'',rfl,hI'⟩
 rcases hkind with (⟨hk,hq⟩|hk)|⟨hk,hq⟩
 ·rcases hcases with ⟨hw,hn1,hn2⟩|⟨hw,ai1,h1,h2⟩
  ·rw [hw,if_neg (by simp)]
   cases hd:qt ai with
   |none=>
    have:=hstay hk rfl (.d) undef hd
    rw [hdst]at this
    exact hK _ _ ⟨E,c,rfl,by rw [hdst];exact this⟩
   |some d=>exact hquiet hk d ye undef hd (hn2 d (by rw [← hdst,hd])).2 qiT
  ·rw [if_pos hw]
   refine .inl (qjL (qqr hq h1 h2 hFR) ?_)
   intro d x y hd hdn hst hx
   exact hquiet hk d x y (by rw [hdst,hd]) hst hx
 ·exact absurd hk hk1
 ·rcases hcases with ⟨hw,hn1,hn2⟩|⟨hw,ai1,h1,h2⟩
  ·rw [hw,if_neg (by simp)]
   refine hro hk undef E c0 ye rfl (by simp [ye,undef,Rel,yj]) (hI.g.le fun _=>Nat.zero_le _) (Adv.refl _ _) ?_
   cases hd:o.dst with
   |none=>simp only [xC];exact hn1 hd
   |some d=>
    simp only [xC,Qy,ye,zb,Bool.not_true,Bool.false_eq_true,if_false]
    exact (hn2 d hd).2
  ·rw [if_pos hw]
   exact .inl (qpg hC hq h1 h2 hFR fun y E3 c5 r k1 k2 k3 k4 k5=>hro hk y E3 c5 r k1 k2 k3 k4 k5)
end
end Go.Vm
namespace Go.Vm
variable [Lay]
section
variable {P:Program} {N n:Nat} {ops:Array Oper} {call:Call} {plan:List Dp} {hs is:List AI}
theorem JR: ∀ {plan:List Dp} {hs is:List AI},xt n plan hs is=true→ ∀ d ∈ zO plan is,n≤d
 |[],[],[],h,d,hd=>by simp [zO]at hd
 |p::ps,h::hs,a::is,hk,d,hd=>by
  simp only [xt,Bool.and_eq_true]at hk
  simp only [zO]at hd
  split at hd
  ·exact JR hk.2 d hd
  ·rename_i hp
   split at hd
   ·rename_i e he
    rcases List.mem_cons.1 hd with rfl|hd
    ·have h1:=hk.1
     simp only [qaw,Bool.and_eq_true,Bool.or_eq_true,beq_iff_eq,he,decide_eq_true_eq]at h1
     exact (h1.2.resolve_left hp).1
    ·exact JR hk.2 d hd
   ·exact JR hk.2 d hd
 |[],[],_::_,h,d,hd=>by simp [xt]at h
 |[],_::_,_,h,d,hd=>by simp [xt]at h
 |_::_,[],_,h,d,hd=>by simp [xt]at h
 |_::_,_::_,[],h,d,hd=>by simp [xt]at h
theorem qd7: ∀ {plan:List Dp} {is:List AI} {i:Nat} {p:Dp} {ai:AI} {d:Nat},plan[i]? =some p→is[i]? =some ai→p.k ≠ 0→qt ai=some d→d ∈ zO plan is
 |[],is,i,p,ai,d,h1,h2,h3,h4=>by simp at h1
 |q::ps,[],i,p,ai,d,h1,h2,h3,h4=>by simp at h2
 |q::ps,b::is,0,p,ai,d,h1,h2,h3,h4=>by
  simp at h1 h2;subst h1;subst h2
  simp only [zO,if_neg h3,h4];exact List.mem_cons_self
 |q::ps,b::is,i+1,p,ai,d,h1,h2,h3,h4=>by
  have:=qd7 (plan:=ps) (is:=is) (by simpa using h1) (by simpa using h2) h3 h4
  simp only [zO]
  split
  ·exact this
  ·split
   ·exact List.mem_cons_of_mem _ this
   ·exact this
theorem qjZ(hC:kO P call) (hchk:dOk P n ops plan hs is=true) (htr:xA P N n ops ops.toList hs=some is) {st st1:St} {a:Act} {E:Env} {c:Cnt}
 (hrun:zE call plan is (xl (zO plan is) st)=some st1) (hnd:QK st1.T=true) (hf:FRel N E st a.tmps c) {Q:Exit→Act→World→Prop}
 (hQ: ∀ a' E' c',FRel N E' st1 a'.tmps c'→a'.defers=a.defers→KN n E E'→Adv E c E' c'→Q .normal a' E'.w) {id:Nat}:(Code.region id ops true).wp P Q a E.w:=by
 simp only [dOk,Bool.and_eq_true]at hchk
 obtain ⟨⟨⟨⟨hm,hanc⟩,hback⟩,hpairs⟩,hops⟩:=hchk
 obtain ⟨hl1,hl2,-⟩:=qcF hops
 have hlen:is.length=ops.size:=by have:=(qdz htr).1;rw [Array.length_toList]at this;exact this.symm
 let E1:Env:={E with w:={E.w with drawn:=E.w.drawn+1}}
 have hM: ∀ c,Mono E E1 c:=fun c=>⟨fun τ b hb=>⟨hb,rfl⟩,fun b _=>rfl,fun k l hk=>hk⟩
 have hf1:FRel N E1 st a.tmps c:=⟨hf.sz,xP hf.σ (hM _),zU hf.T (hM _),⟨hf.g.one,hf.g.imm,hf.g.sub,hf.g.bnd,hf.g.lay.next (fun b hb=>hb) (fun b hb=>rfl)⟩⟩
 have hA1:Adv E c E1 c:=⟨fun b n h=>h,rfl,rfl,rfl,Nat.le_refl _,fun _ _ _=>rfl,fun _ _ h=>h,fun _ h=> .inl h,fun _ _ h=> .inl h⟩
 obtain ⟨E2,c2,hw2,hI2,hk2,hf2,hle2,hfree,-⟩:=qiV (n:=n) (zO plan is) hf1 (JR hops)
 have hA2:Adv E c E2 c2:=hA1.trans (kS hw2 hI2 hle2)
 have hK2:KN n E E2:=fun k hk=>hk2 k hk
 refine wp_region_any hm ?_
 have hsz:(Array.replicate ops.size false).size=ops.size:=by simp
 have hget: ∀ i,i < ops.size→(Array.replicate ops.size false).getD i true=false:=fun i hi=>by simp [Array.getD_eq_getD_getElem?,hi]
 have hrem:xg ops.size (Array.replicate ops.size false)=List.range ops.size:=by
  unfold xg
  rw [List.filter_eq_self]
  intro i hi
  rw [hget i (List.mem_range.1 hi)];rfl
 have hInv0:InvD N n E c a (xG plan is (Array.replicate ops.size false)) (QU (xl (zO plan is) st)) a E2 c2:=
  ⟨hf2.sz,rfl,fun t x hx=>hf2.σ t x hx,⟨_,fun k=>rfl,hf2.T⟩,hf2.g,hK2,hA2,fun d ⟨i,p,ai,_,h2,h3,h4,h5⟩=>hfree d (qd7 h2 h3 h4 h5)⟩
 refine qqz (F:=Y8 call plan is) hanc hback ?_ (fun listed s a' w'=> ∃ E' c',E'.w=w'∧InvD N n E c a (xG plan is listed) s a' E' c')
  (qj0 hC hlen hl1 htr hops hpairs) (s':=QU st1) ?_ ops.size _ (QU (xl (zO plan is) st)) a _ hsz (by rw [hrem];simp) ?_ ?_ ⟨E2,c2,hw2,hInv0⟩
 ·intro j i hj hi hcon s s1 s2 h1 h2
  simp only [K6,List.all_eq_true,List.mem_range]at hpairs
  have:=hpairs i (by omega) j hj
  unfold Y8 at h1 h2 ⊢
  split at h1
  case h_2=>cases h1
  rename_i pj aj e1 e2
  split at h2
  case h_2=>cases h2
  rename_i pi ai e3 e4
  simp only [e1,e2,e3,e4,Bool.and_eq_true,Bool.or_eq_true]at this
  rcases this.1 with h3|h3
  ·rw [hcon]at h3;cases h3
  ·obtain ⟨s1',g1,g2⟩:=qqi h3 h1 h2
   exact ⟨s1',g1,g2⟩
 ·rintro listed a' w' ⟨E',c',rfl,hI⟩
  obtain ⟨L,hL,hT⟩:=hI.T
  obtain ⟨c'',h1,h2⟩:=qiL hnd hT (fun k x hk=>by rw [hL];exact hk)
  exact hQ a' E' c'' ⟨hI.sz,fun t x hx=>hI.σ t x hx,h1,hI.g.le h2⟩ hI.df hI.kn (hI.adv.le h2)
 ·intro k o hk hl
  rw [hget k (Array.getElem?_eq_some_iff.1 hk).1]at hl;cases hl
 ·rw [hrem,List.range_eq_range', ← hlen]
  exact qea plan is 0 _ _ rfl rfl hrun
end
end Go.Vm
namespace Go.Vm
variable [Lay]
section
variable {E E':Env}
end
def zF(E:Env):Env:={E with μ:=fun k=>if NB≤k.1 then some (.emp none)else E.μ k}
mutual
theorem K3(E:Env) (d i:Nat) (nm:Bool) (hd:nm=true→NB≤d): ∀ (x:V) (y:Value) (c:Cnt),Rel E x y c→Rel (zF E) (qK d i nm x) y c
 | .v x,y,c,h=>by simpa only [Rel,qK]using h
 | .p k a b,y,c,h=>by
   simp only [qK]
   split
   ·simp only [Rel]at h ⊢;exact h.1
   ·rename_i hk
    simp only [Rel,zF,if_neg hk]at h ⊢;exact h
 | .s k a b,y,c,h=>by
   simp only [qK]
   split
   ·simp only [Rel]at h ⊢;exact h.1
   ·rename_i hk
    simp only [Rel,zF,if_neg hk]at h ⊢;exact h
 | .q τ xs a b,y,c,h=>by simp only [Rel,qK]at h ⊢;exact h
 | .i τ xs,y,c,h=>by simp only [Rel,qK]at h ⊢;exact h
 | .o e xs,y,c,h=>by simp only [Rel,qK]at h ⊢;exact h
 | .n e,y,c,h=>by
   simp only [qK]
   split
   ·rename_i hn
    simp only [Rel]at h ⊢
    obtain ⟨rfl,rfl⟩:=h
    refine ⟨by trivial,.inl ⟨none,by simp only [zF,if_pos (hd hn)], ?_⟩⟩
    simp
   ·simpa only [Rel]using h
 | .b x,y,c,h=>by simp only [Rel,qK]at h ⊢;exact h
 | .f fn xs ys,y,c,h=>by
   simp only [Rel,qK]at h ⊢
   obtain ⟨fs,cs,c1,c2,hy,h1,h2,h3⟩:=h
   exact ⟨fs,cs,c1,c2,hy,K2 E d i false (fun h=>by cases h) xs _ _ h1,K2 E d i false (fun h=>by cases h) ys _ _ h2,h3⟩
 | .a xs,y,c,h=>by
   simp only [Rel,qK]at h ⊢
   obtain ⟨vs,hy,h⟩:=h
   exact ⟨vs,hy,K2 E d i nm hd xs _ _ h⟩
 | .t xs,y,c,h=>by
   simp only [Rel,qK]at h ⊢
   obtain ⟨vs,hy,h⟩:=h
   exact ⟨vs,hy,K2 E d i false (fun h=>by cases h) xs _ _ h⟩
 | .m k,y,c,h=>by
   simp only [qK]
   split
   ·simp only [Rel]at h ⊢;exact h.1
   ·rename_i hk
    simp only [Rel,zF,if_neg hk]at h ⊢;exact h
 | .w none es,y,c,h=>by simp only [Rel,qK]at h ⊢;exact h
 | .w (some _) es,y,c,h=>by simp only [Rel,qK]at h ⊢;exact h
 | .d,y,c,h=>by simpa only [Rel,qK]using h
theorem K2(E:Env) (d i:Nat) (nm:Bool) (hd:nm=true→NB≤d): ∀ (xs:List V) (ys:List Value) (c:Cnt),qj E xs ys c→qj (zF E) (zK d i nm xs) ys c
 |[],ys,c,h=>by simpa only [qj,zK]using h
 |x::xs,ys,c,h=>by
  simp only [qj,zK]at h ⊢
  obtain ⟨y,ys',c1,c2,hy,h1,h2,h3⟩:=h
  exact ⟨y,ys',c1,c2,hy,K3 E d i nm hd x _ _ h1,K2 E d (i+1) nm hd xs _ _ h2,h3⟩
end
theorem qcy(d:Nat) (nm:Bool): ∀ (xs:List V) (i:Nat),(zK d i nm xs).length=xs.length
 |[],_=>rfl
 |x::xs,i=>by simp only [zK,List.length_cons,qcy d nm xs (i+1)]
theorem qcz(d i:Nat) (nm:Bool) (x:V):(qK d i nm x).cells.length=x.cells.length:=by
 cases x<;>simp only [qK]<;>first
  |rfl
  |(split<;>rfl)
  |(simp only [V.cells,qcy])
theorem qgy(E:Env) (d:Nat) {e:Nat}: ∀ (xs:List V) (i:Nat) (ys:List Value) (c:Cnt),qk E e xs ys c→qk (zF E) e (zK d i false xs) ys c
 |[],i,ys,c,h=>h
 |x::xs,i,ys,c,h=>by
  simp only [qk,zK]at h ⊢
  obtain ⟨y,ys',c1,c2,h1,h2,h3,h4,h5,h6,h7⟩:=h
  exact ⟨y,ys',c1,c2,h1,h2,by rw [qcz];exact h3,h4,K3 E d i false (fun h=>by cases h) _ _ _ h5,qgy E d xs (i+1) _ _ h6,h7⟩
theorem qc0 {E E':Env} (hc:E'.cl=E.cl) {e:Nat} {xs:List V} {ys:List Value} {c:Cnt} (h:qk E e xs ys c) (hx:qx xs=true):qk E' e xs ys c:=
 yo (by rw [hc];exact qaE h hx) (kB E' c)
theorem qng(E:Env) (d i:Nat) (bx:Bool) (hd:NB≤d) {e:Nat} {xs:List V} {ys:List Value} {c:Cnt} (h:qk E e xs ys c):qk (zF E) e (x9 d i bx xs) ys c:=by
 have hall: ∀ xs,qk E e xs ys c→qk (zF E) e (if qx xs then xs else zK 0 0 false xs) ys c:=by
  intro xs h
  split
  ·rename_i hc;exact qc0 (E:=E) (E':=zF E) rfl h hc
  ·exact qgy E 0 xs 0 ys c h
 unfold x9
 split
 ·rename_i x
  have hone: ∀ g:V→V,(∀ y c,Rel E x y c→Rel (zF E) (g x) y c)→(g x).cells.length=x.cells.length→qk (zF E) e [g x] ys c:=by
   intro g hg hl
   simp only [qk]at h ⊢
   obtain ⟨y,ys',c1,c2,h1,h2,h3,h4,h5,h6,h7⟩:=h
   exact ⟨y,ys',c1,c2,h1,h2,by rw [hl];exact h3,h4,hg _ _ h5,h6,h7⟩
  split
  ·exact hone (qK d i true) (fun y c h=>K3 E d i true (fun _=>hd) x y c h) (qcz _ _ _ _)
  ·split
   ·rename_i hc;exact qc0 (E:=E) (E':=zF E) rfl h (by simp only [qx,hc,Bool.and_self])
   ·exact hone (qK 0 0 false) (fun y c h=>K3 E 0 0 false (fun h=>by cases h) x y c h) (qcz _ _ _ _)
 ·exact hall _ h
theorem qe3(E:Env) {k:Key} (hk:NB≤k.1) (e:Nat):zW (zF E) k (e,[]) c0:= .inr (.inl ⟨⟨none,by simp only [zF,if_pos hk]⟩,rfl,rfl⟩)
theorem qcx(E:Env) (d:Nat) (hd:NB≤d): ∀ (xs:List V) (i:Nat),qm (zF E) (jx d i xs) c0
 |[],i=>by simp only [jx,qm]
 |x::xs,i=>by
  cases x<;>simp only [jx]<;>first
   |exact qcx E d hd xs (i+1)
   |exact ⟨c0,c0,qe3 E hd _,qcx E d hd xs (i+1),rfl⟩
theorem qgB(E:Env) (d i:Nat) (hd:NB≤d) (x:V):qm (zF E) (yb d i x) c0:=by
 cases x<;>simp only [yb]<;>first
  |exact qcx E d hd _ i
  |exact ⟨c0,c0,qe3 E hd _,rfl,rfl⟩
  |rfl
theorem qnh {E:Env} {σ:Sl} {tmps:Array Value} (h:zw E σ tmps):zw (zF E) (xp σ) tmps:=by
 have hget: ∀ (σ:Sl) t z,qz (xp σ) t=some z→ ∃ x,qz σ t=some x∧z=qK (NB+t) 0 true x:=by
  intro σ
  induction σ with
  |nil=>intro t z h;simp [xp,qz]at h
  |cons p r ih=>
   obtain ⟨u,x⟩:=p
   intro t z h
   simp only [xp,qz]at h ⊢
   split at h
   ·rename_i hu;subst hu
    simp only [Option.some.injEq]at h
    rw [if_pos rfl];exact ⟨x,rfl,h.symm⟩
   ·rename_i hu;rw [if_neg hu];exact ih t z h
 intro t z hz
 obtain ⟨x,hx,rfl⟩:=hget σ t z hz
 obtain ⟨y,h1,h2⟩:=h t x hx
 exact ⟨y,h1,K3 E _ 0 true (fun _=>Nat.le_add_right _ _) x y c0 h2⟩
theorem qgz(E:Env): ∀ (σ:Sl),qm (zF E) (ka σ) c0
 |[]=>rfl
 |(t,x)::r=>by
  simp only [ka]
  have:=xk (qgB E (NB+t) 0 (Nat.le_add_right _ _) x) (qgz E r)
  rwa [zc]at this
theorem qgA {E:Env} (bx:List Key): ∀ {T:Mem} {c:Cnt},qm E T c→ ∃ c',qm (zF E) (yN bx T) c'∧cle c' c
 |[],c,h=>⟨c,h,qO _⟩
 |(k,e,xs)::r,c,h=>by
  obtain ⟨c1,c2,h1,h2,rfl⟩:=h
  obtain ⟨c3,h3,h4⟩:=qgA bx h2
  simp only [yN]
  split
  ·exact ⟨c3,h3,yJ h4 (yU _ _)⟩
  ·rename_i hk
   have hom:qm (zF E) (ZF (2*NB+k.1) (10*k.2) (y6 k bx) xs) c0:=by
    unfold ZF
    split
    ·split
     ·exact qgB E _ _ (by omega) _
     ·rfl
    ·rfl
   have hob:zW (zF E) k (e,x9 (2*NB+k.1) (10*k.2) (y6 k bx) xs) c1:=by
    rcases h1 with ⟨b,ents,clk,es,q1,q2,q3,q4,q5⟩|⟨⟨A,hA⟩,hn,hc⟩|⟨b,base,lim,cells,T,fz,c5,g1,g2,g3,g4,g5,g6,rfl⟩
    ·simp only at q4;subst q4
     refine .inl ⟨b,ents,clk,es,by simp only [zF,if_neg hk];exact q1,q2,q3, ?_,q5⟩
     simp [x9,qK,clE,clB]
    ·simp only at hn;subst hn
     refine .inr (.inl ⟨⟨A,by simp only [zF,if_neg hk];exact hA⟩, ?_,hc⟩)
     simp [x9,qx]
    ·have hlen:(x9 (2*NB+k.1) (10*k.2) (y6 k bx) xs).length=xs.length:=by
      unfold x9
      split
      ·split
       ·rfl
       ·split<;>rfl
      ·split
       ·rfl
       ·exact qcy _ _ _ _
     refine .inr (.inr ⟨b,base,lim,cells,T,fz,c5,by simp only [zF,if_neg hk];exact g1,g2,g3,g4, ?_, ?_,rfl⟩)
     ·simp only at g5 ⊢;rw [hlen];exact g5
     ·simp only at g6 ⊢;rw [hlen];exact qng E _ _ _ (by omega) g6
   refine ⟨qg c1 c3, ?_,xD (qO _) h4⟩
   have:=xk hom (show qm (zF E) ((k,e,x9 (2*NB+k.1) (10*k.2) (y6 k bx) xs)::yN bx r) (qg c1 c3)from ⟨c1,c3,hob,h3,rfl⟩)
   rwa [zc]at this
def kG(tb:List Key) (E:Env):Env:={E with μ:=fun k=>if k.1=CN then (tb[k.2]?).bind E.μ else E.μ k}
theorem qfu {k:Key}: ∀ {tb:List Key} {i j:Nat},QG k i tb=some j→i≤j∧tb[j - i]? =some k
 |[],i,j,h=>by simp [QG]at h
 |u::r,i,j,h=>by
  simp only [QG]at h
  split at h
  ·rename_i hu;simp only [Option.some.injEq]at h;subst h;subst hu;simp
  ·obtain ⟨h1,h2⟩:=qfu h
   refine ⟨by omega, ?_⟩
   rw [show j - i=(j - (i+1))+1 by omega]
   simpa using h2
theorem ZM {tb:List Key} {E:Env} {k k':Key} {l:Loc} (h:xh tb k=some k') (hl:E.μ k=some l):(kG tb E).μ k'=some l:=by
 unfold xh at h
 split at h
 ·rename_i i hi
  simp only [Option.some.injEq]at h;subst h
  obtain ⟨-,h2⟩:=qfu hi
  simp only [Nat.sub_zero]at h2
  simp only [kG,if_true,h2,Option.bind_some,hl]
 ·split at h
  ·cases h
  ·rename_i hk
   simp only [Option.some.injEq]at h;subst h
   simp only [kG,if_neg hk,hl]
mutual
theorem qc9(tb:List Key) (E:Env): ∀ (x:V) (y:Value) (c:Cnt),Rel E x y c→Rel (kG tb E) (qQ tb x) y c
 | .v x,y,c,h=>by simpa only [Rel,qQ]using h
 | .p k a b,y,c,h=>by
   simp only [qQ]
   simp only [Rel]at h
   obtain ⟨h0,b',base,e,lim,h1,h2⟩:=h
   split
   ·rename_i k' hk
    simp only [Rel]
    exact ⟨h0,b',base,e,lim,ZM hk h1,h2⟩
   ·simp only [Rel];exact h0
 | .s k a b,y,c,h=>by
   simp only [qQ]
   simp only [Rel]at h
   obtain ⟨h0,h⟩:=h
   split
   ·rename_i k' hk
    simp only [Rel]
    refine ⟨h0, ?_⟩
    rcases h with ⟨A,h1,h2⟩|⟨b',base,e,lim,cap,A,h1,h2⟩
    ·exact .inl ⟨A,ZM hk h1,h2⟩
    ·exact .inr ⟨b',base,e,lim,cap,A,ZM hk h1,h2⟩
   ·simp only [Rel];exact h0
 | .q τ xs a b,y,c,h=>by simp only [Rel,qQ]at h ⊢;exact h
 | .i τ xs,y,c,h=>by simp only [Rel,qQ]at h ⊢;exact h
 | .o e xs,y,c,h=>by simp only [Rel,qQ]at h ⊢;exact h
 | .n e,y,c,h=>by simpa only [Rel,qQ]using h
 | .b x,y,c,h=>by simp only [Rel,qQ]at h ⊢;exact h
 | .f fn xs ys,y,c,h=>by
   simp only [Rel,qQ]at h ⊢
   obtain ⟨fs,cs,c1,c2,hy,h1,h2,h3⟩:=h
   exact ⟨fs,cs,c1,c2,hy,Jg tb E xs _ _ h1,Jg tb E ys _ _ h2,h3⟩
 | .a xs,y,c,h=>by
   simp only [Rel,qQ]at h ⊢
   obtain ⟨vs,hy,h⟩:=h
   exact ⟨vs,hy,Jg tb E xs _ _ h⟩
 | .t xs,y,c,h=>by
   simp only [Rel,qQ]at h ⊢
   obtain ⟨vs,hy,h⟩:=h
   exact ⟨vs,hy,Jg tb E xs _ _ h⟩
 | .m k,y,c,h=>by
   simp only [qQ]
   simp only [Rel]at h
   obtain ⟨h0,b',h1,h2⟩:=h
   split
   ·rename_i k' hk
    simp only [Rel]
    exact ⟨h0,b',ZM hk h1,h2⟩
   ·simp only [Rel];exact h0
 | .w none es,y,c,h=>by simp only [Rel,qQ]at h ⊢;exact h
 | .w (some _) es,y,c,h=>by simp only [Rel,qQ]at h ⊢;exact h
 | .d,y,c,h=>by simpa only [Rel,qQ]using h
theorem Jg(tb:List Key) (E:Env): ∀ (xs:List V) (ys:List Value) (c:Cnt),qj E xs ys c→qj (kG tb E) (zP tb xs) ys c
 |[],ys,c,h=>by simpa only [qj,zP]using h
 |x::xs,ys,c,h=>by
  simp only [qj,zP]at h ⊢
  obtain ⟨y,ys',c1,c2,hy,h1,h2,h3⟩:=h
  exact ⟨y,ys',c1,c2,hy,qc9 tb E x _ _ h1,Jg tb E xs _ _ h2,h3⟩
end
theorem qc8(tb:List Key): ∀ (xs:List V),(zP tb xs).length=xs.length
 |[]=>rfl
 |x::xs=>by simp only [zP,List.length_cons,qc8 tb xs]
theorem qpd(tb:List Key) (x:V):(qQ tb x).cells.length=x.cells.length:=by
 cases x<;>simp only [qQ]<;>first
  |rfl
  |(split<;>rfl)
  |(simp only [V.cells,qc8])
theorem qh9(tb:List Key) (E:Env) {e:Nat}: ∀ (xs:List V) (ys:List Value) (c:Cnt),qk E e xs ys c→qk (kG tb E) e (zP tb xs) ys c
 |[],ys,c,h=>h
 |x::xs,ys,c,h=>by
  simp only [qk,zP]at h ⊢
  obtain ⟨y,ys',c1,c2,h1,h2,h3,h4,h5,h6,h7⟩:=h
  exact ⟨y,ys',c1,c2,h1,h2,by rw [qpd];exact h3,h4,qc9 tb E _ _ _ h5,qh9 tb E xs _ _ h6,h7⟩
theorem qpc {E:Env} (tb:List Key) {σ:Sl} {tmps:Array Value} (h:zw E σ tmps):zw (kG tb E) (jE tb σ) tmps:=by
 have hget: ∀ (σ:Sl) t z,qz (jE tb σ) t=some z→ ∃ x,qz σ t=some x∧z=qQ tb x:=by
  intro σ
  induction σ with
  |nil=>intro t z h;simp [jE,qz]at h
  |cons p r ih=>
   obtain ⟨u,x⟩:=p
   intro t z h
   simp only [jE,qz]at h ⊢
   split at h
   ·rename_i hu;subst hu
    simp only [Option.some.injEq]at h
    rw [if_pos rfl];exact ⟨x,rfl,h.symm⟩
   ·rename_i hu;rw [if_neg hu];exact ih t z h
 intro t z hz
 obtain ⟨x,hx,rfl⟩:=hget σ t z hz
 obtain ⟨y,h1,h2⟩:=h t x hx
 exact ⟨y,h1,qc9 tb E x y c0 h2⟩
theorem qia {E:Env} (tb:List Key): ∀ {T:Mem} {c:Cnt},qm E T c→ ∃ c',qm (kG tb E) (kH tb T) c'∧cle c' c
 |[],c,h=>⟨c,h,qO _⟩
 |(k,e,xs)::r,c,h=>by
  obtain ⟨c1,c2,h1,h2,rfl⟩:=h
  obtain ⟨c3,h3,h4⟩:=qia tb h2
  simp only [kH]
  split
  ·rename_i k' hk
   have hob:zW (kG tb E) k' (e,if qx xs then xs else zP tb xs) c1:=by
    have hlen:(if qx xs then xs else zP tb xs).length=xs.length:=by
     split
     ·rfl
     ·exact qc8 _ _
    rcases h1 with ⟨b,ents,clk,es,q1,q2,q3,q4,q5⟩|⟨⟨A,hA⟩,hn,hc⟩|⟨b,base,lim,cells,T,fz,c5,g1,g2,g3,g4,g5,g6,rfl⟩
    ·simp only at q4;subst q4
     exact .inl ⟨b,ents,clk,es,ZM hk q1,q2,q3,by simp [qx,clE,clB],q5⟩
    ·simp only at hn;subst hn
     exact .inr (.inl ⟨⟨A,ZM hk hA⟩,by simp [qx],hc⟩)
    ·refine .inr (.inr ⟨b,base,lim,cells,T,fz,c5,ZM hk g1,g2,g3,g4, ?_, ?_,rfl⟩)
     ·simp only at g5 ⊢;rw [hlen];exact g5
     ·simp only at g6 ⊢;rw [hlen]
      split
      ·rename_i hc;exact qc0 (E:=E) (E':=kG tb E) rfl g6 hc
      ·exact qh9 tb E xs _ _ g6
   exact ⟨qg c1 c3,⟨c1,c3,hob,h3,rfl⟩,xD (qO _) h4⟩
  ·exact ⟨c3,h3,yJ h4 (yU _ _)⟩
theorem qjJ(n:Nat):XK (ze n):=by
 intro E T x y c1 c2 hT h
 unfold ze
 split
 ·rename_i hc;exact ⟨c1,c2,hT,qc6 h hc,qO _,rfl⟩
 ·exact Zs n E T x y c1 c2 hT h
theorem qjH {E:Env} {T:Mem} {c:Cnt} (k:Key) (h:qm E T c): ∃ c',qm E (Zr T k) c'∧cle c' c:=by
 unfold Zr
 split
 ·exact ⟨c,h,qO _⟩
 ·rename_i ob hg
  split
  ·exact ⟨c,h,qO _⟩
  ·obtain ⟨e,xs⟩:=ob
   obtain ⟨c1,c2,h1,h2,rfl⟩:=yd h hg
   rcases h1 with ⟨b,ents,clk,es,q1,q2,q3,q4,q5⟩|⟨⟨A,hA⟩,hn,rfl⟩|⟨b,base,lim,cells,Tt,fz,c5,g1,g2,g3,g4,g5,g6,rfl⟩
   ·rename_i hcl
    simp only at q4;subst q4
    simp [qx,clE,clB]at hcl
   ·simp only at hn;subst hn
    refine ⟨qg c0 c2,⟨c0,c2,.inr (.inl ⟨⟨A,hA⟩,by simp [qv],rfl⟩),by simpa [qv]using h2,rfl⟩,qO _⟩
   ·obtain ⟨d1,d2,k1,k2,k3⟩:=qc3 (qjJ 30) h2 g6
    have hlen:=qan (ze 30) (qy T k) xs
    refine ⟨qg (qg (qB b) d2) d1,⟨qg (qB b) d2,d1,.inr (.inr ⟨b,base,lim,cells,Tt,fz,d2,g1,g2,g3,g4, ?_, ?_,rfl⟩),k1,rfl⟩, ?_⟩
    ·simp only at g5 ⊢;rw [hlen];exact g5
    ·simp only at g6 ⊢;rw [hlen];exact yo k2 (kB E d2)
    ·intro z;have:=k3 z;simp only [qg]at*;omega
theorem qbO {E:Env} (bx:List Key): ∀ (ks:List Key) {T:Mem} {c:Cnt},qm E T c→ ∃ c',qm E (jo bx ks T) c'∧cle c' c
 |[],T,c,h=>⟨c,h,qO _⟩
 |k::ks,T,c,h=>by
  simp only [jo]
  split
  ·exact qbO bx ks h
  ·obtain ⟨c1,h1,h2⟩:=qjH k h
   obtain ⟨c3,h3,h4⟩:=qbO bx ks h1
   exact ⟨c3,h3,yJ h4 h2⟩
theorem qpT {E:Env} {T:Mem} {c:Cnt} (bx k0:List Key) (h:qm E T c): ∃ c',qm E (ZP bx k0 T) c'∧cle c' c:=by
 unfold ZP
 obtain ⟨c1,h1,h1'⟩:=qbO bx k0 h
 obtain ⟨c3,h3,h3'⟩:=qaY k0 h1
 exact ⟨c3,h3,yJ h3' h1'⟩
theorem qjC {E:Env} {σ:Sl} {T:Mem} {tmps:Array Value} {c:Cnt} (n:Nat) (bx:List Key) (hσ:zw E σ tmps) (hT:qm E T c):
 ∃ E' c',E'.w=E.w∧E'.I=E.I∧(∀ k:Key,k.1 < CN→E'.μ k=E.μ k)∧zw E' (QA n bx σ T).σ tmps∧qm E' (QA n bx σ T).T c'∧cle c' c:=by
 obtain ⟨c1,h1,h1'⟩:=qgA bx hT
 have h2:=xk (qgz E σ) h1
 rw [zc]at h2
 obtain ⟨c4,h4,h4'⟩:=qaY (y4 (xp σ)++yZ (ka σ++yN bx T) bx) h2
 obtain ⟨c3,h3,h3'⟩:=qia (x8 n (y4 (xp σ)++yZ (ka σ++yN bx T) bx)) h4
 refine ⟨kG (x8 n (y4 (xp σ)++yZ (ka σ++yN bx T) bx)) (zF E),c3,rfl,rfl, ?_,qpc _ (qnh hσ),h3,yJ h3' (yJ h4' h1')⟩
 intro k hk
 have e1: ¬ k.1=CN:=by omega
 have e2: ¬ NB≤k.1:=by unfold CN at hk;unfold NB;omega
 simp only [kG,if_neg e1,zF,if_neg e2]
theorem qcR {N:Nat} {E:Env} {st:St} {tmps:Array Value} {c:Cnt} (ls:List Nat) (ks:List Key) (hf:FRel N E st tmps c):
 ∃ E' c',E'.w=E.w∧E'.I=E.I∧(∀ k:Key,k.1 < CN→E'.μ k=E.μ k)∧FRel N E' (xx ls ks st) tmps c'∧cle c' c:=by
 obtain ⟨c1,h1,h1'⟩:=qpT (yI (zr st.σ ls)) (y4 (zr st.σ ls)++yZ st.T (yI (zr st.σ ls))) hf.T
 obtain ⟨E',c',hw,hI,hμ,hσ,hT,hle⟩:=qjC (KH ks) (yI (zr st.σ ls)) (qdi hf.σ ls) h1
 have hle':=yJ hle h1'
 exact ⟨E',c',hw,hI,hμ,⟨hf.sz,hσ,hT,jW hw hI hle' hf.g⟩,hle'⟩
end Go.Vm
namespace Go.Vm
variable [Lay]
theorem qnr {N:Nat} {E:Env} {st:St} {tmps:Array Value} {c:Cnt} (d:Nat) (k:Key) (i:Nat) (hf:FRel N E st tmps c):
 ∃ E' c',E'.w=E.w∧E'.I=E.I∧(∀ k:Key,k.1 ≠ d→E'.μ k=E.μ k)∧FRel N E' (YW d k i (zh d st)) tmps c'∧cle c' c:=by
 obtain ⟨c1,hσ1,hT1,hle1⟩:=QX d hf.σ hf.T
 have hself:FRel N (E.drop d) (zh d st) tmps c1:=⟨hf.sz,hσ1,hT1,(hf.g.drop d).le hle1⟩
 have hdrop: ∀ k:Key,k.1 ≠ d→(E.drop d).μ k=E.μ k:=(Jh E d).hμ
 have hnone: ∃ E' c',E'.w=E.w∧E'.I=E.I∧(∀ k:Key,k.1 ≠ d→E'.μ k=E.μ k)∧FRel N E' (zh d st) tmps c'∧cle c' c:=
  ⟨E.drop d,c1,rfl,rfl,hdrop,hself,hle1⟩
 unfold YW
 split
 case h_2=>exact hnone
 rename_i ob hg
 split
 case h_2=>exact hnone
 rename_i x hx
 obtain ⟨co,cr,hob,hrest,rfl⟩:=yd hT1 hg
 rcases hob with ⟨b,ents,clk,es,q1,q2,q3,q4,q5⟩|⟨⟨A0,hn1⟩,hn2,-⟩|⟨b,base,lim,cells,ty,fz,ce,hμ,hw,hl,hf',hs,hr,rfl⟩
 ·rw [q4]at hx
  have hi:i=0:=by
   cases i with
   |zero=>rfl
   |succ i=>simp at hx
  subst hi
  simp only [List.getElem?_cons_zero,Option.some.injEq]at hx
  subst hx
  have e1:(qL d 0 (.w (some true) es)).2.2=[]:=rfl
  have e2:(qL d 0 (.w (some true) es)).1= .w (some true) es:=rfl
  rw [e1,e2,q4]
  exact ⟨E.drop d,_,rfl,rfl,hdrop,⟨hf.sz,hσ1,⟨co,cr,.inl ⟨b,ents,clk,es,q1,q2,q3,rfl,q5⟩,hrest,rfl⟩,(hf.g.drop d).le hle1⟩,hle1⟩
 ·rw [hn2]at hx;simp at hx
 obtain ⟨yv,d0,d1,d2,e1,hs1,hl1,ho1,hr0,hr1,hr2,rfl⟩:=qaH hr hx
 obtain ⟨E2,cO,hn,hzz,hTO,hleO⟩:=qax (d:=d) (j:=0) (fun i _=>kX E d i) hr1
 have hcl:=qgX d 0 x
 have hidx:i < ob.2.length:=(List.getElem?_eq_some_iff.1 hx).1
 have hR:=qc1 hx (yo hr0 (hn.mono _)) hs1 (by rw [hcl];exact hl1) ho1 hzz (yo hr2 (hn.mono _))
 have hseg:(seg cells base (ob.2.length*ob.1)).take (i*ob.1)++yv.cells.toList++(seg cells base (ob.2.length*ob.1)).drop (i*ob.1+ob.1)=seg cells base (ob.2.length*ob.1):=by
  rw [← e1,List.append_assoc, ← List.drop_drop,List.take_append_drop,List.take_append_drop]
 rw [hseg]at hR
 have hO:zW E2 k (ob.1,ob.2.set i (qL d 0 x).1) (qg (qB b) (qg (qg d0 c0) d2)):=
  .inr (.inr ⟨b,base,lim,cells,ty,fz,_,hn.hμ _ _ hμ,by rw [hn.hw];exact hw,hl,hf',by simpa using hs,by simpa using hR,rfl⟩)
 have hTT:qm E2 ((qL d 0 x).2.2++((k,ob.1,ob.2.set i (qL d 0 x).1)::qy (zh d st).T k)) (qg cO (qg (qg (qB b) (qg (qg d0 c0) d2)) cr)):=
  xk hTO ⟨_,_,hO,zU hrest (hn.mono _),rfl⟩
 have hcle:cle (qg cO (qg (qg (qB b) (qg (qg d0 c0) d2)) cr)) c:=by
  intro z
  have q1:=hle1 z;have q2:=hleO z
  simp only [qg,c0]at*;omega
 exact ⟨E2,_,hn.hw,hn.hI,fun k hk=>by rw [hn.hout k (fun h=>hk h)];exact hdrop k hk,⟨hf.sz,xP hσ1 (hn.mono _),hTT,jW hn.hw hn.hI hcle (hf.g.drop d)⟩,hcle⟩
theorem qcE {N n:Nat}: ∀ (os:List (Nat × Key × Nat)) {E:Env} {st:St} {tmps:Array Value} {c:Cnt},(os.all fun o=>decide (n≤o.1))=true→FRel N E st tmps c→
 ∃ E' c',E'.w=E.w∧E'.I=E.I∧KN n E E'∧FRel N E' (jA os st) tmps c'∧cle c' c
 |[],E,st,tmps,c,_,hf=>⟨E,c,rfl,rfl,KN.refl,hf,qO _⟩
 |(d,k,i)::os,E,st,tmps,c,ho,hf=>by
  simp only [List.all_cons,Bool.and_eq_true,decide_eq_true_eq]at ho
  obtain ⟨E1,c1,h1,h2,h3,h4,h5⟩:=qnr d k i hf
  obtain ⟨E2,c2,g1,g2,g3,g4,g5⟩:=qcE os ho.2 h4
  exact ⟨E2,c2,g1.trans h1,g2.trans h2,KN.trans (fun k hk=>h3 k (by omega)) g3,g4,yJ g5 h5⟩
theorem qj1(n:Nat) (σ:Sl) (d r:Nat) (i:Option Nat) (h:n≤d):((jV σ d r i).all fun o=>decide (n≤o.1))=true:=by
 unfold jV
 split
 ·simp [h]
 ·split
  ·split
   ·simp [h]
   ·rfl
  ·rfl
 ·rfl
theorem qgW {N n:Nat}: ∀ (os:List (Nat × Nat × Option Nat)) {E:Env} {st:St} {tmps:Array Value} {c:Cnt},(os.all fun o=>decide (n≤o.1))=true→FRel N E st tmps c→
 ∃ E' c',E'.w=E.w∧E'.I=E.I∧KN n E E'∧FRel N E' (QL os st) tmps c'∧cle c' c
 |[],E,st,tmps,c,_,hf=>⟨E,c,rfl,rfl,KN.refl,hf,qO _⟩
 |(d,r,i)::os,E,st,tmps,c,ho,hf=>by
  simp only [List.all_cons,Bool.and_eq_true,decide_eq_true_eq]at ho
  obtain ⟨E1,c1,h1,h2,h3,h4,h5⟩:=qcE (jV st.σ d r i) (qj1 n st.σ d r i ho.1) hf
  obtain ⟨E2,c2,g1,g2,g3,g4,g5⟩:=qgW os ho.2 h4
  exact ⟨E2,c2,g1.trans h1,g2.trans h2,KN.trans h3 g3,g4,yJ g5 h5⟩
end Go.Vm
namespace Go.Vm
variable [Lay]
section
variable (P:Program) (N n:Nat)
def trC:Code→AC→Option AC
 |code,.opn os hx=>match trC code hx with
  |some x'=>if (os.all fun o=>decide (n≤o.1))=true then some (.opn os x')else none
  |none=>none
 |code,.opd os hx=>match trC code hx with
  |some x'=>if (os.all fun o=>decide (n≤o.1))=true then some (.opd os x')else none
  |none=>none
 |code,.nam ls ks hx=>match trC code hx with
  |some x'=>if n≤CN then some (.nam ls ks x')else none
  |none=>none
 |code,.keep ls hx=>match trC code hx with
  |some x'=>some (.keep ls x')
  |none=>none
 | .skip,.skip=>some .skip
 | .ret,.ret=>some .ret
 | .exit id,.exit _=>some (.exit id)
 | .region _ ops false,.reg hs=>(xA P N n ops ops.toList hs).map .reg
 | .region _ ops true,.dreg plan hs=>match xA P N n ops ops.toList hs with
   |some is=>if dOk P n ops plan hs is then some (.dreg plan is)else none
   |none=>none
 | .seq x y,.seq hx hy=>match trC x hx,trC y hy with
   |some x',some y'=>some (.seq x' y')
   |_,_=>none
 | .cond c x y,.cond hc hx hy=>match trO c hc,trC x hx,trC y hy with
   |some c',some x',some y'=>some (.cond c' x' y')
   |_,_,_=>none
 | .block id x,.block _ hx=>match trC x hx with
   |some x'=>some (.block id x')
   |none=>none
 | .loop x,.loop ls ks hx=>match trC x hx with
   |some x'=>if n≤CN then some (.loop ls ks x')else none
   |none=>none
 |_,_=>none
end
section
variable {P:Program} {N n:Nat} {E:Env} {c:Cnt} {st st':St} {a:Act} {call:Call}
theorem Adv.seq {E E' E'':Env} {c c' c'':Cnt} (h:Adv E c E' c') (h':Adv E' c' E'' c''):Adv E c E'' c'':=h.trans h'
theorem qec(hC:kO P call) (ops:Array Oper) {Q:Exit→Act→World→Prop}: ∀ (os:List Oper) (k:Nat) (hs is:List AI) (st:St) (a:Act) (E:Env) (c:Cnt),
 ops.toList.drop k=os→xA P N n ops os hs=some is→yG call is st=some st'→FRel N E st a.tmps c→(∀ a' E' c',FRel N E' st' a'.tmps c'→a'.defers=a.defers→KN n E E'→Adv E c E' c'→Q .normal a' E'.w)→
 wpOps P ops Q (List.range' k os.length) a E.w
 |[],k,hs,is,st,a,E,c,hd,ht,hr,hf,hQ=>by
  cases hs with
  |cons=>simp [xA]at ht
  |nil=>
   simp only [xA,Option.some.injEq]at ht;subst ht
   simp only [yG,Option.some.injEq]at hr;subst hr
   simp only [List.length_nil,List.range'_zero,wpOps]
   exact hQ a E c hf rfl KN.refl (Adv.refl _ _)
 |o::os,k,hs,is,st,a,E,c,hd,ht,hr,hf,hQ=>by
  cases hs with
  |nil=>simp [xA]at ht
  |cons h hs=>
   simp only [xA]at ht
   split at ht
   case h_2=>cases ht
   rename_i i is' h1 h2
   simp only [Option.some.injEq]at ht;subst ht
   simp only [yG]at hr
   split at hr
   case h_2=>cases hr
   rename_i st1 hst1
   have hk:ops[k]? =some o:=by
    have:(ops.toList.drop k)[0]? =some o:=by rw [hd];rfl
    simpa using this
   have hd':ops.toList.drop (k+1)=os:=by
    rw [← List.drop_drop,hd];rfl
   simp only [List.length_cons,List.range'_succ,wpOps,hk]
   refine Xh hC h1 hst1 hf ?_
   intro y E' c' hF hkn hkp hA
   refine qec hC ops os (k+1) hs is' st1 (a.put o.dst y) E' c' hd' h2 hr hF ?_
   intro a'' E'' c'' hF' hdf' hkn' hA'
   exact hQ a'' E'' c'' hF' (hdf'.trans (QN _ _ _)) (hkn.trans hkn') (hA.seq hA')
def xOf:AX→Exit
 | .normal=> .normal
 | .exit id=> .exit id
 | .ret=> .ret
def kP(n N:Nat) (E:Env) (c:Cnt) (st':St) (a:Act) (x:AX):Exit→Act→World→Prop:=
 fun e a' w'=>e=xOf x∧a'.defers=a.defers∧ ∃ E' c',E'.w=w'∧FRel N E' st' a'.tmps c'∧KN n E E'∧Adv E c E' c'
theorem kP.then {E E':Env} {c c':Cnt} {a a':Act} {x:AX} {e:Exit} {a'':Act} {w:World} (h:kP n N E' c' st' a' x e a'' w) (hd:a'.defers=a.defers) (hk:KN n E E') (hA:Adv E c E' c'):
 kP n N E c st' a x e a'' w:=by
 obtain ⟨h1,h2,E'',c'',h3,h4,h5,h6⟩:=h
 exact ⟨h1,h2.trans hd,E'',c'',h3,h4,hk.trans h5,hA.seq h6⟩
theorem qbC(hC:kO P call): ∀ (f:Nat),
 (∀ (code:Code) (h ac:AC) (st st':St) (x:AX),trC P N n code h=some ac→qr call f ac st=some (x,st')→
  ∀ (a:Act) (E:Env) (c:Cnt),FRel N E st a.tmps c→code.wp P (kP n N E c st' a x) a E.w)∧
 (∀ (body:Code) (ls:List Nat) (ks:List Key) (h ac:AC) (st st':St) (x:AX),n≤CN→trC P N n body h=some ac→qr call f (.loop ls ks ac) st=some (x,st')→
  ∀ (a:Act) (E:Env) (c:Cnt),FRel N E st a.tmps c→Code.rounds P body (kP n N E c st' a x) f a E.w)
 |0=>⟨fun code h ac st st' x ht hr=>by simp [qr]at hr,fun body ls ks h ac st st' x hn ht hr=>by simp [qr]at hr⟩
 |f+1=>by
  have IH:=qbC hC f
  have hloop: ∀ (body:Code) (ls:List Nat) (ks:List Key) (h ac:AC) (st st':St) (x:AX),n≤CN→trC P N n body h=some ac→qr call (f+1) (.loop ls ks ac) st=some (x,st')→
   ∀ (a:Act) (E:Env) (c:Cnt),FRel N E st a.tmps c→Code.rounds P body (kP n N E c st' a x) (f+1) a E.w:=by
   intro body ls ks h ac st st' x hn ht hr a E0 c hf
   rw [rounds_succ]
   simp only [qr]at hr
   obtain ⟨E,c1,hw0,hI0,hμ0,hp,hle⟩:=qcR (tmps:=a.tmps) ls ks hf
   have hA0:Adv E0 c E c1:=kS hw0 hI0 hle
   have hk0:KN n E0 E:=fun k hk=>hμ0 k (by omega)
   rw [← hw0]
   split at hr
   ·rename_i st1 h1
    refine wp_mono (IH.1 _ _ _ _ _ _ ht h1 a E c1 hp) ?_
    rintro e a' w' ⟨rfl,hdf,E',c',rfl,hF,hk,hA⟩
    simp only [xOf,Exit.then]
    have:=IH.2 body ls ks h ac st1 st' x hn ht hr a' E' c' hF
    have hmono: ∀ (m:Nat) (a1:Act) (w1:World),Code.rounds P body (kP n N E' c' st' a' x) m a1 w1→Code.rounds P body (kP n N E0 c st' a x) m a1 w1:=by
     intro m
     induction m with
     |zero=>intro a1 w1 h;exact h.elim
     |succ m ih=>
      intro a1 w1 h
      rw [rounds_succ]at h ⊢
      refine wp_mono h ?_
      intro e a2 w2 hq
      cases e<;>simp only [Exit.then]at hq ⊢ <;>(first|exact ih _ _ hq|exact hq.then hdf (hk0.trans hk) (hA0.seq hA))
    exact hmono _ _ _ this
   ·rename_i r hnn
    have hb:=IH.1 _ _ _ _ _ _ ht hr a E c1 hp
    refine wp_mono hb ?_
    rintro e a' w' ⟨rfl,hdf,E',c',rfl,hF,hk,hA⟩
    have hx:x ≠ .normal:=by rintro rfl;exact hnn _ hr
    cases x with
    |normal=>exact absurd rfl hx
    |exit id=>exact ⟨rfl,hdf,E',c',rfl,hF,hk0.trans hk,hA0.seq hA⟩
    |ret=>exact ⟨rfl,hdf,E',c',rfl,hF,hk0.trans hk,hA0.seq hA⟩
  refine ⟨?_,hloop⟩
  intro code h ac st st' x ht hr a E c hf
  have hself:kP n N E c st a .normal .normal a E.w:=⟨rfl,rfl,E,c,rfl,hf,KN.refl,Adv.refl _ _⟩
  unfold trC at ht
  split at ht
  ·rename_i os hx
   split at ht
   case h_2=>cases ht
   rename_i x' h1
   split at ht
   case isFalse=>cases ht
   rename_i ho
   simp only [Option.some.injEq]at ht;subst ht
   simp only [qr]at hr
   obtain ⟨E1,c1,hw0,hI0,hk0,hF,hle⟩:=qcE (n:=n) os ho hf
   rw [← hw0]
   refine wp_mono (IH.1 _ _ _ _ _ _ h1 hr a E1 c1 hF) ?_
   intro e a' w' hq
   exact hq.then rfl hk0 (kS hw0 hI0 hle)
  ·rename_i os hx
   split at ht
   case h_2=>cases ht
   rename_i x' h1
   split at ht
   case isFalse=>cases ht
   rename_i ho
   simp only [Option.some.injEq]at ht;subst ht
   simp only [qr]at hr
   obtain ⟨E1,c1,hw0,hI0,hk0,hF,hle⟩:=qgW (n:=n) os ho hf
   rw [← hw0]
   refine wp_mono (IH.1 _ _ _ _ _ _ h1 hr a E1 c1 hF) ?_
   intro e a' w' hq
   exact hq.then rfl hk0 (kS hw0 hI0 hle)
  ·rename_i ls ks hx
   split at ht
   case h_2=>cases ht
   rename_i x' h1
   split at ht
   case isFalse=>cases ht
   rename_i ho
   simp only [Option.some.injEq]at ht;subst ht
   simp only [qr]at hr
   obtain ⟨E1,c1,hw0,hI0,hk0,hF,hle⟩:=qcR (tmps:=a.tmps) ls ks hf
   rw [← hw0]
   refine wp_mono (IH.1 _ _ _ _ _ _ h1 hr a E1 c1 hF) ?_
   intro e a' w' hq
   exact hq.then rfl (fun k hk=>hk0 k (by omega)) (kS hw0 hI0 hle)
  ·split at ht
   case h_2=>cases ht
   rename_i x' h1
   simp only [Option.some.injEq]at ht;subst ht
   simp only [qr]at hr
   exact IH.1 _ _ _ _ _ _ h1 hr a E c ⟨hf.sz,qdi hf.σ _,hf.T,hf.g⟩
  ·simp only [Option.some.injEq]at ht;subst ht
   simp only [qr,Option.some.injEq,Prod.mk.injEq]at hr
   obtain ⟨rfl,rfl⟩:=hr
   exact wp_skip hself
  ·simp only [Option.some.injEq]at ht;subst ht
   simp only [qr,Option.some.injEq,Prod.mk.injEq]at hr
   obtain ⟨rfl,rfl⟩:=hr
   exact wp_ret ⟨rfl,rfl,E,c,rfl,hf,KN.refl,Adv.refl _ _⟩
  ·simp only [Option.some.injEq]at ht;subst ht
   simp only [qr,Option.some.injEq,Prod.mk.injEq]at hr
   obtain ⟨rfl,rfl⟩:=hr
   exact wp_exit ⟨rfl,rfl,E,c,rfl,hf,KN.refl,Adv.refl _ _⟩
  ·rename_i id ops hs
   rw [Option.map_eq_some_iff]at ht
   obtain ⟨is,h1,rfl⟩:=ht
   simp only [qr,Option.map_eq_some_iff,Prod.mk.injEq]at hr
   obtain ⟨st1,h2,rfl,rfl⟩:=hr
   refine wp_region ?_
   have:=qec (Q:=kP n N E c st1 a .normal) hC ops ops.toList 0 hs is st a E c rfl h1 h2 hf ?_
   ·rw [Array.length_toList, ← List.range_eq_range']at this
    exact this
   ·intro a' E' c' hF hdf hk hA
    exact ⟨rfl,hdf,E',c',rfl,hF,hk,hA⟩
  ·rename_i id ops plan hs
   split at ht
   case h_2=>cases ht
   rename_i is h1
   split at ht
   case isFalse=>cases ht
   rename_i hk
   simp only [Option.some.injEq]at ht;subst ht
   simp only [qr]at hr
   split at hr
   case h_2=>cases hr
   rename_i st1 h2
   split at hr
   case isFalse=>cases hr
   rename_i hnd
   simp only [Option.some.injEq,Prod.mk.injEq]at hr
   obtain ⟨rfl,rfl⟩:=hr
   exact qjZ hC hk h1 h2 hnd hf fun a' E' c' hF hdf hk hA=>⟨rfl,hdf,E',c',rfl,hF,hk,hA⟩
  ·rename_i cx cy hx hy
   split at ht
   case h_2=>cases ht
   rename_i x' y' h1 h2
   simp only [Option.some.injEq]at ht;subst ht
   simp only [qr]at hr
   refine wp_seq ?_
   split at hr
   ·rename_i st1 h3
    refine wp_mono (IH.1 _ _ _ _ _ _ h1 h3 a E c hf) ?_
    rintro e a' w' ⟨rfl,hdf,E',c',rfl,hF,hk,hA⟩
    simp only [xOf,Exit.then]
    exact wp_mono (IH.1 _ _ _ _ _ _ h2 hr a' E' c' hF) fun e a2 w2 hq=>hq.then hdf hk hA
   ·rename_i r hnn
    refine wp_mono (IH.1 _ _ _ _ _ _ h1 hr a E c hf) ?_
    intro e a' w' hq
    have hx:x ≠ .normal:=by rintro rfl;exact hnn _ hr
    have he:=hq.1
    cases x with
    |normal=>exact absurd rfl hx
    |exit id=>subst he;exact hq
    |ret=>subst he;exact hq
  ·rename_i cc cx cy hc hx hy
   split at ht
   case h_2=>cases ht
   rename_i c' x' y' h0 h1 h2
   simp only [Option.some.injEq]at ht;subst ht
   simp only [qr]at hr
   split at hr
   ·rename_i hb
    have:=qD hf.σ h0 hb
    simp only [Rel]at this
    exact wp_cond_true this.1 (IH.1 _ _ _ _ _ _ h1 hr a E c hf)
   ·rename_i hb
    have:=qD hf.σ h0 hb
    simp only [Rel]at this
    exact wp_cond_false this.1 (IH.1 _ _ _ _ _ _ h2 hr a E c hf)
   ·cases hr
  ·rename_i id cx id' hx
   split at ht
   case h_2=>cases ht
   rename_i x' h1
   simp only [Option.some.injEq]at ht;subst ht
   simp only [qr]at hr
   refine wp_block ?_
   split at hr
   ·rename_i id2 st1 h3
    refine wp_mono (IH.1 _ _ _ _ _ _ h1 h3 a E c hf) ?_
    rintro e a' w' ⟨rfl,hdf,E',c',rfl,hF,hk,hA⟩
    simp only [xOf,Exit.inBlock]
    split at hr
    ·rename_i he
     simp only [Option.some.injEq,Prod.mk.injEq]at hr
     obtain ⟨rfl,rfl⟩:=hr
     rw [if_pos he]
     exact ⟨rfl,hdf,E',c',rfl,hF,hk,hA⟩
    ·rename_i he
     simp only [Option.some.injEq,Prod.mk.injEq]at hr
     obtain ⟨rfl,rfl⟩:=hr
     rw [if_neg he]
     exact ⟨rfl,hdf,E',c',rfl,hF,hk,hA⟩
   ·rename_i r hnn
    refine wp_mono (IH.1 _ _ _ _ _ _ h1 hr a E c hf) ?_
    intro e a' w' hq
    have he:=hq.1
    cases x with
    |normal=>subst he;exact hq
    |exit id=>exact absurd hr (hnn _ _)
    |ret=>subst he;exact hq
  ·rename_i cx ls ks hx
   split at ht
   case h_2=>cases ht
   rename_i x' h1
   split at ht
   case isFalse=>cases ht
   rename_i hn
   simp only [Option.some.injEq]at ht;subst ht
   exact wp_loop_rounds (f+1) (hloop cx ls ks hx x' st st' x hn h1 hr a E c hf)
  ·cases ht
end
end Go.Vm
namespace Go.Vm
variable [Lay]
def xQ(P:Program):List ResultVar→Option (List AR)
 |[]=>some []
 | .tmp t::r=>(xQ P r).map (.tmp t:: ·)
 | .cell a t::r=>xM (kK P t) (xQ P r) fun q rs=> .cell a q.1 q.2::rs
def qw(P:Program) (fn:Func) (h:AF):Option AF:=
 match fn.body with
 |some code=>match trC P fn.ntmps h.nargs code h.body,xQ P fn.results.toList with
  |some b,some rs=>if decide (h.nargs≤fn.ntmps)&&fn.name != "runtime.NumGoroutine" then some {nargs:=h.nargs,ntmps:=fn.ntmps,res:=rs,body:=b} else none
  |_,_=>none
 |none=>none
def Ql(P:Program) (prog:Nat→Option AE):Prop:=
 ∀ f e,prog f=some e→match e with
  | .fn af=> ∃ fn h,P.funcs[f]? =some fn∧qw P fn h=some af
  | .prim g=> ∀ args r outs,g args=some (r,outs)→XJ P f args r outs
section
variable {P:Program} {N n:Nat} {E:Env} {c:Cnt} {st st':St} {a:Act} {call:Call}
theorem qgY: ∀ (xs:List V) (i:Nat) (E:Env) (vs:List Value) (c:Cnt),(∀ k:Key,i≤k.1→E.μ k=none)→qj E xs vs c→
 ∃ E' c',E'.w=E.w∧E'.I=E.I∧(∀ k l,E.μ k=some l→E'.μ k=some l)∧(∀ k:Key,i+xs.length≤k.1→E'.μ k=none)∧
  qj E' (za i xs).1 vs c0∧qm E' (za i xs).2 c'∧cle c' c
 |[],i,E,vs,c,hf,h=>by
  simp only [qj]at h
  exact ⟨E,c0,rfl,rfl,fun _ _ h=>h,fun k hk=>hf k (by simpa using hk),by simp only [za,qj];exact ⟨h.1,trivial⟩,rfl,fun _=>Nat.zero_le _⟩
 |x::xs,i,E,vs,c,hf,h=>by
  simp only [qj]at h
  obtain ⟨y,t,c1,c2,rfl,h1,h2,rfl⟩:=h
  obtain ⟨E1,d1,j',hn,hr1,ht1,hl1⟩:=qcD (d:=i) (fun j=>hf (i,j) (Nat.le_refl _)) h1
  obtain ⟨E2,d2,hw2,hI2,hμ2,hfree2,hr2,ht2,hl2⟩:=qgY xs (i+1) E1 t c2 (fun k hk=>by rw [hn.hout k (by omega)];exact hf k (by omega)) (yP h2 (hn.mono _))
  have hm: ∀ c,Mono E1 E2 c:=fun c=>⟨fun τ b hb=>⟨by rw [hI2];exact hb,by rw [hw2]⟩,fun b _=>by rw [hw2],hμ2⟩
  refine ⟨E2,qg d1 d2,hw2.trans hn.hw,hI2.trans hn.hI,fun k l hk=>hμ2 k l (hn.hμ k l hk),fun k hk=>hfree2 k (by simp only [List.length_cons]at hk;omega), ?_, ?_,xD hl1 hl2⟩
  ·simp only [za,qj]
   exact ⟨y,t,c0,c0,rfl,yp hr1 (hm _),hr2,rfl⟩
  ·simp only [za]
   exact xk (zU ht1 (hm _)) ht2
theorem qfm: ∀ (xs:List V) (i t:Nat) (x:V),qz (yQ i xs) t=some x→ ∃ j,t=i+j∧xs[j]? =some x
 |[],i,t,x,h=>by simp [yQ,qz]at h
 |y::ys,i,t,x,h=>by
  simp only [yQ,qz]at h
  split at h
  ·rename_i he;subst he
   exact ⟨0,rfl,by simpa using h⟩
  ·obtain ⟨j,h1,h2⟩:=qfm ys (i+1) t x h
   exact ⟨j+1,by omega,by simpa using h2⟩
theorem qdj {xs:List V} {vs:List Value} {rest:Array Value} (h:qj E xs vs c0):zw E (yQ 0 xs) (vs.toArray++rest):=by
 intro t x hx
 obtain ⟨j,rfl,hj⟩:=qfm xs 0 t x hx
 obtain ⟨y,c1,c2,hy,hr,hc,-⟩:=qaC h hj
 have h0:c1=c0:=funext fun b=>by have:=congrFun hc b;simp only [c0,qg]at this ⊢;omega
 subst h0
 have hlt:j < vs.length:=(List.getElem?_eq_some_iff.1 hy).1
 refine ⟨y, ?_,hr⟩
 rw [Nat.zero_add,Array.getElem?_append_left (by simpa using hlt)]
 simpa using hy
theorem qpe {r:ResultVar} {x:V} {T T':Mem} {tmps:Array Value} {ar:AR} {cT:Cnt} (hr:xQ P [r]=some [ar]) (hσ:zw E st.σ tmps) (hT:qm E T cT) (h:jF {σ:=st.σ,T:=T} ar=some (x,T')):
 ∃ v d1 d2,((match r with
  | .tmp t=>pure (tmps.getD t undef)
  | .cell a t=>do loadVar t (← asAddr (tmps.getD a undef))):Sem Value).run P E.w= .ok v E.w∧Rel E x v d1∧qm E T' d2∧cle (qg d1 d2) cT:=by
 cases r with
 |tmp t=>
  simp only [xQ,Option.map_some,Option.some.injEq,List.cons.injEq,and_true]at hr
  subst hr
  simp only [jF,Option.map_eq_some_iff,Prod.mk.injEq]at h
  obtain ⟨y,hy,rfl,rfl⟩:=h
  obtain ⟨v,hv,hrv⟩:=hσ _ _ hy
  refine ⟨v,c0,cT, ?_,hrv,hT,by rw [zc];exact qO _⟩
  simp only [Sem.run_pure,Array.getD_eq_getD_getElem?,hv,Option.getD_some]
 |cell a t=>
  simp only [xQ]at hr
  obtain ⟨q,rs,hq,hrs,he⟩:=jB hr
  simp only [Option.some.injEq]at hrs
  subst hrs
  simp only [List.cons.injEq,and_true]at he
  subst he
  simp only [jF]at h
  split at h
  case h_2=>cases h
  rename_i k hk
  split at h
  case h_2=>cases h
  rename_i e0 xe hg
  rw [Option.bind_eq_some_iff]at h
  obtain ⟨y,hy,h⟩:=h
  split at h
  case isFalse=>cases h
  rename_i hlen
  simp only [Option.some.injEq,Prod.mk.injEq]at h
  obtain ⟨rfl,rfl⟩:=h
  obtain ⟨v,hv,hrv⟩:=hσ _ _ hk
  simp only [Rel]at hrv
  obtain ⟨-,b',base',e',xK,hμ',rfl⟩:=hrv
  obtain ⟨co,cr,hob,hrest,rfl⟩:=yd hT hg
  rcases hob with ⟨_,_,_,_,hn1,-⟩|⟨-,hn1,-⟩|⟨b,base,lim,cells,ty,fz,ce,hμ,hw,hl,hf,hs,hr',rfl⟩
  ·rw [hn1]at hμ';cases hμ'
  ·cases hn1
  rw [hμ]at hμ';cases hμ'
  simp only [List.length_singleton,Nat.one_mul]at hs hr'
  obtain ⟨u,hu,hus,hul,huo,hR⟩:=Je hr'
  obtain ⟨vz,f0,f1,f2,hz,hzl,hzle,hzc,hz0,hz2,rfl,hzT,hzF⟩:=qgn hR (by rw [hul,hus]) huo hy
  have haddr:tmps.getD a undef= .pointer (some ⟨b',base',none⟩):=by
   simp only [Array.getD_eq_getD_getElem?,hv,Option.getD_some]
   simp
  unfold kK at hq
  split at hq
  case h_2=>cases hq
  rename_i dd i hud hi
  simp only [Option.some.injEq]at hq;subst hq
  refine ⟨vz,f1,cr, ?_,hz,hrest,fun z=>by simp only [qg];omega⟩
  simp only [haddr,asAddr,Sem.run_bind,Sem.run_pure,Result.andThen_ok]
  have hrun:=qde (P:=P) (w:=E.w) (t:=t) (o:=base') hud hi hw
  cases hag:Qu dd with
  |true=>
   obtain ⟨q1,q2⟩:=hzT hag
   have hsz:u.cells.size=i.size:=by omega
   rw [q2]
   have e2:u.cells.toList.take i.size=seg cells base' i.size:=by
    rw [← hu,qip];congr 1;omega
   simp only [List.drop_zero,e2]
   exact hrun.1 hag (by omega)
  |false=>
   have q1:=hzF hag
   have h8:(seg cells base' e0)[0]? =some vz:=by rw [hu];simpa using q1
   exact hrun.2 hag vz (by simpa using QS h8)
theorem qda {tmps:Array Value} (hσ:zw E st.σ tmps): ∀ {rs:List ResultVar} {ars:List AR} {T T':Mem} {xs:List V} {cT:Cnt},xQ P rs=some ars→qm E T cT→xO st.σ T ars=some (xs,T')→
 ∃ vs d1 d2,(rs.mapM fun
  | .tmp t=>pure (tmps.getD t undef)
  | .cell a t=>do loadVar t (← asAddr (tmps.getD a undef)):Sem (List Value)).run P E.w= .ok vs E.w∧qj E xs vs d1∧qm E T' d2∧cle (qg d1 d2) cT
 |[],ars,T,T',xs,cT,hr,hT,h=>by
  simp only [xQ,Option.some.injEq]at hr;subst hr
  simp only [xO,Option.some.injEq,Prod.mk.injEq]at h
  obtain ⟨rfl,rfl⟩:=h
  exact ⟨[],c0,cT,by simp,by simp [qj],hT,by rw [zc];exact qO _⟩
 |r::rs,ars,T,T',xs,cT,hr,hT,h=>by
  have hsplit: ∃ ar ars',ars=ar::ars'∧xQ P [r]=some [ar]∧xQ P rs=some ars':=by
   cases r with
   |tmp t=>
    simp only [xQ,Option.map_eq_some_iff]at hr
    obtain ⟨q,h1,rfl⟩:=hr
    exact ⟨_,_,rfl,rfl,h1⟩
   |cell a t=>
    simp only [xQ]at hr
    obtain ⟨q,qs,h1,h2,rfl⟩:=jB hr
    exact ⟨_,_,rfl,by simp [xQ,xM,h1],h2⟩
  obtain ⟨ar,ars',rfl,h1,h2⟩:=hsplit
  simp only [xO]at h
  split at h
  case h_2=>cases h
  rename_i x T1 hx
  split at h
  case h_2=>cases h
  rename_i xs' T2 hxs
  simp only [Option.some.injEq,Prod.mk.injEq]at h
  obtain ⟨rfl,rfl⟩:=h
  obtain ⟨v,d1,d2,g1,g2,g3,g4⟩:=qpe h1 hσ hT hx
  obtain ⟨vs,e1,e2,k1,k2,k3,k4⟩:=qda hσ h2 g3 hxs
  refine ⟨v::vs,qg d1 e1,e2, ?_, ?_,k3,fun b=>by have:=g4 b;have:=k4 b;simp only [qg]at*;omega⟩
  ·rw [List.mapM_cons,Sem.run_bind,g1,Result.andThen_ok,Sem.run_bind,k1,Result.andThen_ok]
   rfl
  ·simp only [qj];exact ⟨v,vs,d1,e1,rfl,g2,k2,rfl⟩
theorem qgV {xs:List V} {vs:List Value} (h:qj E xs vs c):Rel E (kC xs) (if h:vs.toArray.size=1 then vs.toArray[0]else .tuple vs.toArray) c:=by
 have hl:=yE h
 match xs,vs,hl,h with
 |[x],[v],_,h=>
  obtain ⟨y,h1,h2⟩:=Jc h
  simp only [List.cons.injEq,and_true]at h1;subst h1
  simpa [kC]using h2
 |[],[],_,h=>
  simp only [qj]at h
  simp [kC,Rel,qj,h.2]
 |x::y::xs,v::u::vs,_,h=>
  simp only [kC]
  rw [dif_neg (by simp)]
  simp only [Rel]
  exact ⟨_,rfl,by simpa using h⟩
theorem qdf {g:ResultVar→Sem Value} {l:Array ResultVar} {w:World} {vs:List Value} (h:(l.toList.mapM g).run P w= .ok vs w):(l.mapM g).run P w= .ok vs.toArray w:=by
 rw [Array.mapM_eq_mapM_toList]
 simp only [map_eq_pure_bind,Sem.run_bind,h,Result.andThen_ok,Sem.run_pure]
theorem Zn {prog:Nat→Option AE} (hK:Ql P prog): ∀ n,kO P (qR prog n)
 |0=>fun f xs r outs h=>by simp [qR]at h
 |n+1=>by
  have IH:=Zn hK n
  intro f xs r outs h
  simp only [qR]at h
  split at h
  ·rename_i g hg
   have:=hK f _ hg
   exact this xs r outs h
  ·rename_i af haf
   obtain ⟨fn,hh,hfn,htr⟩:=hK f _ haf
   split at h
   case isFalse=>cases h
   rename_i hlen
   unfold qw at htr
   split at htr
   case h_2=>cases htr
   rename_i code hcode
   split at htr
   case h_2=>cases htr
   rename_i b rs hb hrs
   split at htr
   case isFalse=>cases htr
   rename_i hcond
   simp only [Bool.and_eq_true,decide_eq_true_eq,bne_iff_ne,ne_eq]at hcond
   obtain ⟨hnt,hname⟩:=hcond
   simp only [Option.some.injEq]at htr;subst htr
   simp only at hlen h
   intro E vs c hxs hg
   have hcf:(callFunc f vs.toArray).run P E.w= .ok (.enter f vs.toArray) E.w:=by
    have hne:(fn.name== "runtime.NumGoroutine")=false:=by simpa using hname
    simp [callFunc,hfn,hname,hcode]
   rw [hcf]
   refine ⟨rfl, ?_⟩
   obtain ⟨E0,c1,hw0,hI0,-,hfree,hxs0,hT0,hle0⟩:=qgY xs 0 E.cl vs c (fun k _=>rfl) hxs
   rw [Nat.zero_add]at hfree
   have hvl:=yE hxs
   have hg0:Good E0 c1:=jW (E:=E) hw0 hI0 hle0 hg
   have hsz:(vs.toArray++Array.replicate (fn.ntmps - vs.toArray.size) undef).size=fn.ntmps:=by
    simp only [Array.size_append,List.size_toArray,Array.size_replicate];omega
   have hF:FRel fn.ntmps E0 {σ:=yQ 0 (za 0 xs).1,T:=(za 0 xs).2} (vs.toArray++Array.replicate (fn.ntmps - vs.toArray.size) undef) c1:=
    ⟨hsz,qdj hxs0,hT0,hg0⟩
   have hA0:Adv E c E0 c1:=kS hw0 hI0 hle0
   have hfin: ∀ (x:AX) (st:St),(x= .normal∨x= .ret)→qr (qR prog n) n b {σ:=yQ 0 (za 0 xs).1,T:=(za 0 xs).2}=some (x,st)→
    qC {nargs:=hh.nargs,ntmps:=fn.ntmps,res:=rs,body:=b} (za 0 xs).1 st=some (r,outs)→
    Calls P f vs.toArray E.w (fun e w''=> ∃ y,e= .returned y∧ ∃ E' cr co,E'.w=w''∧Rel E'.cl r y cr∧qj E'.cl outs vs co∧Good E' (qg cr co)∧Adv E c E' (qg cr co)):=by
    intro x st hx he hfi
    refine calls_of_wp hfn hcode ?_
    rw [show E.w=E0.w from hw0.symm]
    refine wp_mono ((qbC IH n).1 code hh.body b _ st x hb he _ E0 c1 hF) ?_
    rintro e a' w' ⟨rfl,hdf,E',c',rfl,hF',hkn,hA⟩
    simp only [qC]at hfi
    split at hfi
    case h_2=>cases hfi
    rename_i vals T' hres
    simp only [Option.some.injEq,Prod.mk.injEq]at hfi
    obtain ⟨rfl,rfl⟩:=hfi
    obtain ⟨ws,d1,d2,k1,k2,k3,k4⟩:=qda (P:=P) hF'.σ hrs hF'.T hres
    have hres':(results fn a'.tmps).run P E'.w= .ok (if h:ws.toArray.size=1 then ws.toArray[0]else .tuple ws.toArray) E'.w:=by
     unfold results
     rw [Sem.run_bind]
     refine Eq.trans (congrArg (fun r=>Result.andThen r _) (qdf (l:=fn.results) k1)) ?_
     rfl
    obtain ⟨e1,e2,g1,g2,g3,-⟩:=Zs 30 E' T' _ _ d2 d1 k3 (qgV k2)
    have hargs:qj E' (za 0 xs).1 vs c0:=by
     refine yP hxs0 ⟨fun τ bb hb=>⟨hA.sub τ bb hb,hA.frame bb (hg0.imm τ bb hb).2 (hg0.imm τ bb hb).1⟩,fun bb hb=>absurd rfl hb,fun k l hk=> ?_⟩
     by_cases hkk:k.1 < hh.nargs
     ·rw [hkn k hkk];exact hk
     ·rw [hfree k (by omega)]at hk;cases hk
    obtain ⟨e3,e4,g4,g5,g6⟩:=ZI (Zs 30) g1 hargs
    have hle:cle (qg e2 e4) c':=fun bb=>by
     have:=k4 bb;have:=g3 bb;have:=g6 bb;simp only [qg,c0]at*;omega
    have hpost:a'.defers=[]∧ ∃ v,(results fn a'.tmps).run P E'.w= .ok v E'.w∧(∃ y,Ending.returned v= .returned y∧ ∃ E'' cr co,E''.w=E'.w∧Rel E''.cl (qu 30 T' (kC vals)).1 y cr∧
     qj E''.cl (qv (qu 30) (qu 30 T' (kC vals)).2 (za 0 xs).1).1 vs co∧Good E'' (qg cr co)∧Adv E c E'' (qg cr co)):=
     ⟨hdf,_,hres',_,rfl,E',e2,e4,rfl,g2,g5,hF'.g.le hle,(hA0.trans hA).le hle⟩
    rcases hx with rfl|rfl<;>exact hpost
   split at h
   ·rename_i st he
    exact hfin .normal st (.inl rfl) he h
   ·rename_i st he
    exact hfin .ret st (.inr rfl) he h
   ·cases h
  ·cases h
end
end Go.Vm
namespace Go.Vm
section lim
variable {α:Type}
open Classical in
noncomputable def xK(f:Nat→Option α):Option α:=if h: ∃ n,(f n).isSome then f h.choose else none
def qdE(f:Nat→Option α):Prop:= ∀ n m r,n≤m→f n=some r→f m=some r
theorem qbL {f:Nat→Option α} (h: ∀ n r,f n=some r→f (n+1)=some r):qdE f:=by
 intro n m r hnm
 induction hnm with
 |refl=>exact id
 |step _ ih=>exact fun h'=>h _ _ (ih h')
theorem qf6 {f:Nat→Option α} (hc:qdE f) {r:α}:xK f=some r↔ ∃ n,f n=some r:=by
 unfold xK
 constructor
 ·intro h
  split at h
  ·exact ⟨_,h⟩
  ·cases h
 ·rintro ⟨n,hn⟩
  have hex: ∃ n,(f n).isSome:=⟨n,by simp [hn]⟩
  rw [dif_pos hex]
  have hs:=hex.choose_spec
  obtain ⟨r',hr'⟩:=Option.isSome_iff_exists.1 hs
  have h1:=hc _ _ _ (Nat.le_max_left n hex.choose) hn
  have h2:=hc _ _ _ (Nat.le_max_right n hex.choose) hr'
  rw [h1]at h2
  rw [hr']
  exact h2.symm
theorem kw {x y:Option α} (h: ∀ r,x=some r↔y=some r):x=y:=by
 cases x with
 |none=>cases y with
  |none=>rfl
  |some b=>exact absurd ((h b).2 rfl) (by simp)
 |some a=>exact ((h a).1 rfl).symm
end lim
def CLe(c c':Call):Prop:= ∀ f xs r,c f xs=some r→c' f xs=some r
section
variable {c c':Call} {st st':St}
theorem qjX(h:CLe c c') {d:Option Nat} {g:Nat} {xs:List V} {m:Md} (hr:xE c d g xs m st=some st'):xE c' d g xs m st=some st':=by
 unfold xE at hr ⊢
 cases m with
 |ro fz=>
  simp only at hr ⊢
  cases he:c g (kJ st.T xs)with
  |none=>rw [he]at hr;cases hr
  |some r=>rw [he]at hr;rw [h _ _ _ he];exact hr
 |io fz=>
  simp only at hr ⊢
  cases he:c g (qv (qu 30) st.T xs).1 with
  |none=>rw [he]at hr;cases hr
  |some r=>rw [he]at hr;rw [h _ _ _ he];exact hr
theorem qee(h:CLe c c') {i:AI} (hr:qi c st i=some st'):qi c' st i=some st':=by
 cases i
 case call d f args m=>
  simp only [qi]at hr ⊢
  split at hr
  ·split at hr
   ·exact qjX h hr
   ·cases hr
  ·cases hr
 all_goals exact hr
theorem qb9(h:CLe c c') {i:AI} (hr:ql c st i=some st'):ql c' st i=some st':=by
 cases i
 case gd j want d i=>
  simp only [ql]at hr ⊢
  split at hr
  ·split at hr
   ·rename_i hb;rw [if_pos hb];exact qee h hr
   ·rename_i hb;rw [if_neg hb];exact hr
  ·exact hr
  ·cases hr
 all_goals (simp only [ql]at hr ⊢;exact qee h hr)
theorem KF(h:CLe c c'): ∀ {is:List AI} {st:St},yG c is st=some st'→yG c' is st=some st'
 |[],_,hr=>hr
 |i::is,st,hr=>by
  simp only [yG]at hr ⊢
  cases he:ql c st i with
  |none=>rw [he]at hr;cases hr
  |some s=>rw [he]at hr;rw [qb9 h he];exact KF h hr
theorem qiA(h:CLe c c') {p:Dp} {i:AI} (hr:xj c p i st=some st'):xj c' p i st=some st':=by
 unfold xj at hr ⊢
 cases he:ql c {σ:=zr st.σ (qM i),T:=xc st.T p.ks} i with
 |none=>rw [he]at hr;cases hr
 |some s=>rw [he]at hr;rw [qb9 h he];exact hr
theorem KE(h:CLe c c'): ∀ {ps:List Dp} {is:List AI} {st:St},zE c ps is st=some st'→zE c' ps is st=some st'
 |[],[],_,hr=>hr
 |[],_::_,_,hr=>by simp [zE]at hr
 |_::_,[],_,hr=>by simp [zE]at hr
 |p::ps,i::is,st,hr=>by
  simp only [zE]at hr ⊢
  cases he:xj c p i st with
  |none=>rw [he]at hr;cases hr
  |some s=>rw [he]at hr;rw [qiA h he];exact KE h hr
theorem zD(h:CLe c c'): ∀ (n m:Nat) (code:AC) (st:St) (r:AX × St),n≤m→qr c n code st=some r→qr c' m code st=some r
 |0,_,_,_,_,_,hr=>by simp [qr]at hr
 |n+1,0,_,_,_,hle,_=>by omega
 |n+1,m+1,code,st,r,hle,hr=>by
  have hle':n≤m:=by omega
  have IH:=fun code st r=>zD h n m code st r hle'
  cases code with
  |skip=>simpa only [qr]using hr
  |ret=>simpa only [qr]using hr
  |exit id=>simpa only [qr]using hr
  |reg is=>
   simp only [qr,Option.map_eq_some_iff]at hr ⊢
   obtain ⟨s,hs,rfl⟩:=hr
   exact ⟨s,KF h hs,rfl⟩
  |dreg plan is=>
   simp only [qr]at hr ⊢
   cases he:zE c plan is (xl (zO plan is) st)with
   |none=>rw [he]at hr;cases hr
   |some s=>rw [he]at hr;rw [KE h he];exact hr
  |seq x y=>
   simp only [qr]at hr ⊢
   cases he:qr c n x st with
   |none=>rw [he]at hr;cases hr
   |some s=>
    rw [he]at hr;rw [IH _ _ _ he]
    obtain ⟨e,s⟩:=s
    cases e<;>first|exact IH _ _ _ hr|exact hr
  |cond a x y=>
   simp only [qr]at hr ⊢
   split at hr
   ·exact IH _ _ _ hr
   ·exact IH _ _ _ hr
   ·cases hr
  |block id x=>
   simp only [qr]at hr ⊢
   cases he:qr c n x st with
   |none=>rw [he]at hr;cases hr
   |some s=>rw [he]at hr;rw [IH _ _ _ he];exact hr
  |opn os x=>
   simp only [qr]at hr ⊢
   exact IH _ _ _ hr
  |opd os x=>
   simp only [qr]at hr ⊢
   exact IH _ _ _ hr
  |nam ls ks x=>
   simp only [qr]at hr ⊢
   exact IH _ _ _ hr
  |keep ls x=>
   simp only [qr]at hr ⊢
   exact IH _ _ _ hr
  |loop ls ks x=>
   simp only [qr]at hr ⊢
   cases he:qr c n x (xx ls ks st)with
   |none=>rw [he]at hr;cases hr
   |some s=>
    rw [he]at hr;rw [IH _ _ _ he]
    obtain ⟨e,s⟩:=s
    cases e<;>first|exact IH _ _ _ hr|exact hr
end
theorem xS(prog:Nat→Option AE): ∀ (n:Nat),CLe (qR prog n) (qR prog (n+1))
 |0=>fun f xs r h=>by simp [qR]at h
 |n+1=>by
  have IH:=xS prog n
  intro f xs r h
  rw [qR]at h ⊢
  split at h
  ·rename_i g hg;exact h
  ·rename_i af haf
   split at h
   case isFalse=>cases h
   rename_i hlen
   rw [if_pos hlen]
   cases he:qr (qR prog n) n af.body {σ:=yQ 0 (za 0 xs).1,T:=(za 0 xs).2} with
   |none=>rw [he]at h;cases h
   |some s=>rw [he]at h;rw [zD IH n (n+1) _ _ _ (by omega) he];exact h
  ·cases h
theorem jj(prog:Nat→Option AE) {n m:Nat} (h:n≤m):CLe (qR prog n) (qR prog m):=by
 intro f xs r
 exact qbL (f:=fun n=>qR prog n f xs) (fun n r=>xS prog n f xs r) n m r h
section
variable (prog:Nat→Option AE)
noncomputable def cw:Call:=fun f xs=>xK fun n=>qR prog n f xs
noncomputable def xw(c:AC) (st:St):Option (AX × St):=xK fun n=>qr (qR prog n) n c st
variable {prog}
theorem QC {f:Nat} {xs:List V} {r:V × List V}:cw prog f xs=some r↔ ∃ n,qR prog n f xs=some r:=
 qf6 (qbL fun n r=>xS prog n f xs r)
theorem zo {c:AC} {st:St} {r:AX × St}:xw prog c st=some r↔ ∃ n,qr (qR prog n) n c st=some r:=
 qf6 (qbL fun n r=>zD (xS prog n) n (n+1) c st r (by omega))
theorem qdY(n:Nat):CLe (qR prog n) (cw prog):=fun _ _ _ h=>QC.2 ⟨n,h⟩
variable {st st':St}
theorem qjW {d:Option Nat} {g:Nat} {xs:List V} {m:Md} (h:xE (cw prog) d g xs m st=some st'): ∃ n,xE (qR prog n) d g xs m st=some st':=by
 unfold xE at h
 cases m with
 |ro fz=>
  simp only at h
  cases he:cw prog g (kJ st.T xs)with
  |none=>rw [he]at h;cases h
  |some r=>rw [he]at h;obtain ⟨n,hn⟩:=QC.1 he;exact ⟨n,by unfold xE;simp only [hn];exact h⟩
 |io fz=>
  simp only at h
  cases he:cw prog g (qv (qu 30) st.T xs).1 with
  |none=>rw [he]at h;cases h
  |some r=>rw [he]at h;obtain ⟨n,hn⟩:=QC.1 he;exact ⟨n,by unfold xE;simp only [hn];exact h⟩
theorem qed {i:AI} (h:qi (cw prog) st i=some st'): ∃ n,qi (qR prog n) st i=some st':=by
 cases i
 case call d f args m=>
  simp only [qi]at h ⊢
  split at h
  ·rename_i f' hf
   split at h
   ·rename_i hc ha
    obtain ⟨n,hn⟩:=qjW h
    exact ⟨n,by rw [hn]⟩
   ·cases h
  ·cases h
 all_goals exact ⟨0,h⟩
theorem qfq {i:AI} (h:ql (cw prog) st i=some st'): ∃ n,ql (qR prog n) st i=some st':=by
 cases i
 case gd j want d i=>
  simp only [ql]at h ⊢
  split at h
  ·split at h
   ·rename_i hb;obtain ⟨n,hn⟩:=qed h;exact ⟨n,by rw [if_pos hb];exact hn⟩
   ·rename_i hb;exact ⟨0,by rw [if_neg hb];exact h⟩
  ·exact ⟨0,h⟩
  ·cases h
 all_goals (simp only [ql]at h ⊢;exact qed h)
theorem qeb: ∀ {is:List AI} {st:St},yG (cw prog) is st=some st'→ ∃ n,yG (qR prog n) is st=some st'
 |[],_,h=>⟨0,h⟩
 |i::is,st,h=>by
  simp only [yG]at h ⊢
  cases he:ql (cw prog) st i with
  |none=>rw [he]at h;cases h
  |some s=>
   rw [he]at h
   obtain ⟨n,hn⟩:=qfq he
   obtain ⟨m,hm⟩:=qeb h
   refine ⟨max n m, ?_⟩
   rw [qb9 (jj prog (Nat.le_max_left n m)) hn]
   exact KF (jj prog (Nat.le_max_right n m)) hm
theorem qqd {p:Dp} {i:AI} (h:xj (cw prog) p i st=some st'): ∃ n,xj (qR prog n) p i st=some st':=by
 unfold xj at h
 cases he:ql (cw prog) {σ:=zr st.σ (qM i),T:=xc st.T p.ks} i with
 |none=>rw [he]at h;cases h
 |some s=>
  rw [he]at h
  obtain ⟨n,hn⟩:=qfq he
  exact ⟨n,by unfold xj;rw [hn];exact h⟩
theorem qd9: ∀ {ps:List Dp} {is:List AI} {st:St},zE (cw prog) ps is st=some st'→ ∃ n,zE (qR prog n) ps is st=some st'
 |[],[],_,h=>⟨0,h⟩
 |[],_::_,_,h=>by simp [zE]at h
 |_::_,[],_,h=>by simp [zE]at h
 |p::ps,i::is,st,h=>by
  simp only [zE]at h ⊢
  cases he:xj (cw prog) p i st with
  |none=>rw [he]at h;cases h
  |some s=>
   rw [he]at h
   obtain ⟨n,hn⟩:=qqd he
   obtain ⟨m,hm⟩:=qd9 h
   refine ⟨max n m, ?_⟩
   rw [qiA (jj prog (Nat.le_max_left n m)) hn]
   exact KE (jj prog (Nat.le_max_right n m)) hm
theorem qiY:xw prog .skip st=some (.normal,st):=zo.2 ⟨1,rfl⟩
theorem qqX:xw prog .ret st=some (.ret,st):=zo.2 ⟨1,rfl⟩
theorem qqR {id:Nat}:xw prog (.exit id) st=some (.exit id,st):=zo.2 ⟨1,rfl⟩
theorem qqW {is:List AI}:xw prog (.reg is) st=(yG (cw prog) is st).map fun st=>(.normal,st):=by
 apply kw
 intro r
 rw [zo]
 constructor
 ·rintro ⟨n,h⟩
  cases n with
  |zero=>simp [qr]at h
  |succ n=>
   simp only [qr,Option.map_eq_some_iff]at h ⊢
   obtain ⟨s,hs,rfl⟩:=h
   exact ⟨s,KF (qdY _) hs,rfl⟩
 ·intro h
  simp only [Option.map_eq_some_iff]at h
  obtain ⟨s,hs,rfl⟩:=h
  obtain ⟨n,hn⟩:=qeb hs
  refine ⟨n+1, ?_⟩
  simp only [qr,Option.map_eq_some_iff]
  exact ⟨s,KF (xS prog n) hn,rfl⟩
theorem qqQ {plan:List Dp} {is:List AI}:xw prog (.dreg plan is) st=match zE (cw prog) plan is (xl (zO plan is) st)with
 |some st=>if QK st.T then some (.normal,st)else none
 |none=>none:=by
 apply kw
 intro r
 rw [zo]
 constructor
 ·rintro ⟨n,h⟩
  cases n with
  |zero=>simp [qr]at h
  |succ n=>
   simp only [qr]at h
   cases he:zE (qR prog (n+1)) plan is (xl (zO plan is) st)with
   |none=>rw [he]at h;cases h
   |some s=>rw [he]at h;rw [KE (qdY _) he];exact h
 ·intro h
  cases he:zE (cw prog) plan is (xl (zO plan is) st)with
  |none=>rw [he]at h;cases h
  |some s=>
   rw [he]at h
   obtain ⟨n,hn⟩:=qd9 he
   refine ⟨n+1, ?_⟩
   simp only [qr]
   rw [KE (xS prog n) hn];exact h
theorem qqY {x y:AC}:xw prog (.seq x y) st=match xw prog x st with
 |some (.normal,st')=>xw prog y st'
 |r=>r:=by
 apply kw
 intro r
 rw [zo]
 constructor
 ·rintro ⟨n,h⟩
  cases n with
  |zero=>simp [qr]at h
  |succ n=>
   simp only [qr]at h
   cases he:qr (qR prog (n+1)) n x st with
   |none=>rw [he]at h;cases h
   |some s=>
    rw [he]at h
    have hx:xw prog x st=some s:=zo.2 ⟨n+1,zD (fun _ _ _ h=>h) n (n+1) _ _ _ (by omega) he⟩
    rw [hx]
    obtain ⟨e,s⟩:=s
    cases e
    ·exact zo.2 ⟨n+1,zD (fun _ _ _ h=>h) n (n+1) _ _ _ (by omega) h⟩
    ·exact h
    ·exact h
 ·intro h
  cases he:xw prog x st with
  |none=>rw [he]at h;cases h
  |some s=>
   rw [he]at h
   obtain ⟨n,hn⟩:=zo.1 he
   obtain ⟨e,s⟩:=s
   cases e
   ·obtain ⟨m,hm⟩:=zo.1 h
    refine ⟨max n m+1, ?_⟩
    simp only [qr]
    rw [zD (jj prog (by omega)) n (max n m) _ _ _ (by omega) hn]
    exact zD (jj prog (by omega)) m (max n m) _ _ _ (by omega) hm
   all_goals
    refine ⟨n+1, ?_⟩
    simp only [qr]
    rw [zD (jj prog (by omega)) n n _ _ _ (by omega) hn]
    exact h
theorem qqP {a:AO} {x y:AC}:xw prog (.cond a x y) st=match ev st.σ a with
 |some (.v (.bool true))=>xw prog x st
 |some (.v (.bool false))=>xw prog y st
 |_=>none:=by
 apply kw
 intro r
 rw [zo]
 constructor
 ·rintro ⟨n,h⟩
  cases n with
  |zero=>simp [qr]at h
  |succ n=>
   simp only [qr]at h
   split at h
   ·rename_i hv;rw [hv];exact zo.2 ⟨n+1,zD (fun _ _ _ h=>h) n (n+1) _ _ _ (by omega) h⟩
   ·rename_i hv;rw [hv];exact zo.2 ⟨n+1,zD (fun _ _ _ h=>h) n (n+1) _ _ _ (by omega) h⟩
   ·cases h
 ·intro h
  split at h
  ·rename_i hv
   obtain ⟨n,hn⟩:=zo.1 h
   exact ⟨n+1,by simp only [qr,hv];exact zD (xS prog n) n n _ _ _ (by omega) hn⟩
  ·rename_i hv
   obtain ⟨n,hn⟩:=zo.1 h
   exact ⟨n+1,by simp only [qr,hv];exact zD (xS prog n) n n _ _ _ (by omega) hn⟩
  ·cases h
theorem qqO {id:Nat} {x:AC}:xw prog (.block id x) st=match xw prog x st with
 |some (.exit id',st')=>if id'=id then some (.normal,st')else some (.exit id',st')
 |r=>r:=by
 apply kw
 intro r
 rw [zo]
 constructor
 ·rintro ⟨n,h⟩
  cases n with
  |zero=>simp [qr]at h
  |succ n=>
   simp only [qr]at h
   cases he:qr (qR prog (n+1)) n x st with
   |none=>rw [he]at h;cases h
   |some s=>
    rw [he]at h
    rw [zo.2 ⟨n+1,zD (fun _ _ _ h=>h) n (n+1) _ _ _ (by omega) he⟩]
    exact h
 ·intro h
  cases he:xw prog x st with
  |none=>rw [he]at h;cases h
  |some s=>
   rw [he]at h
   obtain ⟨n,hn⟩:=zo.1 he
   refine ⟨n+1, ?_⟩
   simp only [qr]
   rw [zD (xS prog n) n n _ _ _ (by omega) hn]
   exact h
theorem qqS {ls:List Nat} {x:AC}:xw prog (.keep ls x) st=xw prog x {σ:=zr st.σ ls,T:=st.T}:=by
 apply kw
 intro r
 rw [zo,zo]
 constructor
 ·rintro ⟨n,h⟩
  cases n with
  |zero=>simp [qr]at h
  |succ n=>
   simp only [qr]at h
   exact ⟨n+1,zD (fun _ _ _ h=>h) n (n+1) _ _ _ (by omega) h⟩
 ·rintro ⟨n,h⟩
  exact ⟨n+1,by simp only [qr];exact zD (xS prog n) n n _ _ _ (by omega) h⟩
theorem qqV {os:List (Nat × Key × Nat)} {x:AC}:xw prog (.opn os x) st=xw prog x (jA os st):=by
 apply kw
 intro r
 rw [zo,zo]
 constructor
 ·rintro ⟨n,h⟩
  cases n with
  |zero=>simp [qr]at h
  |succ n=>
   simp only [qr]at h
   exact ⟨n+1,zD (fun _ _ _ h=>h) n (n+1) _ _ _ (by omega) h⟩
 ·rintro ⟨n,h⟩
  exact ⟨n+1,by simp only [qr];exact zD (xS prog n) n n _ _ _ (by omega) h⟩
theorem qiX {ls:List Nat} {ks:List Key} {x:AC}:xw prog (.nam ls ks x) st=xw prog x (xx ls ks st):=by
 apply kw
 intro r
 rw [zo,zo]
 constructor
 ·rintro ⟨n,h⟩
  cases n with
  |zero=>simp [qr]at h
  |succ n=>
   simp only [qr]at h
   exact ⟨n+1,zD (fun _ _ _ h=>h) n (n+1) _ _ _ (by omega) h⟩
 ·rintro ⟨n,h⟩
  exact ⟨n+1,by simp only [qr];exact zD (xS prog n) n n _ _ _ (by omega) h⟩
theorem qqU {os:List (Nat × Nat × Option Nat)} {x:AC}:xw prog (.opd os x) st=xw prog x (QL os st):=by
 apply kw
 intro r
 rw [zo,zo]
 constructor
 ·rintro ⟨n,h⟩
  cases n with
  |zero=>simp [qr]at h
  |succ n=>
   simp only [qr]at h
   exact ⟨n+1,zD (fun _ _ _ h=>h) n (n+1) _ _ _ (by omega) h⟩
 ·rintro ⟨n,h⟩
  exact ⟨n+1,by simp only [qr];exact zD (xS prog n) n n _ _ _ (by omega) h⟩
theorem qqT {ls:List Nat} {ks:List Key} {x:AC}:xw prog (.loop ls ks x) st=match xw prog x (xx ls ks st)with
 |some (.normal,st')=>xw prog (.loop ls ks x) st'
 |r=>r:=by
 apply kw
 intro r
 rw [zo]
 constructor
 ·rintro ⟨n,h⟩
  cases n with
  |zero=>simp [qr]at h
  |succ n=>
   rw [qr]at h
   cases he:qr (qR prog (n+1)) n x (xx ls ks st)with
   |none=>rw [he]at h;cases h
   |some s=>
    rw [he]at h
    have hx:xw prog x (xx ls ks st)=some s:=zo.2 ⟨n+1,zD (fun _ _ _ h=>h) n (n+1) _ _ _ (by omega) he⟩
    rw [hx]
    obtain ⟨e,s⟩:=s
    cases e
    ·exact zo.2 ⟨n+1,zD (fun _ _ _ h=>h) n (n+1) _ _ _ (by omega) h⟩
    ·exact h
    ·exact h
 ·intro h
  cases he:xw prog x (xx ls ks st)with
  |none=>rw [he]at h;cases h
  |some s=>
   rw [he]at h
   obtain ⟨n,hn⟩:=zo.1 he
   obtain ⟨e,s⟩:=s
   cases e
   ·obtain ⟨m,hm⟩:=zo.1 h
    refine ⟨max n m+1, ?_⟩
    rw [qr]
    rw [zD (jj prog (by omega)) n (max n m) _ _ _ (by omega) hn]
    exact zD (jj prog (by omega)) m (max n m) _ _ _ (by omega) hm
   all_goals
    refine ⟨n+1, ?_⟩
    rw [qr]
    rw [zD (jj prog (by omega)) n n _ _ _ (by omega) hn]
    exact h
theorem qeX {f:Nat} {args:List V}:cw prog f args=match prog f with
 |some (.prim g)=>g args
 |some (.fn af)=>
  if args.length=af.nargs then
   match xw prog af.body {σ:=yQ 0 (za 0 args).1,T:=(za 0 args).2} with
   |some (.normal,st)|some (.ret,st)=>qC af (za 0 args).1 st
   |_=>none
  else none
 |none=>none:=by
 apply kw
 intro r
 rw [QC]
 constructor
 ·rintro ⟨n,h⟩
  cases n with
  |zero=>simp [qR]at h
  |succ n=>
   rw [qR]at h
   split at h
   ·rename_i hp;rw [hp];exact h
   ·rename_i af hp
    rw [hp]
    split at h
    case isFalse=>cases h
    rename_i hlen
    show (if args.length=af.nargs then _ else _)=_
    rw [if_pos hlen]
    cases he:qr (qR prog n) n af.body {σ:=yQ 0 (za 0 args).1,T:=(za 0 args).2} with
    |none=>rw [he]at h;cases h
    |some s=>
     rw [he]at h
     rw [zo.2 ⟨n,he⟩];exact h
   ·cases h
 ·intro h
  split at h
  ·rename_i hp;exact ⟨1,by rw [qR,hp];exact h⟩
  ·rename_i af hp
   split at h
   case isFalse=>cases h
   rename_i hlen
   cases he:xw prog af.body {σ:=yQ 0 (za 0 args).1,T:=(za 0 args).2} with
   |none=>rw [he]at h;cases h
   |some s=>
    obtain ⟨n,hn⟩:=zo.1 he
    refine ⟨n+1, ?_⟩
    rw [qR,hp]
    simp only [if_pos hlen]
    rw [he]at h
    rw [hn];exact h
  ·cases h
end
end Go.Vm
namespace Go.Vm
def I(n:Int):V:= .v (.int .i64 n)
def U8(n:Int):V:= .v (.int .u8 n)
def U32(n:Int):V:= .v (.int .u32 n)
def B(b:Bool):V:= .v (.bool b)
def S(l:List UInt8):V:= .v (.string ⟨l.toArray⟩)
def Fc(g:Nat):V:= .f (.func g) [] []
def w64(n:Int):Int:=IntKind.i64.wrap n
theorem qo {n:Int} (h1: -9223372036854775808≤n) (h2:n < 9223372036854775808):w64 n=n:=by
 have h: ∀ m:Int,m=n % 18446744073709551616→(if (true&&decide (m ≥ 9223372036854775808))=true then m - 18446744073709551616 else m)=n:=by
  intro m hm
  simp only [Bool.true_and,decide_eq_true_eq]
  split<;>omega
 exact h _ rfl
def xX(r:Option (AX × St)) (k:St→Option (AX × St)):Option (AX × St):=
 match r with
 |some (.normal,st)=>k st
 |r=>r
def xY {α:Type} (r:Option St) (k:St→Option α):Option α:=
 match r with
 |some st=>k st
 |none=>none
def qn {α:Type} (r:Option V) (k:V→Option α):Option α:=
 match r with
 |some y=>k y
 |none=>none
def jT {α:Type} (r:Option Mem) (k:Mem→Option α):Option α:=
 match r with
 |some y=>k y
 |none=>none
def zZ {α:Type} (r:Option (List V)) (k:List V→Option α):Option α:=
 match r with
 |some y=>k y
 |none=>none
def JZ {α:Type} (r:Option V) (x y:α) (z:α):α:=
 match r with
 |some (.v (.bool true))=>x
 |some (.v (.bool false))=>y
 |_=>z
def QM(id:Nat) (r:Option (AX × St)):Option (AX × St):=
 match r with
 |some (.exit id',st')=>if id'=id then some (.normal,st')else some (.exit id',st')
 |r=>r
def jq {α:Type} (r:Option (AX × St)) (k:St→Option α):Option α:=
 match r with
 |some (.normal,st)|some (.ret,st)=>k st
 |_=>none
@[congr] theorem quG {r r':Option (AX × St)} {k:St→Option (AX × St)} (h:r=r'):xX r k=xX r' k:=by rw [h]
@[congr] theorem quS {α:Type} {r r':Option St} {k:St→Option α} (h:r=r'):xY r k=xY r' k:=by rw [h]
@[congr] theorem quW {α:Type} {r r':Option V} {k:V→Option α} (h:r=r'):qn r k=qn r' k:=by rw [h]
@[congr] theorem quD {α:Type} {r r':Option Mem} {k:Mem→Option α} (h:r=r'):jT r k=jT r' k:=by rw [h]
@[congr] theorem quA {α:Type} {r r':Option (List V)} {k:List V→Option α} (h:r=r'):zZ r k=zZ r' k:=by rw [h]
@[congr] theorem qwT {α:Type} {r r':Option V} {x y z:α} (h:r=r'):JZ r x y z=JZ r' x y z:=by rw [h]
@[congr] theorem qyv {α:Type} {r r':Option (AX × St)} {k:St→Option α} (h:r=r'):jq r k=jq r' k:=by rw [h]
section
variable {α:Type} {k:St→Option (AX × St)} {st:St} {id id':Nat}
@[go_sem] theorem quK:xX (some (.normal,st)) k=k st:=(rfl)
@[go_sem] theorem quL:xX (some (.ret,st)) k=some (.ret,st):=(rfl)
@[go_sem] theorem quH:xX (some (.exit id,st)) k=some (.exit id,st):=(rfl)
@[go_sem] theorem quJ:xX none k=none:=(rfl)
@[go_sem] theorem quI {p:Prop} [Decidable p] {a b:Option (AX × St)}:xX (if p then a else b) k=if p then xX a k else xX b k:=by split<;>rfl
@[go_sem] theorem quV {k:St→Option α}:xY (some st) k=k st:=(rfl)
@[go_sem] theorem quU {k:St→Option α}:xY none k=none:=(rfl)
@[go_sem] theorem quT {k:St→Option α} {p:Prop} [Decidable p] {a b:Option St}:xY (if p then a else b) k=if p then xY a k else xY b k:=by split<;>rfl
@[go_sem] theorem quZ {x:V} {k:V→Option α}:qn (some x) k=k x:=(rfl)
@[go_sem] theorem quY {k:V→Option α}:qn none k=none:=(rfl)
@[go_sem] theorem quX {k:V→Option α} {p:Prop} [Decidable p] {a b:Option V}:qn (if p then a else b) k=if p then qn a k else qn b k:=by split<;>rfl
@[go_sem] theorem quF {x:Mem} {k:Mem→Option α}:jT (some x) k=k x:=(rfl)
@[go_sem] theorem quE {k:Mem→Option α}:jT none k=none:=(rfl)
@[go_sem] theorem quC {x:List V} {k:List V→Option α}:zZ (some x) k=k x:=(rfl)
@[go_sem] theorem quB {k:List V→Option α}:zZ none k=none:=(rfl)
@[go_sem] theorem qwS {b:Bool} {x y z:α}:JZ (some (B b)) x y z=if b=true then x else y:=by cases b<;>rfl
@[go_sem] theorem qDP:QM id (some (.exit id',st))=if id'=id then some (.normal,st)else some (.exit id',st):=(rfl)
@[go_sem] theorem qDS:QM id (some (.normal,st))=some (.normal,st):=(rfl)
@[go_sem] theorem qDT:QM id (some (.ret,st))=some (.ret,st):=(rfl)
@[go_sem] theorem qDR:QM id none=none:=(rfl)
@[go_sem] theorem qDQ {p:Prop} [Decidable p] {a b:Option (AX × St)}:QM id (if p then a else b)=if p then QM id a else QM id b:=by split<;>rfl
@[go_sem] theorem qyy {k:St→Option α}:jq (some (.normal,st)) k=k st:=(rfl)
@[go_sem] theorem qyz {k:St→Option α}:jq (some (.ret,st)) k=k st:=(rfl)
@[go_sem] theorem qyx {k:St→Option α}:jq none k=none:=(rfl)
@[go_sem] theorem qyw {k:St→Option α} {p:Prop} [Decidable p] {a b:Option (AX × St)}:jq (if p then a else b) k=if p then jq a k else jq b k:=by split<;>rfl
end
noncomputable def cr(prog:Nat→Option AE) (f:Nat) (xs:List V):Option V:=(cw prog f xs).map Prod.fst
section
variable {prog:Nat→Option AE} {st:St}
theorem qF {f:Nat} {af:AF} {args:List V} (h:prog f=some (.fn af)) (hl:args.length=af.nargs):
 cr prog f args=jq (xw prog af.body {σ:=yQ 0 (za 0 args).1,T:=(za 0 args).2}) fun st=>
  (xO st.σ st.T af.res).map fun r=>(qu 30 r.2 (kC r.1)).1:=by
 unfold cr
 rw [qeX,h]
 simp only [if_pos hl]
 cases he:xw prog af.body {σ:=yQ 0 (za 0 args).1,T:=(za 0 args).2} with
 |none=>rfl
 |some s=>
  obtain ⟨e,s⟩:=s
  have hf:(qC af (za 0 args).1 s).map Prod.fst=(xO s.σ s.T af.res).map fun r=>(qu 30 r.2 (kC r.1)).1:=by
   unfold qC
   cases xO s.σ s.T af.res<;>rfl
  cases e
  ·exact hf
  ·rfl
  ·exact hf
theorem qZ {f:Nat} {af:AF} {args:List V} (h:prog f=some (.fn af)) (hl:args.length=af.nargs):
 cw prog f args=jq (xw prog af.body {σ:=yQ 0 (za 0 args).1,T:=(za 0 args).2}) fun st=>qC af (za 0 args).1 st:=by
 rw [qeX,h]
 simp only [if_pos hl]
 cases he:xw prog af.body {σ:=yQ 0 (za 0 args).1,T:=(za 0 args).2} with
 |none=>rfl
 |some s=>obtain ⟨e,s⟩:=s;cases e<;>rfl
@[go_sem] theorem qGL:xw prog .skip st=some (.normal,st):=qiY
@[go_sem] theorem qGJ:xw prog .ret st=some (.ret,st):=qqX
@[go_sem] theorem qGD {id:Nat}:xw prog (.exit id) st=some (.exit id,st):=qqR
@[go_sem] theorem qGI {is:List AI}:xw prog (.reg is) st=xY (yG (cw prog) is st) fun st=>some (.normal,st):=by
 rw [qqW];cases yG (cw prog) is st<;>rfl
@[go_sem] theorem qGC {plan:List Dp} {is:List AI}:xw prog (.dreg plan is) st=xY (zE (cw prog) plan is (xl (zO plan is) st)) fun st=>if QK st.T=true then some (.normal,st)else none:=by
 rw [qqQ];cases zE (cw prog) plan is (xl (zO plan is) st)<;>rfl
@[go_sem] theorem qGK {x y:AC}:xw prog (.seq x y) st=xX (xw prog x st) fun st'=>xw prog y st':=by
 rw [qqY]
 cases xw prog x st with
 |none=>rfl
 |some s=>obtain ⟨e,s⟩:=s;cases e<;>rfl
@[go_sem] theorem qGB {a:AO} {x y:AC}:xw prog (.cond a x y) st=JZ (ev st.σ a) (xw prog x st) (xw prog y st) none:=by
 rw [qqP];rfl
@[go_sem] theorem qGA {id:Nat} {x:AC}:xw prog (.block id x) st=QM id (xw prog x st):=by
 rw [qqO]
 cases xw prog x st with
 |none=>rfl
 |some s=>obtain ⟨e,s⟩:=s;cases e<;>rfl
@[go_sem] theorem qGF {ls:List Nat} {ks:List Key} {x:AC}:xw prog (.nam ls ks x) st=xw prog x (xx ls ks st):=qiX
@[go_sem] theorem qGG {os:List (Nat × Nat × Option Nat)} {x:AC}:xw prog (.opd os x) st=xw prog x (QL os st):=qqU
@[go_sem] theorem qGH {os:List (Nat × Key × Nat)} {x:AC}:xw prog (.opn os x) st=xw prog x (jA os st):=qqV
@[go_sem] theorem qGE {ls:List Nat} {x:AC} {σ:Sl} {T:Mem}:xw prog (.keep ls x) ⟨σ,T⟩=xw prog x ⟨zr σ ls,T⟩:=qqS
theorem qqC {ls:List Nat} {ks:List Key} {x:AC}:xw prog (.loop ls ks x) st=xX (xw prog x (xx ls ks st)) fun st'=>xw prog (.loop ls ks x) st':=by
 rw [qqT]
 cases xw prog x (xx ls ks st)with
 |none=>rfl
 |some s=>obtain ⟨e,s⟩:=s;cases e<;>rfl
variable {σ:Sl} {T:Mem} {call:Call}
@[go_sem] theorem qtV:yG call [] st=some st:=(rfl)
@[go_sem] theorem qtU {i:AI} {is:List AI}:yG call (i::is) st=xY (ql call st i) fun st=>yG call is st:=by
 simp only [yG];cases ql call st i<;>rfl
def gdK(b:Option V) (want:Bool) (x y:Option St):Option St:=
 match b with
 |some (.v (.bool b))=>if b=want then x else y
 |some (.v _)=>y
 |_=>none
@[congr] theorem qzv {b b':Option V} {w:Bool} {x y:Option St} (h:b=b'):gdK b w x y=gdK b' w x y:=by rw [h]
@[go_sem] theorem qzu {b w:Bool} {x y:Option St}:gdK (some (B b)) w x y=if b=w then x else y:=(rfl)
@[go_sem] theorem qzw {w:Bool} {x y:Option St}:gdK (some ye) w x y=y:=(rfl)
@[go_sem] theorem qy4 {j:Nat} {w:Bool} {d:Nat} {i:AI}:ql call ⟨σ,T⟩ (.gd j w (some d) i)=gdK (qz σ j) w (qi call ⟨σ,T⟩ i) (some ⟨(d,ye)::σ,T⟩):=by
 simp only [ql,gdK]
 cases qz σ j with
 |none=>rfl
 |some x=>cases x<;>first|rfl|(rename_i v;cases v<;>rfl)
@[go_sem] theorem qy5 {j:Nat} {w:Bool} {i:AI}:ql call ⟨σ,T⟩ (.gd j w none i)=gdK (qz σ j) w (qi call ⟨σ,T⟩ i) (some ⟨σ,T⟩):=by
 simp only [ql,gdK]
 cases qz σ j with
 |none=>rfl
 |some x=>cases x<;>first|rfl|(rename_i v;cases v<;>rfl)
@[go_sem] theorem qyN {n:Nat}:ev σ (.t n)=qz σ n:=(rfl)
@[go_sem] theorem qyM {x:V}:ev σ (.c x)=some x:=(rfl)
@[go_sem] theorem qyI:evL σ []=some []:=(rfl)
@[go_sem] theorem qyH {x:AO} {xs:List AO}:evL σ (x::xs)=qn (ev σ x) fun y=>zZ (evL σ xs) fun ys=>some (y::ys):=by
 simp only [evL];cases ev σ x<;>cases evL σ xs<;>rfl
@[go_sem] theorem qyJ:evO σ none=some none:=(rfl)
@[go_sem] theorem qyK {x:AO}:evO σ (some x)=qn (ev σ x) fun y=>some (some y):=by
 simp only [evO];cases ev σ x<;>rfl
attribute [go_sem] qz qp qy qir qJ qA y9 ju YL qcn jp Jj xl
def pkS(o:Option V) (t:Nat) (r:Sl):Sl:=match o with|some x=>(t,x)::r|none=>r
@[congr] theorem qD8 {o o':Option V} {t:Nat} {r:Sl} (h:o=o'):pkS o t r=pkS o' t r:=by rw [h]
@[go_sem] theorem qEa {x:V} {t:Nat} {r:Sl}:pkS (some x) t r=(t,x)::r:=(rfl)
@[go_sem] theorem qD9 {t:Nat} {r:Sl}:pkS none t r=r:=(rfl)
@[go_sem] theorem qD5 {σ:Sl}:zr σ []=[]:=(rfl)
@[go_sem] theorem qoy: ∀ (ls:List Nat),zr [] ls=[]
 |[]=>rfl
 |t::r=>by simp only [zr,qz,qoy r]
@[go_sem] theorem qD4 {q:Nat × V} {σ:Sl} {t:Nat} {r:List Nat}:zr (q::σ) (t::r)=pkS (qz (q::σ) t) t (zr (q::σ) r):=by
 simp only [zr,pkS]
 cases qz (q::σ) t<;>rfl
def pkT(o:Option Ob) (k:Key) (a b:Mem):Mem:=match o with|some x=>(k,x)::a|none=>b
@[congr] theorem qEb {o o':Option Ob} {k:Key} {a b:Mem} (h:o=o'):pkT o k a b=pkT o' k a b:=by rw [h]
@[go_sem] theorem qEd {x:Ob} {k:Key} {a b:Mem}:pkT (some x) k a b=(k,x)::a:=(rfl)
@[go_sem] theorem qEc {k:Key} {a b:Mem}:pkT none k a b=b:=(rfl)
@[go_sem] theorem qD7 {T:Mem}:yC T []=[]:=by cases T<;>rfl
@[go_sem] theorem qoz: ∀ (ks:List Key),yC [] ks=[]
 |[]=>rfl
 |k::r=>by simp only [yC,qp,qoz r]
@[go_sem] theorem qD6 {q:Key × Ob} {T:Mem} {k:Key} {r:List Key}:yC (q::T) (k::r)=pkT (qp (q::T) k) k (yC (qy (q::T) k) r) (yC (q::T) r):=by
 simp only [yC,pkT]
 cases qp (q::T) k<;>rfl
@[go_sem] theorem qD3 {T:Mem}:xc T []=[]:=(rfl)
@[go_sem] theorem qox: ∀ (ks:List Key),xc [] ks=[]
 |[]=>rfl
 |k::r=>by simp only [xc,qp,qox r]
@[go_sem] theorem qD2 {q:Key × Ob} {T:Mem} {k:Key} {r:List Key}:xc (q::T) (k::r)=pkT (qp (q::T) k) k (xc (q::T) r) (xc (q::T) r):=by
 simp only [xc,pkT]
 cases qp (q::T) k<;>rfl
def wT(d:Nat) (T:Mem):Mem:=ju d (jp d (Jj (YL d T) T))
@[go_sem] theorem qdB {d:Nat}:zh d ⟨σ,T⟩=⟨y9 d σ,wT d T⟩:=(rfl)
def xH {α:Type} (c:Bool) (x:Option α):Option α:=if c=true then x else none
@[congr] theorem qzx {α:Type} {b b':Bool} {x:Option α} (h:b=b'):xH b x=xH b' x:=by rw [h]
@[go_sem] theorem qzz {α:Type} {x:Option α}:xH true x=x:=(rfl)
@[go_sem] theorem qzy {α:Type} {x:Option α}:xH false x=none:=(rfl)
def zA {α:Type} (c:Bool) (x y:α):α:=if c=true then x else y
@[congr] theorem qDZ {α:Type} {b b':Bool} {x y:α} (h:b=b'):zA b x y=zA b' x y:=by rw [h]
@[go_sem] theorem qD1 {α:Type} {x y:α}:zA true x y=x:=(rfl)
@[go_sem] theorem qD0 {α:Type} {x y:α}:zA false x y=y:=(rfl)
section vals
variable {n:Int} {b:Bool} {l:List UInt8} {g:Nat}
attribute [go_sem] zb yr clB y0 qx ym qX qY qW zg zm xL jl jS qz
@[go_sem] theorem qvr {d:Nat} {x:V} {st:St}:xC (some d) x st=Qy d x st:=(rfl)
@[go_sem] theorem qvq {x:V} {st:St}:xC none x st=st:=(rfl)
@[go_sem] theorem qyT {x:V}:fzV true x=qX false x:=(rfl)
@[go_sem] theorem qyS {x:V}:fzV false x=x:=(rfl)
section
variable {cs xs ys:List V} {τ:Bool} {i o e:Nat} {x:V} {k:Key} {fn:Fn}
@[go_sem] theorem qvG:(V.a cs).cells=cs:=(rfl)
@[go_sem] theorem qvU:(V.p k i o).cells=[V.p k i o]:=(rfl)
@[go_sem] theorem qvW:(V.s k i o).cells=[V.s k i o]:=(rfl)
@[go_sem] theorem qvV:(V.q τ xs i o).cells=[V.q τ xs i o]:=(rfl)
@[go_sem] theorem qvJ:(V.i τ xs).cells=[V.i τ xs]:=(rfl)
@[go_sem] theorem qvS:(V.o e xs).cells=[V.o e xs]:=(rfl)
@[go_sem] theorem qvR:(V.n e).cells=[V.n e]:=(rfl)
@[go_sem] theorem qvH:(V.b x).cells=[V.b x]:=(rfl)
@[go_sem] theorem qvI:(V.f fn xs ys).cells=[V.f fn xs ys]:=(rfl)
@[go_sem] theorem qvX:(V.t xs).cells=[V.t xs]:=(rfl)
@[go_sem] theorem qzL:(V.a cs).isA=true:=(rfl)
@[go_sem] theorem qzM:(V.i τ xs).isA=false:=(rfl)
@[go_sem] theorem qzV:(V.o e xs).isA=false:=(rfl)
@[go_sem] theorem qzU:(V.n e).isA=false:=(rfl)
@[go_sem] theorem qzW:(V.s k i o).isA=false:=(rfl)
@[go_sem] theorem qxk:(V.a cs).dead=false:=(rfl)
@[go_sem] theorem qxq:(V.p k i o).dead=false:=(rfl)
@[go_sem] theorem qxs:(V.s k i o).dead=false:=(rfl)
@[go_sem] theorem qxr:(V.q τ xs i o).dead=false:=(rfl)
@[go_sem] theorem qxn:(V.i τ xs).dead=false:=(rfl)
@[go_sem] theorem qxp:(V.o e xs).dead=false:=(rfl)
@[go_sem] theorem qxo:(V.n e).dead=false:=(rfl)
@[go_sem] theorem qxl:(V.b x).dead=false:=(rfl)
@[go_sem] theorem qxm:(V.f fn xs ys).dead=false:=(rfl)
@[go_sem] theorem qwh:clE (V.a cs)=y0 cs:=(rfl)
@[go_sem] theorem qwk:clE (V.i τ xs)=true:=(rfl)
@[go_sem] theorem qwm:clE (V.o e xs)=true:=(rfl)
@[go_sem] theorem qwl:clE (V.n e)=true:=(rfl)
@[go_sem] theorem qwo:clE (V.q τ xs i o)=true:=(rfl)
@[go_sem] theorem qwi:clE (V.b x)=true:=(rfl)
@[go_sem] theorem qwp:clE (V.s k i o)=false:=(rfl)
@[go_sem] theorem qwn:clE (V.p k i o)=false:=(rfl)
@[go_sem] theorem qwj:clE (V.f fn xs ys)=(y0 xs&&y0 ys):=(rfl)
variable {d j:Nat}
@[go_sem] theorem qDF:zj d j (.o e xs)=(.s (d,j) 0 xs.length,j+1,[((d,j),e,xs)]):=(rfl)
@[go_sem] theorem qDB:zj d j (.b x)=(.p (d,j) 0 0,j+1,[((d,j),x.cells.length,[x])]):=(rfl)
@[go_sem] theorem qDC:zj d j (.i τ xs)=(.i τ xs,j,[]):=(rfl)
@[go_sem] theorem qDG:zj d j (.q τ xs i o)=(.q τ xs i o,j,[]):=(rfl)
@[go_sem] theorem qDE:zj d j (.n e)=(.n e,j,[]):=(rfl)
@[go_sem] theorem qDx:zj d j (I n)=(I n,j,[]):=(rfl)
@[go_sem] theorem qDv:zj d j (B b)=(B b,j,[]):=(rfl)
@[go_sem] theorem qDy:zj d j (S l)=(S l,j,[]):=(rfl)
@[go_sem] theorem qDA:zj d j (U8 n)=(U8 n,j,[]):=(rfl)
@[go_sem] theorem qDz:zj d j (U32 n)=(U32 n,j,[]):=(rfl)
@[go_sem] theorem qDw:zj d j (Fc g)=(Fc g,j,[]):=(rfl)
@[go_sem] theorem qDa:qL d j (.a cs)=(.a (zm d j cs).1,(zm d j cs).2):=(rfl)
@[go_sem] theorem qDc:qL d j (.f fn xs ys)=(.f fn (zm d j xs).1 (zm d (zm d j xs).2.1 ys).1,(zm d (zm d j xs).2.1 ys).2.1,(zm d j xs).2.2++(zm d (zm d j xs).2.1 ys).2.2):=(rfl)
@[go_sem] theorem qDf:qL d j (.o e xs)=(.s (d,j) 0 xs.length,j+1,[((d,j),e,xs)]):=(rfl)
@[go_sem] theorem qDb:qL d j (.b x)=(.p (d,j) 0 0,j+1,[((d,j),x.cells.length,[x])]):=(rfl)
@[go_sem] theorem qDd:qL d j (.i τ xs)=(.i τ xs,j,[]):=(rfl)
@[go_sem] theorem qDg:qL d j (.q τ xs i o)=(.q τ xs i o,j,[]):=(rfl)
@[go_sem] theorem qDe:qL d j (.n e)=(.n e,j,[]):=(rfl)
@[go_sem] theorem qC6:qL d j (I n)=(I n,j,[]):=(rfl)
@[go_sem] theorem qC5:qL d j (B b)=(B b,j,[]):=(rfl)
@[go_sem] theorem qC7:qL d j (S l)=(S l,j,[]):=(rfl)
@[go_sem] theorem qC9:qL d j (U8 n)=(U8 n,j,[]):=(rfl)
@[go_sem] theorem qC8:qL d j (U32 n)=(U32 n,j,[]):=(rfl)
@[go_sem] theorem qDu:zT d (.t xs)=(.t (xL d 0 xs).1,(xL d 0 xs).2.2):=(rfl)
@[go_sem] theorem qDn:zT d (.a cs)=(.a (zm d 0 cs).1,(zm d 0 cs).2.2):=(rfl)
@[go_sem] theorem qDp:zT d (.f fn xs ys)=((qL d 0 (.f fn xs ys)).1,(qL d 0 (.f fn xs ys)).2.2):=(rfl)
@[go_sem] theorem qDs:zT d (.o e xs)=(.s (d,0) 0 xs.length,[((d,0),e,xs)]):=(rfl)
@[go_sem] theorem qDo:zT d (.b x)=(.p (d,0) 0 0,[((d,0),x.cells.length,[x])]):=(rfl)
@[go_sem] theorem qDq:zT d (.i τ xs)=(.i τ xs,[]):=(rfl)
@[go_sem] theorem qDt:zT d (.q τ xs i o)=(.q τ xs i o,[]):=(rfl)
@[go_sem] theorem qDr:zT d (.n e)=(.n e,[]):=(rfl)
@[go_sem] theorem qDj:zT d (I n)=(I n,[]):=(rfl)
@[go_sem] theorem qDh:zT d (B b)=(B b,[]):=(rfl)
@[go_sem] theorem qDk:zT d (S l)=(S l,[]):=(rfl)
@[go_sem] theorem qDm:zT d (U8 n)=(U8 n,[]):=(rfl)
@[go_sem] theorem qDl:zT d (U32 n)=(U32 n,[]):=(rfl)
@[go_sem] theorem qDi:zT d (Fc g)=(Fc g,[]):=(rfl)
end
@[go_sem] theorem qAk {d:Nat}:qJ d (I n)=I n:=(rfl)
@[go_sem] theorem qAi {d:Nat}:qJ d (B b)=B b:=(rfl)
@[go_sem] theorem qAl {d:Nat}:qJ d (S l)=S l:=(rfl)
@[go_sem] theorem qAn {d:Nat}:qJ d (U8 n)=U8 n:=(rfl)
@[go_sem] theorem qAm {d:Nat}:qJ d (U32 n)=U32 n:=(rfl)
@[go_sem] theorem qAj {d:Nat}:qJ d (Fc g)=Fc g:=(rfl)
@[go_sem] theorem qAp {d:Nat}:qJ d ye=ye:=(rfl)
@[go_sem] theorem qvC:(I n).cells=[I n]:=(rfl)
@[go_sem] theorem qvA:(B b).cells=[B b]:=(rfl)
@[go_sem] theorem qvD:(S l).cells=[S l]:=(rfl)
@[go_sem] theorem qvF:(U8 n).cells=[U8 n]:=(rfl)
@[go_sem] theorem qvE:(U32 n).cells=[U32 n]:=(rfl)
@[go_sem] theorem qvB:(Fc g).cells=[Fc g]:=(rfl)
@[go_sem] theorem qzJ:(I n).isA=false:=(rfl)
@[go_sem] theorem qzI:(B b).isA=false:=(rfl)
@[go_sem] theorem qzK:(S l).isA=false:=(rfl)
@[go_sem] theorem qxh:(I n).dead=false:=(rfl)
@[go_sem] theorem qxg:(B b).dead=false:=(rfl)
@[go_sem] theorem qxi:(S l).dead=false:=(rfl)
@[go_sem] theorem qxj:(U8 n).dead=false:=(rfl)
@[go_sem] theorem qCP:(I n).one=true:=(rfl)
@[go_sem] theorem qCN:(B b).one=true:=(rfl)
@[go_sem] theorem qCQ:(S l).one=true:=(rfl)
@[go_sem] theorem qCS:(U8 n).one=true:=(rfl)
@[go_sem] theorem qCR:(U32 n).one=true:=(rfl)
@[go_sem] theorem qCO:(Fc g).one=true:=(rfl)
@[go_sem] theorem qCZ {k:Key} {i o:Nat}:(V.p k i o).one=true:=(rfl)
@[go_sem] theorem qC1 {k:Key} {i o:Nat}:(V.s k i o).one=true:=(rfl)
@[go_sem] theorem qC0 {τ:Bool} {xs:List V} {i o:Nat}:(V.q τ xs i o).one=true:=(rfl)
@[go_sem] theorem qCV {τ:Bool} {xs:List V}:(V.i τ xs).one=true:=(rfl)
@[go_sem] theorem qCY {e:Nat} {xs:List V}:(V.o e xs).one=true:=(rfl)
@[go_sem] theorem qCX {e:Nat}:(V.n e).one=true:=(rfl)
@[go_sem] theorem qCT {x:V}:(V.b x).one=true:=(rfl)
@[go_sem] theorem qCU {fn:Fn} {xs ys:List V}:(V.f fn xs ys).one=true:=(rfl)
@[go_sem] theorem qGO:zb (I n)=true:=(rfl)
@[go_sem] theorem qGM:zb (B b)=true:=(rfl)
@[go_sem] theorem qGP:zb (S l)=true:=(rfl)
@[go_sem] theorem qGR:zb (U8 n)=true:=(rfl)
@[go_sem] theorem qGQ:zb (U32 n)=true:=(rfl)
@[go_sem] theorem qGN:zb (Fc g)=true:=(rfl)
@[go_sem] theorem qv9:clB (I n)=true:=(rfl)
@[go_sem] theorem qv7:clB (B b)=true:=(rfl)
@[go_sem] theorem qwa:clB (S l)=true:=(rfl)
@[go_sem] theorem qwc:clB (U8 n)=true:=(rfl)
@[go_sem] theorem qwb:clB (U32 n)=true:=(rfl)
@[go_sem] theorem qv8:clB (Fc g)=true:=(rfl)
@[go_sem] theorem qwe:clE (I n)=true:=(rfl)
@[go_sem] theorem qwd:clE (B b)=true:=(rfl)
@[go_sem] theorem qwf:clE (S l)=true:=(rfl)
@[go_sem] theorem qwg:clE (U8 n)=true:=(rfl)
@[go_sem] theorem qjN {τ:Bool}:qX τ (I n)=I n:=(rfl)
@[go_sem] theorem qw5 {τ:Bool}:qX τ (B b)=B b:=(rfl)
@[go_sem] theorem qjO {τ:Bool}:qX τ (S l)=S l:=(rfl)
@[go_sem] theorem qw9 {τ:Bool}:qX τ (U8 n)=U8 n:=(rfl)
@[go_sem] theorem qw8 {τ:Bool}:qX τ (U32 n)=U32 n:=(rfl)
@[go_sem] theorem qw6 {τ:Bool}:qX τ (Fc g)=Fc g:=(rfl)
@[go_sem] theorem qgE:qW (I n)=true:=(rfl)
@[go_sem] theorem qCD:qW (B b)=true:=(rfl)
@[go_sem] theorem qgF:qW (S l)=true:=(rfl)
@[go_sem] theorem qCH:qW (U8 n)=true:=(rfl)
@[go_sem] theorem qCG:qW (U32 n)=true:=(rfl)
@[go_sem] theorem qCE:qW (Fc g)=true:=(rfl)
@[go_sem] theorem qww {m:Nat} {T:Mem}:qu (m+1) T (I n)=(I n,T):=(rfl)
@[go_sem] theorem qwu {m:Nat} {T:Mem}:qu (m+1) T (B b)=(B b,T):=(rfl)
@[go_sem] theorem qwx {m:Nat} {T:Mem}:qu (m+1) T (S l)=(S l,T):=(rfl)
@[go_sem] theorem qwz {m:Nat} {T:Mem}:qu (m+1) T (U8 n)=(U8 n,T):=(rfl)
@[go_sem] theorem qwy {m:Nat} {T:Mem}:qu (m+1) T (U32 n)=(U32 n,T):=(rfl)
@[go_sem] theorem qwv {m:Nat} {T:Mem}:qu (m+2) T (Fc g)=(Fc g,T):=(rfl)
@[go_sem] theorem qwD {m:Nat} {T:Mem} {τ:Bool} {xs:List V}:qu (m+1) T (.i τ xs)=(.i τ xs,T):=(rfl)
@[go_sem] theorem qwG {m:Nat} {T:Mem} {e:Nat} {xs:List V}:qu (m+1) T (.o e xs)=(.o e xs,T):=(rfl)
@[go_sem] theorem qwI {m:Nat} {T:Mem} {τ:Bool} {xs:List V} {i o:Nat}:qu (m+1) T (.q τ xs i o)=(.q τ xs i o,T):=(rfl)
@[go_sem] theorem qwB {m:Nat} {T:Mem} {x:V}:qu (m+1) T (.b x)=(.b x,T):=(rfl)
@[go_sem] theorem qwF {m:Nat} {T:Mem} {e:Nat}:qu (m+1) T (.n e)=(.o e [],T):=(rfl)
@[go_sem] theorem qwA {m:Nat} {T:Mem} {cs:List V}:qu (m+1) T (.a cs)=(.a (qv (qu m) T cs).1,(qv (qu m) T cs).2):=(rfl)
@[go_sem] theorem qwK {m:Nat} {T:Mem} {cs:List V}:qu (m+1) T (.t cs)=(.t (qv (qu m) T cs).1,(qv (qu m) T cs).2):=(rfl)
@[go_sem] theorem qwC {m:Nat} {T:Mem} {fn:Fn} {xs ys:List V}:qu (m+1) T (.f fn xs ys)=(.f fn (qv (qu m) T xs).1 (qv (qu m) (qv (qu m) T xs).2 ys).1,(qv (qu m) (qv (qu m) T xs).2 ys).2):=(rfl)
def esV(m:Nat) (T:Mem) (xs:List V):List V × Mem:=zA (qx xs) (xs,T) (qv (qu m) T xs)
def sK(m:Nat) (T':Mem) (lo len:Nat) (ob:Option Ob) (T:Mem):V × Mem:=
 match ob with
 |none=>(.d,T)
 |some ob=>if lo+len≤ob.2.length then
  (if lo=0 then (.o ob.1 (((esV m T' ob.2).1.drop lo).take len),(esV m T' ob.2).2)
  else (.o ob.1 (esV m T' ((ob.2.drop lo).take len)).1,(esV m T' ((ob.2.drop lo).take len)).2))else (.d,T)
@[go_sem] theorem qwJ {m:Nat} {T:Mem} {k:Key} {lo len:Nat}:qu (m+1) T (.s k lo len)=sK m (qy T k) lo len (qp T k) T:=by
 simp only [qu,sK,esV,zA];cases qp T k<;>rfl
@[go_sem] theorem qFC {m:Nat} {T T':Mem} {lo len e:Nat} {xs:List V}:sK m T' lo len (some (e,xs)) T=if lo+len≤xs.length then (if lo=0 then (.o e (((esV m T' xs).1.drop lo).take len),(esV m T' xs).2)else (.o e (esV m T' ((xs.drop lo).take len)).1,(esV m T' ((xs.drop lo).take len)).2))else (.d,T):=(rfl)
@[go_sem] theorem qFB {m:Nat} {T T':Mem} {lo len:Nat}:sK m T' lo len none T=(.d,T):=(rfl)
@[go_sem] theorem qyG {m:Nat} {T:Mem} {xs:List V}:esV m T xs=zA (qx xs) (xs,T) (qv (qu m) T xs):=(rfl)
def pK(m:Nat) (T':Mem) (ob:Option Ob) (T:Mem):V × Mem:=
 match ob with
 |some (_,[x])=>(.b ((esV m T' [x]).1.headD .d),(esV m T' [x]).2)
 |_=>(.d,T)
@[go_sem] theorem qwH {m:Nat} {T:Mem} {k:Key}:qu (m+1) T (.p k 0 0)=pK m (qy T k) (qp T k) T:=by
 simp only [qu,pK,esV,zA]
 cases qp T k with
 |none=>rfl
 |some ob=>obtain ⟨e,xs⟩:=ob;rcases xs with _|⟨x,_|⟨y,r⟩⟩<;>rfl
@[go_sem] theorem qDW {m:Nat} {T T':Mem} {e:Nat} {x:V}:pK m T' (some (e,[x])) T=(.b ((esV m T' [x]).1.headD .d),(esV m T' [x]).2):=(rfl)
@[go_sem] theorem qDV {m:Nat} {T T':Mem}:pK m T' none T=(.d,T):=(rfl)
attribute [go_sem] qv List.headD kJ wT qaO
def qFu(T:Mem) (k:Key) (ob:Option Ob):Mem:=
 match ob with
 |none=>T
 |some ob=>zA (qx ob.2) (kd k ob (qy T k)) (qy T k)
end vals
@[go_sem] theorem qzj {d:Nat} {x:AO}:ql call ⟨σ,T⟩ (.mv d x)=qn (ev σ x) fun y=>some ⟨(d,y)::σ,T⟩:=by
 simp only [ql,qi];cases ev σ x<;>rfl
def Jn {α:Type} (c:Option V) (x y:α) (z:α):α:=
 match c with
 |some (.v (.bool true))=>x
 |some (.v (.bool false))=>y
 |_=>z
@[congr] theorem qFG {α:Type} {c c':Option V} {x y z:α} (h:c=c'):Jn c x y z=Jn c' x y z:=by rw [h]
@[go_sem] theorem qFF {α:Type} {b:Bool} {x y z:α}:Jn (some (B b)) x y z=if b=true then x else y:=by cases b<;>rfl
end
end Go.Vm
namespace Go.Vm
section
variable {prog:Nat→Option AE} {st:St} {σ:Sl} {T:Mem} {call:Call}
@[go_sem] theorem qty {d:Nat} {x:AO}:qi call ⟨σ,T⟩ (.mv d x)=ql call ⟨σ,T⟩ (.mv d x):=(rfl)
@[go_sem] theorem qtC {d:Nat} {x:AO} {y:AO} {z:AO}:qi call ⟨σ,T⟩ (.pick d x y z)=ql call ⟨σ,T⟩ (.pick d x y z):=(rfl)
@[go_sem] theorem qtA {d:Nat} {x:AO}:qi call ⟨σ,T⟩ (.new d x)=ql call ⟨σ,T⟩ (.new d x):=(rfl)
@[go_sem] theorem qtd {d:Nat} {v:V} {bs:List (Nat × Nat × AO)}:qi call ⟨σ,T⟩ (.build d v bs)=ql call ⟨σ,T⟩ (.build d v bs):=(rfl)
@[go_sem] theorem qtw {d:Nat} {e:Nat} {xs:List AO}:qi call ⟨σ,T⟩ (.mks d e xs)=ql call ⟨σ,T⟩ (.mks d e xs):=(rfl)
@[go_sem] theorem qtu {d:Nat} {e:Nat} {v:V} {n:Nat} {x:AO} {y:AO}:qi call ⟨σ,T⟩ (.mk d e v n x y)=ql call ⟨σ,T⟩ (.mk d e v n x y):=(rfl)
@[go_sem] theorem qto {d:Nat} {p:Bool} {n:Nat} {x:AO}:qi call ⟨σ,T⟩ (.ld d p n x)=ql call ⟨σ,T⟩ (.ld d p n x):=(rfl)
@[go_sem] theorem qtp {d:Nat} {p:Bool} {n:Nat} {x:AO}:qi call ⟨σ,T⟩ (.ldq d p n x)=ql call ⟨σ,T⟩ (.ldq d p n x):=(rfl)
@[go_sem] theorem qtB {d:Nat} {x:AO}:qi call ⟨σ,T⟩ (.nilc d x)=ql call ⟨σ,T⟩ (.nilc d x):=(rfl)
@[go_sem] theorem qtc {d:Nat} {op:BinOp} {x:AO} {y:AO}:qi call ⟨σ,T⟩ (.bin d op x y)=ql call ⟨σ,T⟩ (.bin d op x y):=(rfl)
@[go_sem] theorem qtg {d:Nat} {n:Nat} {p:Bool} {x:AO} {y:AO}:qi call ⟨σ,T⟩ (.eqs d n p x y)=ql call ⟨σ,T⟩ (.eqs d n p x y):=(rfl)
@[go_sem] theorem qtI {d:Nat} {uo:UnOp} {x:AO}:qi call ⟨σ,T⟩ (.un d uo x)=ql call ⟨σ,T⟩ (.un d uo x):=(rfl)
@[go_sem] theorem qtD {d:Nat} {e:Nat} {x:AO} {ox:Option AO} {oy:Option AO}:qi call ⟨σ,T⟩ (.sl d e x ox oy)=ql call ⟨σ,T⟩ (.sl d e x ox oy):=(rfl)
@[go_sem] theorem qtF {d:Nat} {x:AO} {ox:Option AO} {oy:Option AO}:qi call ⟨σ,T⟩ (.ssl d x ox oy)=ql call ⟨σ,T⟩ (.ssl d x ox oy):=(rfl)
@[go_sem] theorem qtE {d:Nat} {x:AO}:qi call ⟨σ,T⟩ (.slen d x)=ql call ⟨σ,T⟩ (.slen d x):=(rfl)
@[go_sem] theorem qti {d:Nat} {x:AO} {n:Nat}:qi call ⟨σ,T⟩ (.fa d x n)=ql call ⟨σ,T⟩ (.fa d x n):=(rfl)
@[go_sem] theorem qtj {d:Nat} {p:Bool} {n:Nat} {x:AO} {m:Nat}:qi call ⟨σ,T⟩ (.fld d p n x m)=ql call ⟨σ,T⟩ (.fld d p n x m):=(rfl)
@[go_sem] theorem qtl {d:Nat} {e:Nat} {x:AO} {y:AO}:qi call ⟨σ,T⟩ (.ia d e x y)=ql call ⟨σ,T⟩ (.ia d e x y):=(rfl)
@[go_sem] theorem qtn {d:Nat} {x:AO} {y:AO}:qi call ⟨σ,T⟩ (.ix d x y)=ql call ⟨σ,T⟩ (.ix d x y):=(rfl)
@[go_sem] theorem qth {d:Nat} {x:AO} {n:Nat}:qi call ⟨σ,T⟩ (.ext d x n)=ql call ⟨σ,T⟩ (.ext d x n):=(rfl)
@[go_sem] theorem qtk {d:Nat} {fn:Fn} {xs:List AO} {ys:List AO}:qi call ⟨σ,T⟩ (.fun d fn xs ys)=ql call ⟨σ,T⟩ (.fun d fn xs ys):=(rfl)
@[go_sem] theorem qtb {d:Nat} {e:Nat} {n:Nat} {x:AO} {y:AO}:qi call ⟨σ,T⟩ (.app d e n x y)=ql call ⟨σ,T⟩ (.app d e n x y):=(rfl)
@[go_sem] theorem qtq {d:Nat} {x:AO}:qi call ⟨σ,T⟩ (.len d x)=ql call ⟨σ,T⟩ (.len d x):=(rfl)
@[go_sem] theorem qtz {d:Nat} {p:Bool} {xs:List AO}:qi call ⟨σ,T⟩ (.mx d p xs)=ql call ⟨σ,T⟩ (.mx d p xs):=(rfl)
@[go_sem] theorem qtm {d:Nat} {ik:IntKind} {x:AO}:qi call ⟨σ,T⟩ (.int d ik x)=ql call ⟨σ,T⟩ (.int d ik x):=(rfl)
@[go_sem] theorem qtH {d:Nat} {x:AO}:qi call ⟨σ,T⟩ (.str d x)=ql call ⟨σ,T⟩ (.str d x):=(rfl)
@[go_sem] theorem qte {d:Nat} {x:AO}:qi call ⟨σ,T⟩ (.byt d x)=ql call ⟨σ,T⟩ (.byt d x):=(rfl)
@[go_sem] theorem qtG {n:Nat} {x:AO} {y:AO}:qi call ⟨σ,T⟩ (.st n x y)=ql call ⟨σ,T⟩ (.st n x y):=(rfl)
@[go_sem] theorem qtf {o:Option Nat} {x:AO} {xs:List AO} {md:Md}:qi call ⟨σ,T⟩ (.call o x xs md)=ql call ⟨σ,T⟩ (.call o x xs md):=(rfl)
@[go_sem] theorem qzn {d:Nat} {c x y:AO}:ql call ⟨σ,T⟩ (.pick d c x y)=Jn (ev σ c) (qn (ev σ x) fun y=>some ⟨(d,y)::σ,T⟩) (qn (ev σ y) fun y=>some ⟨(d,y)::σ,T⟩) none:=by
 simp only [ql,qi,Jn]
 split
 ·rename_i h;rw [h];cases ev σ x<;>rfl
 ·rename_i h;rw [h];cases ev σ y<;>rfl
 ·rename_i h1 h2;split
  ·rename_i h;exact absurd h h1
  ·rename_i h;exact absurd h h2
  ·rfl
@[go_sem] theorem qzl {d:Nat} {x:AO}:ql call ⟨σ,T⟩ (.new d x)=qn (ev σ x) fun y=>xH (ym y.cells) (some ⟨(d,.p (d,0) 0 0)::y9 d σ,((d,0),y.cells.length,[qJ d y])::wT d T⟩):=by
 simp only [ql,qi];cases ev σ x<;>rfl
def qjz:List V→List (Nat × Nat × V)→Option (List V)
 |z,[]=>some z
 |z,(off,size,y)::r=>xH (!y.dead&&decide (y.cells.length=size∧off+size≤z.length)) (qjz (z.take off++y.cells++z.drop (off+size)) r)
@[go_sem] theorem qvt {z:List V}:kV σ z []=some z:=(rfl)
@[go_sem] theorem qvs {z:List V} {off size:Nat} {x:AO} {r:List (Nat × Nat × AO)}:kV σ z ((off,size,x)::r)=
 qn (ev σ x) fun y=>xH (!y.dead&&decide (y.cells.length=size)&&decide (off+size≤z.length)) (kV σ (z.take off++y.cells++z.drop (off+size)) r):=by
 simp only [kV]
 cases ev σ x with
 |none=>rfl
 |some y=>
  simp only [qn,xH]
  congr 1
  simp [and_assoc]
@[go_sem] theorem qyW {d:Nat} {z:V} {parts:List (Nat × Nat × AO)}:ql call ⟨σ,T⟩ (.build d z parts)=zZ (kV σ z.cells parts) fun cs=>some ⟨(d,.a cs)::σ,T⟩:=by
 simp only [ql,qi];cases kV σ z.cells parts<;>rfl
def kT(e:Nat):List V→Bool
 |[]=>true
 |y::ys=>ym y.cells&&(y.cells.length==e)&&kT e ys
theorem qbD(e:Nat): ∀ (ys:List V),kT e ys=ys.all fun y=>ym y.cells&&y.cells.length==e
 |[]=>rfl
 |y::ys=>by simp only [kT,List.all_cons,qbD e ys]
attribute [go_sem] kT
@[go_sem] theorem qzh {d e:Nat} {parts:List AO}:ql call ⟨σ,T⟩ (.mks d e parts)=zZ (evL σ parts) fun ys=>
 xH (kT e ys) (some ⟨(d,.s (d,0) 0 ys.length)::y9 d σ,((d,0),e,qA d ys)::wT d T⟩):=by
 simp only [ql,qi,qbD];cases evL σ parts<;>rfl
def mkK(e bytes:Nat) (z l c:V) (d:Nat) (σ:Sl) (T:Mem):Option St:=
 match l,c with
 | .v (.int _ l),.v (.int _ c)=>
  if 0≤l∧l=c∧l*bytes≤lim∧l≤lim∧z.cells.length=e∧ym z.cells∧clE z then
   some {σ:=(d,.s (d,0) 0 l.toNat)::(zh d ⟨σ,T⟩).σ,T:=((d,0),e,List.replicate l.toNat z)::(zh d ⟨σ,T⟩).T}
  else none
 |_,_=>none
@[go_sem] theorem qzf {d e bytes:Nat} {z:V} {l c:AO}:ql call ⟨σ,T⟩ (.mk d e z bytes l c)=qn (ev σ l) fun l=>qn (ev σ c) fun c=>mkK e bytes z l c d σ T:=by
 simp only [ql,qi,mkK]
 cases ev σ l with
 |none=>rfl
 |some l=>cases ev σ c with
  |none=>cases l<;>first|rfl|(rename_i v;cases v<;>rfl)
  |some c=>cases l<;>first|rfl|(rename_i v;cases v<;>first|rfl|(cases c<;>first|rfl|(rename_i v;cases v<;>rfl)))
theorem qm7 {e bytes:Nat} {z:V} {n d:Nat} (h1:n*bytes≤lim) (h2:n≤lim) (hz:z.cells.length=e) (ho:ym z.cells=true) (hc:clE z=true):
 mkK e bytes z (I n) (I n) d σ T=some ⟨(d,.s (d,0) 0 n)::y9 d σ,((d,0),e,List.replicate n z)::wT d T⟩:=by
 simp only [mkK,I]
 rw [if_pos ⟨by omega,trivial,by exact_mod_cast h1,by exact_mod_cast h2,hz,ho,hc⟩]
 simp [qdB]
@[go_sem] theorem qy9 {d size:Nat} {agg:Bool} {a:AO}:ql call ⟨σ,T⟩ (.ld d agg size a)=qn (ev σ a) fun p=>qn (xb T agg size p) fun y=>
 zA (zb y) (some ⟨(d,y)::σ,T⟩) (qn (xb (wT d T) agg size p) fun y'=>jT (j8 (wT d T) p (qL d 0 y').1) fun T'=>some ⟨(d,(qL d 0 y').1)::y9 d σ,(qL d 0 y').2.2++T'⟩):=by
 simp only [ql,qi]
 cases ev σ a with
 |none=>rfl
 |some p=>
  simp only [qn]
  cases xb T agg size p with
  |none=>rfl
  |some y=>
   simp only [zA]
   cases h:zb y
   ·simp only [Bool.not_false,Bool.false_eq_true,if_true,if_false,qdB]
    cases xb (wT d T) agg size p with
    |none=>rfl
    |some y'=>
     simp only
     cases j8 (wT d T) p (qL d 0 y').1<;>rfl
   ·simp [St.put]
@[go_sem] theorem qza {d size:Nat} {agg:Bool} {a:AO}:ql call ⟨σ,T⟩ (.ldq d agg size a)=qn (ev σ a) fun p=>qn (xb T agg size p) fun y=>xH (zb y) (some ⟨(d,y)::σ,T⟩):=by
 simp only [ql,qi]
 cases ev σ a with
 |none=>rfl
 |some p=>simp only [qn];cases xb T agg size p<;>rfl
@[go_sem] theorem qzr {size:Nat} {a x:AO}:ql call ⟨σ,T⟩ (.st size a x)=qn (ev σ a) fun p=>qn (ev σ x) fun y=>
 xH (decide (y.cells.length=size)&&ym y.cells) (jT (j8 T p y) fun T'=>some ⟨σ,T'⟩):=by
 simp only [ql,qi]
 cases ev σ a with
 |none=>rfl
 |some p=>cases ev σ x with
  |none=>rfl
  |some y=>
   simp only [qn,xH,Bool.and_eq_true,decide_eq_true_eq]
   congr 1
   cases j8 T p y<;>rfl
def K1(d:Nat) (σ:Sl) (T:Mem):V→Option St
 | .p k idx off=>some ⟨(d,.p k idx off)::σ,T⟩
 | .q τ xs idx off=>some ⟨(d,.q τ xs idx off)::σ,T⟩
 | .f (.func g) first caps=>some ⟨(d,.f (.func g) first caps)::σ,T⟩
 |_=>none
@[go_sem] theorem qBn {d:Nat} {k:Key} {i o:Nat}:K1 d σ T (.p k i o)=some ⟨(d,.p k i o)::σ,T⟩:=(rfl)
@[go_sem] theorem qBo {d:Nat} {τ:Bool} {xs:List V} {i o:Nat}:K1 d σ T (.q τ xs i o)=some ⟨(d,.q τ xs i o)::σ,T⟩:=(rfl)
@[go_sem] theorem qBm {d g:Nat} {xs ys:List V}:K1 d σ T (.f (.func g) xs ys)=some ⟨(d,.f (.func g) xs ys)::σ,T⟩:=(rfl)
@[go_sem] theorem qBl {d g:Nat}:K1 d σ T (Fc g)=some ⟨(d,Fc g)::σ,T⟩:=(rfl)
@[go_sem] theorem qzm {d:Nat} {x:AO}:ql call ⟨σ,T⟩ (.nilc d x)=qn (ev σ x) fun y=>K1 d σ T y:=by
 simp only [ql,qi]
 cases ev σ x with
 |none=>rfl
 |some y=>cases y<;>first|rfl|(rename_i f _ _;cases f<;>rfl)
@[go_sem] theorem qyV {d:Nat} {op:BinOp} {x y:AO}:ql call ⟨σ,T⟩ (.bin d op x y)=qn (ev σ x) fun x=>qn (ev σ y) fun y=>qn (zt op x y) fun z=>some ⟨(d,z)::σ,T⟩:=by
 simp only [ql,qi]
 cases ev σ x with
 |none=>rfl
 |some x=>cases ev σ y with
  |none=>rfl
  |some y=>simp only [qn];cases zt op x y<;>rfl
def eqB(k:Nat) (x y:V):Option V:=(eqV k x y).map B
@[go_sem] theorem qyZ {d k:Nat} {neg:Bool} {x y:AO}:ql call ⟨σ,T⟩ (.eqs d k neg x y)=qn (ev σ x) fun x=>qn (ev σ y) fun y=>qn ((eqV k x y).map fun r=>B (r != neg)) fun z=>some ⟨(d,z)::σ,T⟩:=by
 simp only [ql,qi]
 cases ev σ x with
 |none=>rfl
 |some x=>cases ev σ y with
  |none=>rfl
  |some y=>simp only [qn];cases eqV k x y<;>rfl
def unV(op:UnOp):V→Option V
 | .v x=>(Op.unary op x).val?.map .v
 |_=>none
@[go_sem] theorem qzt {d:Nat} {op:UnOp} {x:AO}:ql call ⟨σ,T⟩ (.un d op x)=qn (ev σ x) fun x=>qn (unV op x) fun z=>some ⟨(d,z)::σ,T⟩:=by
 simp only [ql,qi]
 cases ev σ x with
 |none=>rfl
 |some x=>cases x<;>first|rfl|(simp only [qn,unV,Option.map_map];rename_i v;cases (Op.unary op v).val?<;>rfl)
@[go_sem] theorem qFZ {b:Bool}:unV .not (B b)=some (B (!b)):=(rfl)
@[go_sem] theorem qFY {n:Int}:unV .neg (I n)=some (I (w64 (0 - n))):=(rfl)
def jU {α:Type} (r:Option (Option V)) (k:Option V→Option α):Option α:=
 match r with
 |some y=>k y
 |none=>none
@[congr] theorem quM {α:Type} {r r':Option (Option V)} {k:Option V→Option α} (h:r=r'):jU r k=jU r' k:=by rw [h]
@[go_sem] theorem quN {α:Type} {x:Option V} {k:Option V→Option α}:jU (some x) k=k x:=(rfl)
@[go_sem] theorem qyL {x:AO}:evO σ (some x)=qn (ev σ x) fun y=>some (some y):=by
 simp only [evO];cases ev σ x<;>rfl
@[go_sem] theorem qzo {d e:Nat} {x:AO} {lo hi:Option AO}:ql call ⟨σ,T⟩ (.sl d e x lo hi)=qn (ev σ x) fun x=>jU (evO σ lo) fun lo=>jU (evO σ hi) fun hi=>qn (Y7 T e x lo hi) fun z=>some ⟨(d,z)::σ,T⟩:=by
 simp only [ql,qi]
 cases ev σ x with
 |none=>rfl
 |some x=>cases evO σ lo with
  |none=>rfl
  |some lo=>cases evO σ hi with
   |none=>rfl
   |some hi=>simp only [qn,jU];cases Y7 T e x lo hi<;>rfl
def Jo(x:V) (lo hi:Option V):Option V:=
 match x with
 | .v (.string s)=>match yY 0 lo,yY s.size hi with
  |some l,some h=>if l≤h∧h≤s.size then some (.v (.string (s.extract l h)))else none
  |_,_=>none
 |_=>none
@[go_sem] theorem qzq {d:Nat} {x:AO} {lo hi:Option AO}:ql call ⟨σ,T⟩ (.ssl d x lo hi)=qn (ev σ x) fun x=>jU (evO σ lo) fun lo=>jU (evO σ hi) fun hi=>qn (Jo x lo hi) fun z=>some ⟨(d,z)::σ,T⟩:=by
 simp only [ql,qi]
 cases ev σ x with
 |none=>rfl
 |some x=>cases evO σ lo with
  |none=>cases x<;>first|rfl|(rename_i v;cases v<;>rfl)
  |some lo=>cases evO σ hi with
   |none=>cases x<;>first|rfl|(rename_i v;cases v<;>rfl)
   |some hi=>
    simp only [qn,jU,Jo]
    cases x<;>first|rfl|(rename_i v;cases v<;>first|rfl|skip)
    rename_i s
    simp only
    cases yY 0 lo with
    |none=>rfl
    |some l=>cases yY s.size hi with
     |none=>rfl
     |some h=>simp only;split<;>rfl
def Qx(d:Nat):Option V→Option Int
 |none=>some d
 |some (.v (.int _ i))=>some i
 |_=>none
@[go_sem] theorem qu6 {d:Nat}:Qx d none=some d:=(rfl)
@[go_sem] theorem qu5 {d:Nat} {i:Int}:Qx d (some (I i))=some i:=(rfl)
theorem qqb {l:List UInt8} {lo hi:Option V} {a b:Int} (h1:Qx 0 lo=some a) (h2:Qx l.length hi=some b) (h3:0≤a) (h4:a≤b) (h5:b≤l.length):
 Jo (S l) lo hi=some (S ((l.take b.toNat).drop a.toNat)):=by
 have e1:yY 0 lo=some a.toNat:=by
  unfold yY;unfold Qx at h1;split at h1
  ·simp only [Option.some.injEq]at h1;subst h1;simp
  ·simp only [Option.some.injEq]at h1;subst h1;simp [h3]
  ·cases h1
 have e2:yY l.length hi=some b.toNat:=by
  unfold yY;unfold Qx at h2;split at h2
  ·simp only [Option.some.injEq]at h2;subst h2;simp
  ·simp only [Option.some.injEq]at h2;subst h2;show (if _ then _ else _)=_;rw [if_pos (by omega)]
  ·cases h2
 have hs:(ByteArray.mk l.toArray).size=l.length:=by simp [ByteArray.size]
 simp only [Jo,S,hs,e1,e2]
 rw [if_pos ⟨by omega,by omega⟩]
 congr 3
 apply ByteArray.ext
 apply Array.ext'
 simp only [ByteArray.data_extract,List.extract_toArray,List.toList_toArray,List.extract_eq_take_drop]
 rw [List.drop_take]
def qds:V→Option V
 | .v (.string s)=>some (.v (.int .i64 s.size))
 |_=>none
@[go_sem] theorem qzp {d:Nat} {x:AO}:ql call ⟨σ,T⟩ (.slen d x)=qn (ev σ x) fun x=>qn (qds x) fun z=>some ⟨(d,z)::σ,T⟩:=by
 simp only [ql,qi]
 cases ev σ x with
 |none=>rfl
 |some x=>cases x<;>first|rfl|(rename_i v;cases v<;>rfl)
@[go_sem] theorem qFM {l:List UInt8}:qds (S l)=some (I l.length):=by simp [qds,S,I,ByteArray.size]
def faV(off:Nat):V→Option V
 | .p k idx o=>some (.p k idx (o+off))
 | .q τ xs idx o=>some (.q τ xs idx (o+off))
 |_=>none
@[go_sem] theorem qyP {off:Nat} {k:Key} {i o:Nat}:faV off (.p k i o)=some (.p k i (o+off)):=(rfl)
@[go_sem] theorem qyQ {off:Nat} {τ:Bool} {xs:List V} {i o:Nat}:faV off (.q τ xs i o)=some (.q τ xs i (o+off)):=(rfl)
@[go_sem] theorem qy1 {d off:Nat} {x:AO}:ql call ⟨σ,T⟩ (.fa d x off)=qn (ev σ x) fun x=>qn (faV off x) fun z=>some ⟨(d,z)::σ,T⟩:=by
 simp only [ql,qi]
 cases ev σ x with
 |none=>rfl
 |some x=>cases x<;>rfl
def qbY(agg:Bool) (size off:Nat):V→Option V
 | .a cs=>qT agg size (.a cs) off
 |_=>none
@[go_sem] theorem qyR {agg:Bool} {size off:Nat} {cs:List V}:qbY agg size off (.a cs)=qT agg size (.a cs) off:=(rfl)
@[go_sem] theorem qy2 {d size off:Nat} {agg:Bool} {x:AO}:ql call ⟨σ,T⟩ (.fld d agg size x off)=qn (ev σ x) fun x=>qn (qbY agg size off x) fun z=>some ⟨(d,z)::σ,T⟩:=by
 simp only [ql,qi]
 cases ev σ x with
 |none=>rfl
 |some x=>cases x<;>first|rfl|(simp only [qn,qbY];rename_i cs;cases qT agg size (.a cs) off<;>rfl)
def iaV(T:Mem) (e:Nat) (x i:V):Option V:=
 match i with
 | .v (.int _ i)=>ko T e x i
 |_=>none
@[go_sem] theorem qzA {e:Nat} {x:V} {i:Int}:iaV T e x (I i)=ko T e x i:=(rfl)
@[go_sem] theorem qy6 {d e:Nat} {x i:AO}:ql call ⟨σ,T⟩ (.ia d e x i)=qn (ev σ x) fun x=>qn (ev σ i) fun i=>qn (iaV T e x i) fun z=>some ⟨(d,z)::σ,T⟩:=by
 simp only [ql,qi]
 cases ev σ x with
 |none=>rfl
 |some x=>cases ev σ i with
  |none=>rfl
  |some i=>cases i<;>first|rfl|(rename_i v;cases v<;>first|rfl|(simp only [qn,iaV];rename_i j;cases ko T e x j<;>rfl))
def ixV:V→V→Option V
 | .v (.string s),.v (.int _ i)=>(zS i s.size).map fun j=>qP (s.data[j]?.getD 0)
 |_,_=>none
@[go_sem] theorem qy8 {d:Nat} {x i:AO}:ql call ⟨σ,T⟩ (.ix d x i)=qn (ev σ x) fun x=>qn (ev σ i) fun i=>qn (ixV x i) fun z=>some ⟨(d,z)::σ,T⟩:=by
 simp only [ql,qi]
 cases ev σ x with
 |none=>rfl
 |some x=>cases ev σ i with
  |none=>cases x<;>first|rfl|(rename_i v;cases v<;>rfl)
  |some i=>
   cases x<;>first|rfl|(rename_i v;cases v<;>first|rfl|skip)
   rename_i s
   cases i<;>first|rfl|(rename_i v;cases v<;>first|rfl|(simp only [qn,ixV];rename_i j;cases zS j s.size<;>rfl))
theorem kz {l:List UInt8} {i:Int} {c:UInt8} (h0:0≤i) (h:l[i.toNat]? =some c):ixV (S l) (I i)=some (U8 c.toNat):=by
 have hl:i.toNat < l.length:=(List.getElem?_eq_some_iff.1 h).1
 have hs:(ByteArray.mk l.toArray).size=l.length:=by simp [ByteArray.size]
 simp only [ixV,S,I,hs,zS]
 rw [if_pos ⟨h0,by omega⟩]
 simp [h,qP,U8]
def qbW(i:Nat):V→Option V
 | .t vs=>vs[i]?
 |_=>none
@[go_sem] theorem qyO {i:Nat} {vs:List V}:qbW i (.t vs)=vs[i]? :=(rfl)
@[go_sem] theorem qy0 {d i:Nat} {x:AO}:ql call ⟨σ,T⟩ (.ext d x i)=qn (ev σ x) fun x=>qn (qbW i x) fun z=>some ⟨(d,z)::σ,T⟩:=by
 simp only [ql,qi]
 cases ev σ x with
 |none=>rfl
 |some x=>cases x<;>first|rfl|(simp only [qn,qbW];rename_i vs;cases vs[i]? <;>rfl)
@[go_sem] theorem qy3 {d:Nat} {fn:Fn} {first caps:List AO}:ql call ⟨σ,T⟩ (.fun d fn first caps)=zZ (evL σ first) fun a=>zZ (evL σ caps) fun b=>some ⟨(d,.f fn a b)::σ,T⟩:=by
 simp only [ql,qi]
 cases evL σ first with
 |none=>rfl
 |some a=>cases evL σ caps<;>rfl
def KW(x:V):Option V:=(QI x).map fun n=>I n
@[go_sem] theorem qAA {k:Key} {lo len:Nat}:KW (.s k lo len)=some (I len):=(rfl)
@[go_sem] theorem qAy {τ:Bool} {xs:List V}:KW (.i τ xs)=some (I xs.length):=(rfl)
@[go_sem] theorem qAz {e:Nat}:KW (.n e)=some (I 0):=(rfl)
@[go_sem] theorem qzb {d:Nat} {x:AO}:ql call ⟨σ,T⟩ (.len d x)=qn (ev σ x) fun x=>qn (KW x) fun z=>some ⟨(d,z)::σ,T⟩:=by
 simp only [ql,qi]
 cases ev σ x with
 |none=>rfl
 |some x=>simp only [qn,KW];cases QI x<;>rfl
def mxV(max:Bool):List V→Option V
 |[.v (.int k a),.v (.int _ b)]=>some (.v (.int k (if max then (if b > a then b else a)else (if b < a then b else a))))
 |_=>none
@[go_sem] theorem qzk {d:Nat} {max:Bool} {args:List AO}:ql call ⟨σ,T⟩ (.mx d max args)=zZ (evL σ args) fun xs=>qn (mxV max xs) fun z=>some ⟨(d,z)::σ,T⟩:=by
 simp only [ql,qi]
 cases evL σ args with
 |none=>rfl
 |some xs=>
  rcases xs with _|⟨x,_|⟨y,_|⟨z,r⟩⟩⟩
  ·rfl
  ·cases x<;>first|rfl|(rename_i v;cases v<;>rfl)
  ·cases x<;>first|rfl|(rename_i v;cases v<;>first|rfl|(cases y<;>first|rfl|(rename_i v;cases v<;>rfl)))
  ·cases x<;>first|rfl|(rename_i v;cases v<;>first|rfl|(cases y<;>first|rfl|(rename_i v;cases v<;>rfl)))
@[go_sem] theorem qBg {a b:Int}:mxV true [I a,I b]=some (I (if b > a then b else a)):=(rfl)
@[go_sem] theorem qBh {a b:Int}:mxV false [I a,I b]=some (I (if b < a then b else a)):=(rfl)
def qck(k:IntKind):V→Option V
 | .v (.int _ n)=>some (.v (.int k (k.wrap n)))
 |_=>none
@[go_sem] theorem qy7 {d:Nat} {k:IntKind} {x:AO}:ql call ⟨σ,T⟩ (.int d k x)=qn (ev σ x) fun x=>qn (qck k x) fun z=>some ⟨(d,z)::σ,T⟩:=by
 simp only [ql,qi]
 cases ev σ x with
 |none=>rfl
 |some x=>cases x<;>first|rfl|(rename_i v;cases v<;>rfl)
@[go_sem] theorem qzE {n:Int}:qck .i64 (U8 n)=some (I (w64 n)):=(rfl)
@[go_sem] theorem qzD {n:Int}:qck .u8 (I n)=some (U8 (IntKind.u8.wrap n)):=(rfl)
def qdt(xs:Option (List V)):Option V:=
 match xs with
 |some xs=>(x6 xs).map fun l=>S l
 |none=>none
@[go_sem] theorem qzs {d:Nat} {x:AO}:ql call ⟨σ,T⟩ (.str d x)=qn (ev σ x) fun x=>qn (qdt (ku T 1 x)) fun z=>some ⟨(d,z)::σ,T⟩:=by
 simp only [ql,qi]
 cases ev σ x with
 |none=>rfl
 |some x=>
  simp only [qn]
  cases ku T 1 x with
  |none=>rfl
  |some xs=>simp only [qdt];cases x6 xs<;>rfl
@[go_sem] theorem qFS {xs:List V}:qdt (some xs)=(x6 xs).map fun l=>S l:=(rfl)
def Zp {α:Type} (f:V) (k:Nat→List V→List V→Option α):Option α:=
 match f with
 | .f (.func g) first caps=>k g first caps
 |_=>none
@[congr] theorem qvv {α:Type} {f f':V} {k:Nat→List V→List V→Option α} (h:f=f'):Zp f k=Zp f' k:=by rw [h]
@[go_sem] theorem qvu {α:Type} {g:Nat} {k:Nat→List V→List V→Option α}:Zp (Fc g) k=k g [] []:=(rfl)
@[go_sem] theorem qvw {α:Type} {g:Nat} {a b:List V} {k:Nat→List V→List V→Option α}:Zp (.f (.func g) a b) k=k g a b:=(rfl)
@[go_sem] theorem qyY {d:Option Nat} {f:AO} {args:List AO} {fz:Bool}:ql (cw prog) ⟨σ,T⟩ (.call d f args (.ro fz))=qn (ev σ f) fun fv=>zZ (evL σ args) fun xs=>
 Zp fv fun g first caps=>qn (cr prog g (kJ T (first++xs++caps))) fun r=>xH (qW r) (some (xC d (fzV fz r) ⟨σ,T⟩)):=by
 simp only [ql,qi]
 cases ev σ f with
 |none=>rfl
 |some fv=>
  cases evL σ args with
  |none=>simp only [qn,zZ];cases callee fv<;>rfl
  |some xs=>
   simp only [qn,zZ]
   cases fv with
   |f fn first caps=>
    cases fn<;>first|rfl|skip
    simp only [callee,Zp,xE]
    unfold cr
    rename_i g
    cases cw prog g (kJ T (first++xs++caps))with
    |none=>rfl
    |some r=>obtain ⟨r,o⟩:=r;rfl
   |_=>rfl
def ioK {α:Type} (r:Option (V × List V)) (k:V→List V→Option α):Option α:=
 match r with
 |some (r,outs)=>k r outs
 |none=>none
@[congr] theorem qzG {α:Type} {r r':Option (V × List V)} {k:V→List V→Option α} (h:r=r'):ioK r k=ioK r' k:=by rw [h]
@[go_sem] theorem qzH {α:Type} {r:V} {outs:List V} {k:V→List V→Option α}:ioK (some (r,outs)) k=k r outs:=(rfl)
@[go_sem] theorem qyX {d:Option Nat} {f:AO} {args:List AO} {fz:Bool}:ql (cw prog) ⟨σ,T⟩ (.call d f args (.io fz))=qn (ev σ f) fun fv=>zZ (evL σ args) fun xs=>
 Zp fv fun g first caps=>ioK (cw prog g (qv (qu 30) T (first++xs++caps)).1) fun r outs=>some (xC d (fzV fz r) ⟨σ,jS T (first++xs++caps) outs++(qv (qu 30) T (first++xs++caps)).2⟩):=by
 simp only [ql,qi]
 cases ev σ f with
 |none=>rfl
 |some fv=>
  cases evL σ args with
  |none=>simp only [qn,zZ];cases callee fv<;>rfl
  |some xs=>
   simp only [qn,zZ]
   cases fv with
   |f fn first caps=>
    cases fn<;>first|rfl|skip
   |_=>rfl
def bkO(k:Key) (lo e:Nat) (xs:List V) (ob:Option Ob):Mem:=
 match ob with
 |some ob=>if lo=0∧ob.1=e then [(k,e,xs)]else []
 |none=>[]
section
variable {k:Key} {lo len e i o:Nat} {xs ys zs:List V} {x y:V} {τ:Bool} {n:Int} {b:Bool} {l:List UInt8} {fn fn':Fn} {cs ds:List V}
@[go_sem] theorem qt5:yT T (.s k lo len) (.o e xs)=bkO k lo e xs (qp T k):=by simp only [yT,bkO];cases qp T k<;>rfl
@[go_sem] theorem qu0 {e':Nat} {zs:List V}:bkO k lo e xs (some (e',zs))=if lo=0∧e'=e then [(k,e,xs)]else []:=(rfl)
@[go_sem] theorem qt4:yT T (.s k lo len) .d=[]:=(rfl)
@[go_sem] theorem qt0:yT T (.i τ xs) y=[]:=(rfl)
@[go_sem] theorem qtY:yT T (I n) y=[]:=(rfl)
@[go_sem] theorem qtZ:yT T (S l) y=[]:=(rfl)
@[go_sem] theorem qtX:yT T (B b) y=[]:=(rfl)
@[go_sem] theorem qt1:yT T (.n e) y=[]:=(rfl)
@[go_sem] theorem qt3:yT T (.q τ xs i o) y=[]:=(rfl)
@[go_sem] theorem qt9:kU T (.a cs) (.a ds)=jl T cs ds:=(rfl)
@[go_sem] theorem qud:kU T (.s k lo len) y=yT T (.s k lo len) y:=(rfl)
@[go_sem] theorem qua:kU T (.i τ xs) y=[]:=(rfl)
@[go_sem] theorem qt7:kU T (I n) y=[]:=(rfl)
@[go_sem] theorem qt8:kU T (S l) y=[]:=(rfl)
@[go_sem] theorem qt6:kU T (B b) y=[]:=(rfl)
@[go_sem] theorem qub:kU T (.n e) y=[]:=(rfl)
@[go_sem] theorem quc:kU T (.p k i o) y=yT T (.p k i o) y:=(rfl)
end
theorem qjx {d:Nat} {x:V}:Qy d x ⟨σ,T⟩=zA (zb x) ⟨(d,x)::σ,T⟩ ⟨(d,(zT d x).1)::y9 d σ,(zT d x).2++wT d T⟩:=by
 unfold Qy zA
 cases h:zb x<;>simp [qdB,St.put]
end
end Go.Vm
