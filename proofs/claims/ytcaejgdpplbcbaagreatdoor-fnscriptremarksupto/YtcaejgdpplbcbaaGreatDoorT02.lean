import Derived.Test.YtcaejgdpplbcbaaGreatDoorT01
import Derived.Attr
set_option autoImplicit false
set_option linter.unusedSectionVars false
set_option linter.unusedVariables false
set_option linter.unusedSimpArgs false
namespace Go.Vm
variable [Lay]
def qba:AI→Bool
 | .mv .. | .pick .. | .build .. | .ldq .. | .nilc .. | .bin .. | .eqs .. | .un .. | .sl .. | .ssl .. | .slen .. | .fa .. | .fld .. | .ia .. | .ix .. | .ext .. | .fun .. | .len .. | .mx .. | .int .. | .str .. | .mget .. =>true
 |_=>false
def roI:AI→Bool
 | .call _ _ _ (.ro _)=>true
 |_=>false
def KD:AI→AI
 | .gd _ _ _ i=>i
 |i=>i
section
variable {P:Program} {N n:Nat} {ops:Array Oper} {o:Oper} {E:Env} {c:Cnt} {st st':St} {a:Act} {call:qQ} {ai h:AI}
theorem qnc(hq:qba h=true) (ht:z6 P N o h=some ai) (hs:qh call st ai=some st') (hf:FRel N E st a.tmps c):
 qF N E st st' o.dst ((execOp a.eval o).run P E.w):=by
 cases h<;>simp only [qba]at hq<;>(first|(cases hq;done)|skip)<;>simp only [z6]at ht<;>(split at ht)<;>(first|(cases ht;done)|skip)<;>rename_i hd
 case mv.isTrue=>exact qfb hd ht hs hf
 case pick.isTrue=>exact qfe hd ht hs hf
 case build.isTrue=>exact qeZ hd ht hs hf
 case ldq.isTrue=>exact qe8 hd ht hs hf
 case nilc.isTrue=>exact qfd hd ht hs hf
 case bin.isTrue=>exact qeY hd ht hs hf
 case eqs.isTrue=>exact qe0 hd ht hs hf
 case un.isTrue=>exact qfj hd ht hs hf
 case sl.isTrue=>exact qff hd ht hs hf
 case ssl.isTrue=>exact qfh hd ht hs hf
 case slen.isTrue=>exact qfg hd ht hs hf
 case fa.isTrue=>exact qe2 hd ht hs hf
 case fld.isTrue=>exact qe3 hd ht hs hf
 case ia.isTrue=>exact qe5 hd ht hs hf
 case ix.isTrue=>exact qe7 hd ht hs hf
 case ext.isTrue=>exact qe1 hd ht hs hf
 case fun.isTrue=>exact qe4 hd ht hs hf
 case len.isTrue=>exact qe9 hd ht hs hf
 case mx.isTrue=>exact qfc hd ht hs hf
 case int.isTrue=>exact qe6 hd ht hs hf
 case str.isTrue=>exact qfi hd ht hs hf
 case mget.isTrue=>exact qfa hd ht hs hf
theorem qhB {Q:Exit→Act→World→Prop} {K:Act→World→Prop} (h:qF N E st st' o.dst ((execOp a.eval o).run P E.w))
 (hK: ∀ d x y,o.dst=some d→d < N→st'=st.put d x→Rel E x y c0→K (a.put o.dst y) E.w):o.wp P a E.w K Q:=by
 obtain ⟨d,x,y,hd,hn,hr,hs,hx⟩:=h
 unfold Oper.wp
 rw [hr]
 exact hK d x y hd hn hs hx
theorem qgb(ht:z6 P N o h=some ai):qt ai=o.dst:=by
 cases h<;>simp only [z6]at ht<;>(first|(cases ht;done)|skip)<;>(split at ht)<;>(first|(cases ht;done)|skip)<;>rename_i hd
 case st.isTrue=>
  have hd':o.dst=none:=by simpa using hd
  unfold ZC at ht
  (repeat' (split at ht))<;>simp_all [qt]
  subst ht;simp [qt]
 case mset.isTrue=>
  have hd':o.dst=none:=by simpa using hd
  unfold Zt at ht
  (repeat' (split at ht))<;>simp_all [qt]<;>(subst ht;simp [qt])
 case mes.isTrue=>
  have hd':o.dst=none:=by simpa using hd
  unfold Zo at ht
  (repeat' (split at ht))<;>simp_all [qt]
  subst ht;simp [qt]
 case call.isTrue=>
  simp only [kT,Bool.and_eq_true,decide_eq_true_eq]at hd
  unfold Ql at ht
  split at ht
  case h_2=>cases ht
  split at ht
  case h_2=>cases ht
  obtain ⟨x,y,-,-,rfl⟩:=kx ht
  simp only [qt];exact hd.1.symm
 all_goals
  rw [(zi hd).1]
  simp only [kB,Zy,Zv,Zb,Zs,Zq,Zk,Zl,Zw,Za,Zc,ZE,Zz,ZB,ZA,Ze,Zf,Zh,Zj,Zd,Zg,Q9,Zm,Zu,Zi,ZD,Zr,Zp,Zn,xa]at ht
  (repeat' (split at ht))<;>(first|(cases ht;done)|skip)<;>simp only [Option.map_eq_some_iff,Option.some.injEq]at ht<;>
   (first|(subst ht;rfl)|(obtain ⟨x,-,rfl⟩:=ht;rfl))
theorem qnd(ht:trI P N n ops o h=some ai) (hs:qk call st ai=some st') (hf:FRel N E st a.tmps c):
 qt ai=o.dst∧((Region.wanted o (yielded ops a.tmps)=false∧(o.dst=none→st'=st)∧(∀ d,o.dst=some d→d < N∧st'=st.put d zN))∨
 (Region.wanted o (yielded ops a.tmps)=true∧ ∃ ai1,z6 P N o (KD h)=some ai1∧qh call st ai1=some st')):=by
 have hwant:o.guard.isNone=true→Region.wanted o (yielded ops a.tmps)=true:=by
  intro hg
  unfold Region.wanted
  split
  ·rfl
  ·rename_i he;rw [he]at hg;cases hg
 have hplain: ∀ i,o.guard.isNone=true→z6 P N o i=some ai→Region.wanted o (yielded ops a.tmps)=true∧ ∃ ai1,z6 P N o i=some ai1∧qh call st ai1=some st':=by
  intro i hg hi
  refine ⟨hwant hg,ai,hi, ?_⟩
  have hng: ∀ j w d i',ai ≠ .gd j w d i':=by
   rintro j w d i' rfl
   cases i<;>simp only [z6]at hi<;>(first|(cases hi;done)|skip)<;>(split at hi)<;>(first|(cases hi;done)|skip)<;>
    simp only [kB,Zy,Zv,Zb,Zs,Zq,Zk,Zl,Zw,Za,Zc,ZE,Zz,ZB,ZA,Ze,Zf,Zh,Zj,Zd,Zg,Q9,Zm,Zu,Zi,ZD,ZC,Ql,Zr,Zt,Zp,Zn,Zo,xa]at hi<;>
    (repeat' (split at hi))<;>simp_all
  rw [qdG call ai hng]at hs
  exact hs
 unfold trI at ht
 split at ht
 ·rename_i j want d i
  split at ht
  case h_2=>cases ht
  rename_i k w hg
  split at ht
  case isFalse=>cases ht
  rename_i hc
  simp only [Bool.and_eq_true,decide_eq_true_eq]at hc
  obtain ⟨⟨⟨rfl,hdn⟩,hdst⟩,hj⟩:=hc
  rw [Option.map_eq_some_iff]at ht
  obtain ⟨i',hi',rfl⟩:=ht
  simp only [kT,Bool.and_eq_true,decide_eq_true_eq]at hdst
  obtain ⟨hod,hdN⟩:=hdst
  refine ⟨by simp only [qt];exact hod.symm, ?_⟩
  simp only [qk]at hs
  have hno:(d=none→st'=st)→(∀ t,d=some t→st'=st.put t zN)→(o.dst=none→st'=st)∧(∀ d,o.dst=some d→d < N∧st'=st.put d zN):=by
   intro h1 h2
   rw [hod]
   refine ⟨h1,fun t e=>⟨?_,h2 t e⟩⟩
   subst e;simpa using hdN
  split at hs
  ·rename_i b hb
   obtain ⟨v,hv,hr⟩:=hf.σ _ _ hb
   simp only [Rel]at hr
   have hy:yielded ops a.tmps k=some b:=by simp only [yielded,hj,Option.bind_some,hv,hr.1]
   by_cases hbw:b=w
   ·subst hbw
    rw [if_pos rfl]at hs
    exact .inr ⟨by simp only [Region.wanted,hg,hy,beq_self_eq_true],i',hi',hs⟩
   ·rw [if_neg hbw]at hs
    refine .inl ⟨by simp only [Region.wanted,hg,hy];simp [hbw], ?_⟩
    exact hno (fun e=>by subst e;simpa using hs.symm) (fun t e=>by subst e;simpa using hs.symm)
  ·rename_i x hnb hx
   obtain ⟨v,hv,hr⟩:=hf.σ _ _ hx
   simp only [Rel]at hr
   have hy:yielded ops a.tmps k=none:=by
    simp only [yielded,hj,Option.bind_some,hv,hr.1]
    cases x<;>first|rfl|exact absurd rfl (hnb _)
   refine .inl ⟨by simp only [Region.wanted,hg,hy];rfl, ?_⟩
   exact hno (fun e=>by subst e;simpa using hs.symm) (fun t e=>by subst e;simpa using hs.symm)
  ·cases hs
 ·rename_i d h'
  split at ht
  case isFalse=>cases ht
  rename_i hc
  simp only [Bool.and_eq_true]at hc
  have hi:z6 P N o (.mv d h')=some ai:=by simp only [z6,hc.2,if_true];exact ht
  exact ⟨qgb hi,.inr (hplain _ hc.1 hi)⟩
 ·rename_i i hn1 hn2
  split at ht
  case isFalse=>cases ht
  rename_i hc
  simp only [Bool.and_eq_true]at hc
  have hb:KD h=h:=by cases h<;>first|rfl|exact absurd rfl (hn1 _ _ _ _)
  rw [hb]
  exact ⟨qgb ht,.inr (hplain _ hc.1 ht)⟩
end
end Go.Vm
namespace Go.Vm
variable [Lay]
section
variable {E:Env}
theorem Qk(f:Key→Bool): ∀ {T:Mem} {c:Cnt},qm E T c→ ∃ c',qm E (qE f T) c'∧cle c' c
 |[],c,h=>⟨c,h,qN _⟩
 |(k,ob)::r,c,h=>by
  obtain ⟨c1,c2,h1,h2,rfl⟩:=h
  obtain ⟨c3,h3,h4⟩:=Qk f h2
  simp only [qE]
  split
  ·exact ⟨qg c1 c3,⟨c1,c3,h1,h3,rfl⟩,y3 (qN _) h4⟩
  ·exact ⟨c3,h3,yi h4 (yo _ _)⟩
theorem qay: ∀ {T:Mem} {k k':Key},k' ≠ k→qq (qw T k) k'=qq T k'
 |[],k,k',h=>rfl
 |(u,x)::r,k,k',h=>by
  simp only [qw]
  split
  ·rename_i e;subst e
   simp only [qq];rw [if_neg (Ne.symm h)]
  ·simp only [qq,qay h]
theorem Yj(f g:Key→Bool): ∀ T:Mem,qE f (qE g T)=qE (fun u=>g u&&f u) T
 |[]=>rfl
 |(k,x)::r=>by
  by_cases hg:g k=true
  ·by_cases hf:f k=true
   ·simp [qE,hg,hf,Yj f g r]
   ·simp [qE,hg,hf,Yj f g r]
  ·simp [qE,hg,Yj f g r]
theorem qdB {f:Key→Bool} {k:Key} (h:f k=false): ∀ {T:Mem},qE f (qw T k)=qE f T
 |[]=>rfl
 |(u,x)::r=>by
  simp only [qw]
  split
  ·rename_i e;subst e
   simp only [qE,h,Bool.false_eq_true,if_false]
  ·simp only [qE,qdB h]
theorem qbF: ∀ (ks:List Key) {L:Mem} {c:Cnt},ks.Nodup→qm E L c→
 ∃ c1 c2,qm E (zz (qq L) ks) c1∧qm E (qE (fun k=> !ks.contains k) L) c2∧cle (qg c1 c2) c
 |[],L,c,hn,h=>by
  obtain ⟨c2,h2,h3⟩:=Qk (fun k=> !([]:List Key).contains k) h
  exact ⟨c0,c2,rfl,h2,by rw [qU];exact h3⟩
 |k::ks,L,c,hn,h=>by
  obtain ⟨hk,hn⟩:=List.nodup_cons.1 hn
  cases hg:qq L k with
  |none=>
   obtain ⟨c1,c2,h1,h2,h3⟩:=qbF ks hn h
   refine ⟨c1,c2,by simp only [zz,hg];exact h1, ?_,h3⟩
   have:qE (fun u=> !(k::ks).contains u) L=qE (fun u=> !ks.contains u) L:=by
    clear h h1 h2
    induction L with
    |nil=>rfl
    |cons x r ih=>
     obtain ⟨u,y⟩:=x
     simp only [qq]at hg
     split at hg
     ·cases hg
     ·rename_i hu
      simp only [qE,ih hg]
      have:(k::ks).contains u=ks.contains u:=by
       simp only [List.contains_cons]
       have:(u==k)=false:=by simpa using hu
       rw [this,Bool.false_or]
      rw [this]
   rw [this];exact h2
  |some ob=>
   obtain ⟨d1,d2,ho,hr,rfl⟩:=zM h hg
   obtain ⟨c1,c2,h1,h2,h3⟩:=qbF ks hn hr
   obtain ⟨c3,h4,h5⟩:=Qk (fun u=>u != k) h2
   refine ⟨qg d1 c1,c3, ?_, ?_,fun b=>by have:=h3 b;have:=h5 b;simp only [qg]at*;omega⟩
   ·simp only [zz,hg]
    refine ⟨d1,c1,ho, ?_,rfl⟩
    rw [Yu (g:=qq (qw L k)) (fun u hu=>(qay (by rintro rfl;exact hk hu)).symm)]
    exact h1
   ·have:qE (fun u=> !(k::ks).contains u) L=qE (fun u=>u != k) (qE (fun u=> !ks.contains u) (qw L k)):=by
     rw [Yj,qdB (by simp)]
     congr 1
     funext u
     simp only [List.contains_cons,Bool.not_or,bne]
     exact Bool.and_comm _ _
    rw [this];exact h4
theorem qf7: ∀ {T:Mem} {L:Mem} {c:Cnt},ju T=true→qm E L c→(∀ k x,qq T k=some x→qq L k=some x)→ ∃ c',qm E T c'∧cle c' c
 |[],L,c,hn,h,hs=>⟨c0,rfl,fun _=>Nat.zero_le _⟩
 |(k,ob)::r,L,c,hn,h,hs=>by
  simp only [ju,Bool.and_eq_true,Option.isNone_iff_eq_none]at hn
  have hg:qq L k=some ob:=hs k ob (by simp [qq])
  obtain ⟨d1,d2,ho,hr,rfl⟩:=zM h hg
  obtain ⟨c',h1,h2⟩:=qf7 (T:=r) hn.2 hr (fun u x hu=>by
   have hne:u ≠ k:=by rintro rfl;rw [hn.1]at hu;cases hu
   rw [qay hne]
   exact hs u x (by simp only [qq];rw [if_neg (Ne.symm hne)];exact hu))
  exact ⟨qg d1 c',⟨d1,c',ho,h1,rfl⟩,y3 (qN _) h2⟩
end
end Go.Vm
namespace Go.Vm
variable [Lay]
def y6(plan:List Dp) (is:List AI) (listed:Array Bool) (d:Nat):Prop:=
 ∃ (i:Nat) (p:Dp) (ai:AI),listed.getD i true=false∧plan[i]? =some p∧is[i]? =some ai∧p.k ≠ 0∧qt ai=some d
structure InvD (N n:Nat) (E0:Env) (k0:Cnt) (a0:Act) (fr:Nat→Prop) (s:FS) (a:Act) (E:Env) (c:Cnt):Prop where
 sz:a.tmps.size=N
 df:a.defers=a0.defers
 σ: ∀ t x,s.1 t=some x→ ∃ y,a.tmps[t]? =some y∧Rel E x y c0
 T: ∃ L,(∀ k,qq L k=s.2 k)∧qm E L c
 g:Good E c
 kn:KN n E0 E
 adv:Adv E0 k0 E c
 fr: ∀ d,fr d→ ∀ j,E.μ (d,j)=none
section
variable {N n:Nat} {E0 E E':Env} {k0 c cA cB:Cnt} {a0 a:Act} {fr fr':Nat→Prop} {s:FS} {dst:Option Nat} {σ':Sl} {T' L:Mem} {y:Value} {p:Dp}
theorem InvD.next(h:InvD N n E0 k0 a0 fr s a E c) (hL: ∀ k,qq L k=s.2 k) (hd: ∀ t,dst=some t→t < N) (hm:Mono E E' c0) (hσ: ∀ d x,dst=some d→qB σ' d=some x→Rel E' x y c0)
 (hA:qm E' (qE (p.own dst) T') cA) (hB:qm E' (qE (fun k=> !p.own dst k) L) cB) (hg:Good E' (qg cA cB)) (hadv:Adv E c E' (qg cA cB)) (hkn:KN n E E')
 (hfr: ∀ d,fr' d→ ∀ j,E'.μ (d,j)=none):InvD N n E0 k0 a0 fr' (yc dst σ' s.1,ye p dst T' s.2) (a.put dst y) E' (qg cA cB):=by
 refine ⟨by cases dst<;>simp [Act.put,h.sz],(qeV _ _ _).trans h.df,fun t x hx=> ?_,⟨qE (p.own dst) T'++qE (fun k=> !p.own dst k) L,fun k=> ?_,yK hA hB⟩,hg,h.kn.trans hkn,h.adv.trans hadv,hfr⟩
 ·simp only [yc]at hx
  split at hx
  ·rename_i e
   subst e
   have ht:=hd t rfl
   refine ⟨y, ?_,hσ t x rfl hx⟩
   simp [Act.put,h.sz,ht]
  ·rename_i e
   obtain ⟨v,h1,h2⟩:=h.σ t x hx
   refine ⟨v, ?_,zZ h2 hm⟩
   cases dst with
   |none=>exact h1
   |some d=>
    have:d ≠ t:=by rintro rfl;exact e rfl
    simp only [Act.put]
    rw [Array.getElem?_setIfInBounds_ne this];exact h1
 ·rw [qax,QR,QR]
  simp only [ye,hL]
  cases p.own dst k<;>simp
theorem qaA {f:Nat→Option V}: ∀ {us:List Nat} {t:Nat} {x:V},qB (ya f us) t=some x→f t=some x
 |[],t,x,h=>by cases h
 |u::us,t,x,h=>by
  simp only [ya]at h
  split at h
  ·rename_i z hz
   simp only [qB]at h
   split at h
   ·rename_i e;subst e;rw [hz];exact h
   ·exact qaA h
  ·exact qaA h
theorem InvD.sub(h:InvD N n E0 k0 a0 fr s a E c) (hL: ∀ k,qq L k=s.2 k) (hT:qm E L c) (us:List Nat) {ks:List Key} (hn:ks.Nodup):
 ∃ cK cR,FRel N E {σ:=ya s.1 us,T:=zz s.2 ks} a.tmps cK∧qm E (qE (fun k=> !ks.contains k) L) cR∧cle (qg cK cR) c:=by
 obtain ⟨c1,c2,h1,h2,h3⟩:=qbF ks hn hT
 have he:zz s.2 ks=zz (qq L) ks:=Yu fun k _=>(hL k).symm
 refine ⟨c1,c2,⟨h.sz,fun t x hx=>h.σ t x (qaA hx),by rw [he];exact h1,h.g.le (yi (jo _ _) h3)⟩,h2,h3⟩
theorem InvD.quiet(h:InvD N n E0 k0 a0 fr s a E c) {d:Nat} {x:V} {st0:St} (hp:p.k=0) (hd:d < N) (hx:Rel E x y c0) (hfr: ∀ d,fr' d→fr d):
 InvD N n E0 k0 a0 fr' (yc (some d) (st0.put d x).σ s.1,ye p (some d) (st0.put d x).T s.2) (a.put (some d) y) E c:=by
 obtain ⟨L,hL,hT⟩:=h.T
 have hown: ∀ k,p.own (some d) k=false:=fun k=>qa0 hp k
 have hf1: ∀ T:Mem,qE (p.own (some d)) T=[]:=by
  intro T;induction T with
  |nil=>rfl
  |cons z r ih=>obtain ⟨u,v⟩:=z;simp only [qE,hown,Bool.false_eq_true,if_false,ih]
 have hf2: ∀ T:Mem,qE (fun k=> !p.own (some d) k) T=T:=by
  intro T
  have e:(fun k=> !p.own (some d) k)=fun _=>true:=funext fun k=>by rw [hown k];rfl
  rw [e]
  induction T with
  |nil=>rfl
  |cons z r ih=>obtain ⟨u,v⟩:=z;simp only [qE,if_true,ih]
 have:=InvD.next (fr':=fr') (E':=E) (cA:=c0) (cB:=c) (dst:=some d) (σ':=(st0.put d x).σ) (T':=(st0.put d x).T) (y:=y) (p:=p) h hL (fun t ht=>by cases ht;exact hd) (qkC E c0)
  (fun d' x' hd' hx'=>by cases hd';simp only [St.put,qB,if_pos,Option.some.injEq]at hx';subst hx';exact hx) (by rw [hf1];rfl) (by rw [hf2];exact hT) (by rw [qU];exact h.g) (by rw [qU];exact Adv.refl _ _) KN.refl
  (fun d' hd'=>h.fr d' (hfr d' hd'))
 rw [qU]at this;exact this
end
end Go.Vm
namespace Go.Vm
variable [Lay]
section
variable {P:Program} {N n:Nat} {E0 E E':Env} {k0 c cK cR c':Cnt} {a0 a:Act} {fr fr':Nat→Prop} {s:FS} {dst:Option Nat} {st':St} {L:Mem} {y:Value} {p:Dp} {call:qQ}
theorem qkE(h:InvD N n E0 k0 a0 fr s a E c) (hkp:zY dst E E') (hdf: ∀ d,dst=some d→fr d): ∀ k l,E.μ k=some l→E'.μ k=some l:=by
 intro k l hk
 by_cases hd:dst=some k.1
 ·have:=h.fr k.1 (hdf _ hd) k.2
  rw [hk]at this;cases this
 ·rw [hkp k hd];exact hk
theorem InvD.write(h:InvD N n E0 k0 a0 fr s a E c) (hL: ∀ k,qq L k=s.2 k) (hcR:qm E (qE (fun k=> !p.ks.contains k) L) cR) (hle:cle (qg cK cR) c)
 (hp:p.k=1) (hd: ∀ t,dst=some t→t < N) (hdf: ∀ d,dst=some d→fr d) (hfr: ∀ d,fr' d→fr d∧dst ≠ some d)
 (hF:FRel N E' st' (a.put dst y).tmps c') (hkn:KN n E E') (hkp:zY dst E E') (hA:Adv E cK E' c'):
 ∃ c'',InvD N n E0 k0 a0 fr' (yc dst st'.σ s.1,ye p dst st'.T s.2) (a.put dst y) E' c'':=by
 have hμ:=qkE h hkp hdf
 have hg:Good E (qg cK cR):=h.g.le hle
 have hmono:=qaP hg hA hμ
 have hgood:=qaB hg hA hF.g
 obtain ⟨cA,h1,h2⟩:=Qk (p.own dst) hF.T
 have he:qE (fun k=> !p.own dst k) L=qE (fun k=> !p.own dst k) (qE (fun k=> !p.ks.contains k) L):=by
  rw [Yj]
  congr 1
  funext u
  cases hc:p.ks.contains u with
  |false=>simp
  |true=>
   have:p.own dst u=true:=by unfold Dp.own;rw [hp,hc];rfl
   rw [this];rfl
 obtain ⟨cB,h3,h4⟩:=Qk (fun k=> !p.own dst k) (zE hcR hmono)
 rw [← he]at h3
 have hle2:cle (qg cA cB) (qg c' cR):=y3 h2 h4
 refine ⟨qg cA cB,InvD.next h hL hd (hmono.le fun _=>Nat.zero_le _) ?_ h1 h3 (hgood.le hle2) ((QC (J8 cR hA) hle).le hle2) hkn ?_⟩
 ·intro d x hdd hx
  obtain ⟨v,hv,hr⟩:=hF.σ d x hx
  subst hdd
  have hdN:=hd d rfl
  have:(a.put (some d) y).tmps[d]? =some y:=by simp [Act.put,h.sz,hdN]
  rw [this]at hv;cases hv
  exact hr
 ·intro d hd' j
  obtain ⟨h5,h6⟩:=hfr d hd'
  rw [hkp (d,j) h6]
  exact h.fr d h5 j
theorem qnk {d:Nat} {st:St}:qE (fun k=>decide (k.1=d)) (q9 d st).T=[]:=by
 have: ∀ T:Mem,(∀ k ob,(k,ob) ∈ T→k.1 ≠ d)→qE (fun k=>decide (k.1=d)) (kq d T)=[]:=by
  intro T hT
  induction T with
  |nil=>rfl
  |cons z r ih=>
   obtain ⟨k,e,xs⟩:=z
   have hk:=hT k _ (List.mem_cons_self)
   simp only [kq,qE]
   rw [if_neg (by simpa using hk)]
   exact ih fun k ob h=>hT k ob (List.mem_cons_of_mem _ h)
 exact this _ fun k ob hk=>Ye d hk
theorem qdA(f:Key→Bool): ∀ A B:Mem,qE f (A++B)=qE f A++qE f B
 |[],B=>rfl
 |(k,x)::r,B=>by
  simp only [List.cons_append,qE,qdA f r B]
  split<;>rfl
theorem qat {f:Key→Bool} {g:Key→Option Ob}: ∀ {ks:List Key},(∀ k ∈ ks,f k=false)→qE f (zz g ks)=[]
 |[],h=>rfl
 |k::ks,h=>by
  simp only [zz]
  split
  ·simp only [qE,h k (List.mem_cons_self),Bool.false_eq_true,if_false]
   exact qat fun u hu=>h u (List.mem_cons_of_mem _ hu)
  ·exact qat fun u hu=>h u (List.mem_cons_of_mem _ hu)
theorem InvD.ro(h:InvD N n E0 k0 a0 fr s a E c) (hL: ∀ k,qq L k=s.2 k) (hT:qm E L c) (hp:p.k=2) (hd: ∀ t,dst=some t→t < N) (hdf: ∀ d,dst=some d→fr d) (hfr: ∀ d,fr' d→fr d∧dst ≠ some d)
 (hnk: ∀ t,dst=some t→n≤t) (hks: ∀ k ∈ p.ks,dst ≠ some k.1) {σ0:Sl} {r:V} {c5:Cnt} (hst:st'=y1 dst r {σ:=σ0,T:=zz s.2 p.ks}) (hσd: ∀ d,dst=some d→True)
 (hμ:E'.μ=E.μ) (hr:Rel E'.cl r y c5) (hg5:Good E' c5) (hA:Adv E c0 E' c5):
 ∃ E4 c4,E4.w=E'.w∧InvD N n E0 k0 a0 fr' (yc dst st'.σ s.1,ye p dst st'.T s.2) (a.put dst y) E4 c4:=by
 have hg':Good E (qg c0 c):=by rw [qU];exact h.g
 have hM:Mono E E' c:=qaP hg' hA (fun k l hk=>by rw [hμ];exact hk)
 have hgood:Good E' (qg c5 c):=qaB hg' hA hg5
 have hadv:Adv E c E' (qg c5 c):=by have:=J8 c hA;rwa [qU]at this
 have hown: ∀ k,p.own dst k=decide (dst=some k.1):=fun k=>by
  simp only [Dp.own,hp]
  rw [Bool.eq_iff_iff]
  cases dst<;>simp
 obtain ⟨cB,hB,hBle⟩:=Qk (fun k=> !p.own dst k) (zE hT hM)
 cases dst with
 |none=>
  have e1: ∀ T,qE (p.own none) T=[]:=by
   intro T;induction T with
   |nil=>rfl
   |cons z t ih=>obtain ⟨k,x⟩:=z;simp only [qE,hown k];rw [if_neg (by simp)];exact ih
  refine ⟨E',qg c0 cB,rfl,InvD.next h hL hd (hM.le fun _=>Nat.zero_le _) (fun d x hdd=>by cases hdd) (by rw [e1];rfl) hB (hgood.le ?_) (hadv.le ?_) (fun k _=>by rw [hμ]) (fun d hd' j=>by rw [hμ];exact h.fr d (hfr d hd').1 j)⟩
  ·rw [qU];exact yi hBle (yo _ _)
  ·rw [qU];exact yi hBle (yo _ _)
 |some d=>
  have hdN:=hd d rfl
  have hfree: ∀ j,E'.μ (d,j)=none:=fun j=>by rw [hμ];exact h.fr d (hdf d rfl) j
  have hownd:p.own (some d)=fun k:Key=>decide (k.1=d):=funext fun k=>by rw [hown];simp [eq_comm]
  simp only [y1,jm]at hst
  split at hst
  ·
   obtain ⟨E4,c6,j',hn,h1,h2,h3⟩:=qaW (d:=d) hfree (zZ hr (xH E' c5))
   subst hst
   have hA4:qE (p.own (some d)) ((zD d r).2++(q9 d {σ:=σ0,T:=zz s.2 p.ks}).T)=qE (p.own (some d)) (zD d r).2:=by
    rw [qdA,hownd,qnk,List.append_nil]
   obtain ⟨cA,h4,h5⟩:=Qk (p.own (some d)) h2
   have hle:cle (qg cA cB) (qg c5 c):=fun b=>by have:=h5 b;have:=h3 b;have:=hBle b;simp only [qg]at*;omega
   have hMn:=hn.mono (E:=E') (E':=E4)
   have hg4:Good E4 (qg cA cB):=kP hn.hw hn.hI hle hgood
   refine ⟨E4,qg cA cB,hn.hw,InvD.next h hL hd ?_ ?_ (by simp only [hA4];exact h4) (zE hB (hn.mono _)) hg4 ?_ ?_ ?_⟩
   ·exact ⟨fun τ b hb=>⟨by rw [hn.hI];exact (hM.hI τ b hb).1,by rw [hn.hw];exact (hM.hI τ b hb).2⟩,fun b hb=>absurd rfl hb,fun k l hk=>hn.hμ k l (by rw [hμ];exact hk)⟩
   ·intro d' x hdd hx
    cases hdd
    simp only [qB,if_pos,Option.some.injEq]at hx
    subst hx;exact h1
   ·exact hadv.trans (kb hn.hw hn.hI hle)
   ·intro k hk
    rw [hn.hout k (by have:=hnk d rfl;omega),hμ]
   ·intro d' hd' j
    obtain ⟨h6,h7⟩:=hfr d' hd'
    rw [hn.hout (d',j) (by rintro rfl;exact h7 rfl),hμ]
    exact h.fr d' h6 j
  ·rename_i hz
   have h0:=Qc hr (by simpa using hz)
   subst h0
   subst hst
   have e1:qE (p.own (some d)) (St.put {σ:=σ0,T:=zz s.2 p.ks} d r).T=[]:=qat fun k hk=>by
    rw [hown];simpa using hks k hk
   rw [qU]at hgood hadv
   refine ⟨E',qg c0 cB,rfl,InvD.next h hL hd (hM.le fun _=>Nat.zero_le _) ?_ (by rw [e1];rfl) hB (hgood.le ?_) (hadv.le ?_) (fun k _=>by rw [hμ]) (fun d hd' j=>by rw [hμ];exact h.fr d (hfr d hd').1 j)⟩
   ·intro d' x hdd hx
    cases hdd
    simp only [St.put,qB,if_pos,Option.some.injEq]at hx
    subst hx
    exact zZ hr (xH E' c0)
   ·rw [qU];exact hBle
   ·rw [qU];exact hBle
end
end Go.Vm
namespace Go.Vm
variable [Lay]
def qcC(l:List Nat) (x:Nat):List Nat:=if l.contains x then l else x::l
def KB(ops:Array Oper):List (List Nat):=
 ops.toList.foldl (fun acc o=>
  acc++[((o.after.toList.filter fun e=>Region.binds .any e).map (·.on)).foldl (fun l k=>(acc.getD k []).foldl qcC (qcC l k)) []]) []
def Yt(plan:List Dp) (is:List AI) (anc:List (List Nat)):Bool:=
 (List.range is.length).all fun i=>(List.range i).all fun j=>match plan[j]?,is[j]?,plan[i]?,is[i]? with
  |some pj,some aj,some pi,some ai=>((anc.getD i []).contains j||qbE pj aj pi ai)&&(pj.k==0||pi.k==0||ZF (qt aj) (qt ai))
  |_,_,_,_=>false
def KY:List Key→Bool
 |[]=>true
 |k::ks=> !ks.contains k&&KY ks
def K3(n:Nat) (p:Dp) (h ai:AI):Bool:=
 ((p.k==0&&qba (KD h))||p.k==1||(p.k==2&&roI (KD h)))&&KY p.ks&&
   (p.k==0||(match qt ai with|some d=>decide (n≤d)&&p.ks.all (fun k=>k.1 != d)|none=>true))
def yV(n:Nat):List Dp→List AI→List AI→Bool
 |[],[],[]=>true
 |p::ps,h::hs,i::is=>K3 n p h i&&yV n ps hs is
 |_,_,_=>false
def dOk(P:Program) (n:Nat) (ops:Array Oper) (plan:List Dp) (hs is:List AI):Bool:=
 P.follows .mixedOrders&&K2 ops (KB ops)&&qaV ops&&Yt plan is (KB ops)&&yV n plan hs is
theorem qez: ∀ {ks:List Key},KY ks=true→ks.Nodup
 |[],h=>List.nodup_nil
 |k::ks,h=>by
  simp only [KY,Bool.and_eq_true,Bool.not_eq_true',List.contains_eq_mem,decide_eq_false_iff_not]at h
  exact List.nodup_cons.2 ⟨h.1,qez h.2⟩
theorem qaY {n:Nat}: ∀ {plan:List Dp} {hs is:List AI},yV n plan hs is=true→plan.length=is.length∧hs.length=is.length∧
 ∀ (i:Nat) (p:Dp) (h ai:AI),plan[i]? =some p→hs[i]? =some h→is[i]? =some ai→K3 n p h ai=true
 |[],[],[],h=>⟨rfl,rfl,fun i p h ai h1=>by simp at h1⟩
 |p::ps,h::hs,a::is,hk=>by
  simp only [yV,Bool.and_eq_true]at hk
  obtain ⟨h1,h2,h3⟩:=qaY hk.2
  refine ⟨by simp [h1],by simp [h2],fun i p' h' a' e1 e2 e3=> ?_⟩
  cases i with
  |zero=>simp at e1 e2 e3;subst e1;subst e2;subst e3;exact hk.1
  |succ i=>exact h3 i p' h' a' (by simpa using e1) (by simpa using e2) (by simpa using e3)
 |[],[],_::_,h=>by simp [yV]at h
 |[],_::_,_,h=>by simp [yV]at h
 |_::_,[],_,h=>by simp [yV]at h
 |_::_,_::_,[],h=>by simp [yV]at h
def Q8(call:qQ) (plan:List Dp) (is:List AI) (i:Nat) (s:FS):Option FS:=
 match plan[i]?,is[i]? with
 |some p,some ai=>kY call p ai s
 |_,_=>none
theorem qcI {call:qQ} {plan:List Dp} {is:List AI}: ∀ (ps:List Dp) (as:List AI) (k:Nat) (st st1:St),plan.drop k=ps→is.drop k=as→zq call ps as st=some st1→
 x3 (Q8 call plan is) (List.range' k as.length) (jB st)=some (jB st1)
 |[],[],k,st,st1,h1,h2,h=>by
  simp only [zq,Option.some.injEq]at h;subst h;rfl
 |p::ps,a::as,k,st,st1,h1,h2,h=>by
  simp only [zq]at h
  split at h
  case h_2=>cases h
  rename_i st2 hs
  have hp:plan[k]? =some p:=by
   have:(plan.drop k)[0]? =some p:=by rw [h1];rfl
   simpa using this
  have ha:is[k]? =some a:=by
   have:(is.drop k)[0]? =some a:=by rw [h2];rfl
   simpa using this
  simp only [List.length_cons,List.range'_succ,x3,Q8,hp,ha,qmY hs]
  exact qcI ps as (k+1) st2 st1 (by rw [← List.drop_drop,h1];rfl) (by rw [← List.drop_drop,h2];rfl) h
 |[],_::_,k,st,st1,h1,h2,h=>by simp [zq]at h
 |_::_,[],k,st,st1,h1,h2,h=>by simp [zq]at h
section
variable {P:Program} {N n:Nat} {E:Env} {c:Cnt} {st:St} {tmps:Array Value}
theorem qgh: ∀ (ds:List Nat) {st:St} {E:Env} {c:Cnt},FRel N E st tmps c→(∀ d ∈ ds,n≤d)→
 ∃ E' c',E'.w=E.w∧E'.I=E.I∧KN n E E'∧FRel N E' (yL ds st) tmps c'∧cle c' c∧(∀ d ∈ ds,∀ j,E'.μ (d,j)=none)∧(∀ d,(∀ j,E.μ (d,j)=none)→ ∀ j,E'.μ (d,j)=none)
 |[],st,E,c,h,hd=>⟨E,c,rfl,rfl,KN.refl,h,qN _,fun d hd=>(by cases hd),fun d h=>h⟩
 |d::ds,st,E,c,h,hd=>by
  obtain ⟨c1,h1,h2,h3⟩:=jD d h.σ h.T
  obtain ⟨E',c',w1,i1,k1,f1,l1,m1,m2⟩:=qgh ds (st:=q9 d st) (E:=E.drop d) (c:=c1) ⟨h.sz,h1,h2,(h.g.drop d).le h3⟩ (fun e he=>hd e (List.mem_cons_of_mem _ he))
  have hdn:=hd d (List.mem_cons_self)
  refine ⟨E',c',w1,i1,fun k hk=> ?_,f1,yi l1 h3,fun e he=> ?_,fun e he=> ?_⟩
  ·rw [k1 k hk]
   simp only [Env.drop];rw [if_neg (by omega)]
  ·rcases List.mem_cons.1 he with rfl|he
   ·exact m2 e (fun j=>xX E e j)
   ·exact m1 e he
  ·exact m2 e fun j=>by
    simp only [Env.drop]
    split
    ·rfl
    ·exact he j
end
end Go.Vm
namespace Go.Vm
variable [Lay]
section
variable {P:Program} {N n:Nat} {ops:Array Oper} {o:Oper} {E:Env} {c:Cnt} {st st':St} {a:Act} {call:qQ} {ai h:AI}
theorem ql3(hC:xS P call) (hq:roI h=true) (ht:z6 P N o h=some ai) (hs:qh call st ai=some st') (hf:FRel N E st a.tmps c) {Q:Exit→Act→World→Prop} {K:Act→World→Prop}
 (hK: ∀ y E3 c5 r,E3.μ=E.μ→Rel E3.cl r y c5→Good E3 c5→Adv E c0 E3 c5→st'=y1 o.dst r st→K (a.put o.dst y) E3.w):o.wp P a E.w K Q:=by
 unfold roI at hq
 split at hq
 case h_2=>cases hq
 rename_i d hh hs' fz
 simp only [z6]at ht
 split at ht
 case isFalse=>cases ht
 rename_i hd
 simp only [kT,Bool.and_eq_true,decide_eq_true_eq]at hd
 obtain ⟨hd,hn⟩:=hd
 unfold Ql at ht
 split at ht
 case h_2=>cases ht
 rename_i cl ho
 split at ht
 case h_2=>cases ht
 rename_i f hfn
 obtain ⟨f',xs',h1,h2,rfl⟩:=kx ht
 simp only [qh]at hs
 split at hs
 case h_2=>cases hs
 rename_i fv hfv
 split at hs
 case h_2=>cases hs
 rename_i g first caps xs hcal hxs
 have hrf:=qD hf.σ h1 hfv
 have hrx:=QP hf.σ h2 hxs
 unfold callee at hcal
 split at hcal
 case h_2=>cases hcal
 rename_i g0 fi0 ca0
 simp only [Option.some.injEq,Prod.mk.injEq]at hcal
 obtain ⟨rfl,rfl,rfl⟩:=hcal
 simp only [Rel]at hrf
 obtain ⟨fs,cs,c1,c2,hv,hr1,hr2,hcc⟩:=hrf
 obtain ⟨rfl,rfl⟩:=cz hcc.symm.symm rfl
 have hL:qi E (_++xs++_) (fs.toList++cl.args.toList.map a.eval++cs.toList) c0:=xJ (xJ hr1 hrx) hr2
 simp only [y4]at hs
 split at hs
 case h_2=>cases hs
 rename_i r outs hcall
 split at hs
 case isFalse=>cases hs
 rename_i hnt
 simp only [Option.some.injEq]at hs
 have hA:=qfG hC (fz:=fz) hcall hnt hL hf.T hf.g
 have hrun:(execOp a.eval o).run P E.w=(callFunc g0 (fs.toList++cl.args.toList.map a.eval++cs.toList).toArray).run P E.w:=by
  rw [execOp];simp only [ho,resolve,hfn,hv,Deferred.ofValue,invoke,Sem.run_bind,Sem.run_pure,Result.andThen_ok]
  congr 2
  apply Array.ext'
  simp
 unfold Oper.wp
 rw [hrun]
 have hK': ∀ y w',(∃ E3 c5,E3.w=w'∧E3.μ=E.μ∧Rel E3.cl (fzV fz r) y c5∧Good E3 c5∧(∀ b,b < E.w.heap.size→w'.heap[b]? =E.w.heap[b]?)∧Adv E c0 E3 c5)→K (a.put o.dst y) w':=by
  rintro y w' ⟨E3,c5,rfl,k1,k2,k3,-,k4⟩
  exact hK y E3 c5 _ k1 k2 k3 k4 (by rw [hd];exact hs.symm)
 unfold kE at hA
 split at hA
 ·rename_i g' args w' he
  rw [he]
  obtain ⟨rfl,hc⟩:=hA
  refine hc.mono ?_
  rintro e w'' ⟨y,rfl,h3⟩
  exact hK' y w'' h3
 ·rename_i y w' he
  rw [he]
  exact hK' y w' hA
 ·exact hA.elim
theorem qbH {ops':Array Oper}: ∀ {os:List Oper} {hs is:List AI},y0 P N n ops' os hs=some is→os.length=is.length∧ ∀ (i:Nat) (o:Oper),os[i]? =some o→
 ∃ h ai,hs[i]? =some h∧is[i]? =some ai∧trI P N n ops' o h=some ai
 |[],[],is,h=>by simp only [y0,Option.some.injEq]at h;subst h;exact ⟨rfl,fun i o h=>by simp at h⟩
 |[],_::_,is,h=>by simp [y0]at h
 |_::_,[],is,h=>by simp [y0]at h
 |o::os,x::hs,is,h=>by
  simp only [y0]at h
  split at h
  case h_2=>cases h
  rename_i i is' h1 h2
  simp only [Option.some.injEq]at h;subst h
  obtain ⟨h3,h4⟩:=qbH h2
  refine ⟨by simp [h3],fun j o' hj=> ?_⟩
  cases j with
  |zero=>simp at hj;subst hj;exact ⟨x,i,rfl,rfl,h1⟩
  |succ j=>simpa using h4 j o' (by simpa using hj)
end
end Go.Vm
namespace Go.Vm
variable [Lay]
section
variable {P:Program} {N n:Nat} {ops:Array Oper} {call:qQ} {plan:List Dp} {hs is:List AI}
theorem qhW {listed:Array Bool} {i:Nat} {p:Dp} {ai:AI} (hl:listed.size=ops.size) (hi:i < ops.size) (hp:plan[i]? =some p) (ha:is[i]? =some ai) (hlen:is.length=ops.size)
 (hpairs:Yt plan is (KB ops)=true) {d:Nat} (h:y6 plan is (listed.setIfInBounds i true) d):y6 plan is listed d∧(p.k ≠ 0→qt ai ≠ some d):=by
 obtain ⟨j,q,aj,h1,h2,h3,h4,h5⟩:=h
 have hne:j ≠ i:=by
  rintro rfl
  have:(listed.setIfInBounds j true).getD j true=true:=by simp [Array.getD_eq_getD_getElem?,hl,hi]
  rw [this]at h1;cases h1
 rw [getD_set_ne true (Ne.symm hne)]at h1
 refine ⟨⟨j,q,aj,h1,h2,h3,h4,h5⟩,fun hk hd=> ?_⟩
 simp only [Yt,List.all_eq_true,List.mem_range]at hpairs
 have hj:j < is.length:=(List.getElem?_eq_some_iff.1 h3).1
 rcases Nat.lt_or_gt_of_ne hne with hlt|hlt
 ·have:=hpairs i (by omega) j hlt
  simp only [h2,h3,hp,ha,Bool.and_eq_true,Bool.or_eq_true,beq_iff_eq]at this
  have h6:=this.2
  rcases h6 with (h6|h6)|h6
  ·exact h4 h6
  ·exact hk h6
  ·rw [h5,hd]at h6;simp [ZF]at h6
 ·have:=hpairs j hj i hlt
  simp only [h2,h3,hp,ha,Bool.and_eq_true,Bool.or_eq_true,beq_iff_eq]at this
  have h6:=this.2
  rcases h6 with (h6|h6)|h6
  ·exact hk h6
  ·exact h4 h6
  ·rw [h5,hd]at h6;simp [ZF]at h6
theorem qga {o:Oper} {h ai:AI} (ht:z6 P N o h=some ai): ∀ t,o.dst=some t→t < N:=by
 cases h<;>simp only [z6]at ht<;>(first|(cases ht;done)|skip)<;>(split at ht)<;>(first|(cases ht;done)|skip)<;>rename_i hd
 case st.isTrue=>
  intro t h;have hd':o.dst=none:=by simpa using hd
  rw [hd']at h;cases h
 case mset.isTrue=>
  intro t h;have hd':o.dst=none:=by simpa using hd
  rw [hd']at h;cases h
 case mes.isTrue=>
  intro t h;have hd':o.dst=none:=by simpa using hd
  rw [hd']at h;cases h
 case call.isTrue=>
  simp only [kT,Bool.and_eq_true,decide_eq_true_eq]at hd
  intro t h
  obtain ⟨h1,h2⟩:=hd
  rw [← h1,h]at h2;simpa using h2
 all_goals
  intro t h
  obtain ⟨h1,h2⟩:=zi hd
  rw [h1]at h;cases h;exact h2
theorem qne {o:Oper} {h ai:AI} (ht:trI P N n ops o h=some ai): ∀ t,o.dst=some t→t < N:=by
 unfold trI at ht
 split at ht
 ·split at ht
  case h_2=>cases ht
  split at ht
  case isFalse=>cases ht
  rename_i hc
  rw [Option.map_eq_some_iff]at ht
  obtain ⟨i',hi',rfl⟩:=ht
  exact qga hi'
 ·split at ht
  case isFalse=>cases ht
  rename_i hc
  simp only [Bool.and_eq_true]at hc
  intro t h
  obtain ⟨h1,h2⟩:=zi hc.2
  rw [h1]at h;cases h;exact h2
 ·split at ht
  case isFalse=>cases ht
  exact qga ht
theorem qhM(hC:xS P call) (hlen:is.length=ops.size) (hpl:plan.length=is.length) (htr:y0 P N n ops ops.toList hs=some is) (hops:yV n plan hs is=true) (hpairs:Yt plan is (KB ops)=true)
 {E0:Env} {k0:Cnt} {a0:Act} {Q:Exit→Act→World→Prop} (listed:Array Bool) (i:Nat) (s s1:FS) (a:Act) (w:World) (K:Act→World→Prop) (hsz:listed.size=ops.size)
 (hi:i ∈ Region.ready .any ops listed) (hF:Q8 call plan is i s=some s1) (hI: ∃ E c,E.w=w∧InvD N n E0 k0 a0 (y6 plan is listed) s a E c)
 (hK: ∀ a' w',(∃ E c,E.w=w'∧InvD N n E0 k0 a0 (y6 plan is (listed.setIfInBounds i true)) s1 a' E c)→K a' w'):wpOp P ops Q i K a w:=by
 obtain ⟨E,c,rfl,hI⟩:=hI
 obtain ⟨h0,o,ho,-⟩:=mem_ready.1 hi
 have hin:i < ops.size:=(Array.getElem?_eq_some_iff.1 ho).1
 obtain ⟨h,ai,hh,hai,ht⟩:=(qbH htr).2 i o (by simpa using ho)
 unfold Q8 at hF
 split at hF
 case h_2=>cases hF
 rename_i p ai' hp hai'
 rw [hai]at hai';cases hai'
 have hop:=(qaY hops).2.2 i p h ai hp hh hai
 obtain ⟨st',hg,hsome,rfl⟩:=YJ.1 hF
 simp only [K3,Bool.and_eq_true,Bool.or_eq_true,beq_iff_eq]at hop
 obtain ⟨⟨hkind,hnd⟩,hal⟩:=hop
 have hnd:=qez hnd
 obtain ⟨L,hL,hT⟩:=hI.T
 obtain ⟨cK,cR,hFR,hcR,hle⟩:=hI.sub hL hT (qI ai) hnd
 have hfs:=fun d=> @qhW _ ops plan is listed i p ai hsz hin hp hai hlen hpairs d
 obtain ⟨hdst,hcases⟩:=qnd ht hg hFR
 have hal':p.k ≠ 0→(∀ d,qt ai=some d→n≤d)∧(∀ k ∈ p.ks,qt ai ≠ some k.1)∧(∀ d,qt ai=some d→y6 plan is listed d):=by
  intro hk
  have h1:=hal.resolve_left hk
  refine ⟨fun d hd=> ?_,fun k hk' hd=> ?_,fun d hd=>⟨i,p,ai,h0,hp,hai,hk,hd⟩⟩
  ·rw [hd]at h1;simp only [Bool.and_eq_true,decide_eq_true_eq]at h1;exact h1.1
  ·rw [hd]at h1
   simp only [Bool.and_eq_true,decide_eq_true_eq,List.all_eq_true,bne_iff_ne,ne_eq]at h1
   exact h1.2 k hk' rfl
 have hdN: ∀ t,qt ai=some t→t < N:=by rw [hdst];exact qne ht
 have hstay:p.k=0→st'=st'→(∀ (x:V) (y:Value),(qt ai=none)→InvD N n E0 k0 a0 (y6 plan is (listed.setIfInBounds i true)) (yc (qt ai) st'.σ s.1,ye p (qt ai) st'.T s.2) (a.put (qt ai) y) E c):=by
  intro hk _ x y hn
  have e1:yc none st'.σ s.1=s.1:=by funext t;simp [yc]
  have e2:ye p none st'.T s.2=s.2:=by funext k;simp [ye,qa0 hk]
  rw [hn,e1,e2]
  exact ⟨hI.sz,hI.df,hI.σ,hI.T,hI.g,hI.kn,hI.adv,fun d hd=>hI.fr d (hfs d hd).1⟩
 have hquiet:p.k=0→ ∀ d x y,qt ai=some d→st'=St.put {σ:=ya s.1 (qI ai),T:=zz s.2 p.ks} d x→Rel E x y c0→K (a.put o.dst y) E.w:=by
  intro hk d x y hd hst hx
  refine hK _ _ ⟨E,c,rfl, ?_⟩
  rw [← hdst,hd,hst]
  exact hI.quiet hk (hdN d hd) hx fun d' hd'=>(hfs d' hd').1
 have hro:p.k=2→ ∀ y E3 c5 r,E3.μ=E.μ→Rel E3.cl r y c5→Good E3 c5→Adv E c0 E3 c5→st'=y1 o.dst r {σ:=ya s.1 (qI ai),T:=zz s.2 p.ks}→K (a.put o.dst y) E3.w:=by
  intro hk y E3 c5 r k1 k2 k3 k4 k5
  have hk0:p.k ≠ 0:=by omega
  obtain ⟨g1,g2,g3⟩:=hal' hk0
  rw [← hdst]at k5 ⊢
  obtain ⟨E4,c4,hw4,hI4⟩:=hI.ro (fr':=y6 plan is (listed.setIfInBounds i true)) hL hT hk hdN g3 (fun d hd=>⟨(hfs d hd).1,(hfs d hd).2 hk0⟩) g1 g2 k5 (fun _ _=>trivial) k1 k2 k3 k4
  rw [← hw4]
  exact hK _ _ ⟨E4,c4,rfl,hI4⟩
 unfold wpOp
 rw [ho]
 simp only
 by_cases hk1:p.k=1
 ·refine qgd hC ht hg hFR ?_
  intro y E' c' hF' hkn hkp hA
  obtain ⟨g1,g2,g3⟩:=hal' (by omega)
  rw [← hdst]at hF' hkp ⊢
  obtain ⟨c'',hI'⟩:=hI.write (fr':=y6 plan is (listed.setIfInBounds i true)) hL hcR hle hk1 hdN g3 (fun d hd=>⟨(hfs d hd).1,(hfs d hd).2 (by omega)⟩) hF' hkn hkp hA
  exact hK _ _ ⟨E',c'',rfl,hI'⟩
 rcases hkind with (⟨hk,hq⟩|hk)|⟨hk,hq⟩
 ·rcases hcases with ⟨hw,hn1,hn2⟩|⟨hw,ai1,h1,h2⟩
  ·rw [hw,if_neg (by simp)]
   cases hd:qt ai with
   |none=>
    have:=hstay hk rfl (.d) undef hd
    rw [hdst]at this
    exact hK _ _ ⟨E,c,rfl,by rw [hdst];exact this⟩
   |some d=>exact hquiet hk d zN undef hd (hn2 d (by rw [← hdst,hd])).2 qgg
  ·rw [if_pos hw]
   refine .inl (qhB (qnc hq h1 h2 hFR) ?_)
   intro d x y hd hdn hst hx
   exact hquiet hk d x y (by rw [hdst,hd]) hst hx
 ·exact absurd hk hk1
 ·rcases hcases with ⟨hw,hn1,hn2⟩|⟨hw,ai1,h1,h2⟩
  ·rw [hw,if_neg (by simp)]
   refine hro hk undef E c0 zN rfl (by simp [zN,undef,Rel,zO]) (hI.g.le fun _=>Nat.zero_le _) (Adv.refl _ _) ?_
   cases hd:o.dst with
   |none=>simp only [y1];exact hn1 hd
   |some d=>
    simp only [y1,jm,zN,qX,Bool.not_true,Bool.false_eq_true,if_false]
    exact (hn2 d hd).2
  ·rw [if_pos hw]
   exact .inl (ql3 hC hq h1 h2 hFR fun y E3 c5 r k1 k2 k3 k4 k5=>hro hk y E3 c5 r k1 k2 k3 k4 k5)
end
end Go.Vm
namespace Go.Vm
variable [Lay]
section
variable {P:Program} {N n:Nat} {ops:Array Oper} {call:qQ} {plan:List Dp} {hs is:List AI}
theorem KA: ∀ {plan:List Dp} {hs is:List AI},yV n plan hs is=true→ ∀ d ∈ zB plan is,n≤d
 |[],[],[],h,d,hd=>by simp [zB]at hd
 |p::ps,h::hs,a::is,hk,d,hd=>by
  simp only [yV,Bool.and_eq_true]at hk
  simp only [zB]at hd
  split at hd
  ·exact KA hk.2 d hd
  ·rename_i hp
   split at hd
   ·rename_i e he
    rcases List.mem_cons.1 hd with rfl|hd
    ·have h1:=hk.1
     simp only [K3,Bool.and_eq_true,Bool.or_eq_true,beq_iff_eq,he,decide_eq_true_eq]at h1
     exact (h1.2.resolve_left hp).1
    ·exact KA hk.2 d hd
   ·exact KA hk.2 d hd
 |[],[],_::_,h,d,hd=>by simp [yV]at h
 |[],_::_,_,h,d,hd=>by simp [yV]at h
 |_::_,[],_,h,d,hd=>by simp [yV]at h
 |_::_,_::_,[],h,d,hd=>by simp [yV]at h
theorem qcF: ∀ {plan:List Dp} {is:List AI} {i:Nat} {p:Dp} {ai:AI} {d:Nat},plan[i]? =some p→is[i]? =some ai→p.k ≠ 0→qt ai=some d→d ∈ zB plan is
 |[],is,i,p,ai,d,h1,h2,h3,h4=>by simp at h1
 |q::ps,[],i,p,ai,d,h1,h2,h3,h4=>by simp at h2
 |q::ps,b::is,0,p,ai,d,h1,h2,h3,h4=>by
  simp at h1 h2;subst h1;subst h2
  simp only [zB,if_neg h3,h4];exact List.mem_cons_self
 |q::ps,b::is,i+1,p,ai,d,h1,h2,h3,h4=>by
  have:=qcF (plan:=ps) (is:=is) (by simpa using h1) (by simpa using h2) h3 h4
  simp only [zB]
  split
  ·exact this
  ·split
   ·exact List.mem_cons_of_mem _ this
   ·exact this
theorem qhL(hC:xS P call) (hchk:dOk P n ops plan hs is=true) (htr:y0 P N n ops ops.toList hs=some is) {st st1:St} {a:Act} {E:Env} {c:Cnt}
 (hrun:zq call plan is (yL (zB plan is) st)=some st1) (hnd:ju st1.T=true) (hf:FRel N E st a.tmps c) {Q:Exit→Act→World→Prop}
 (hQ: ∀ a' E' c',FRel N E' st1 a'.tmps c'→a'.defers=a.defers→KN n E E'→Adv E c E' c'→Q .normal a' E'.w) {id:Nat}:(Code.region id ops true).wp P Q a E.w:=by
 simp only [dOk,Bool.and_eq_true]at hchk
 obtain ⟨⟨⟨⟨hm,hanc⟩,hback⟩,hpairs⟩,hops⟩:=hchk
 obtain ⟨hl1,hl2,-⟩:=qaY hops
 have hlen:is.length=ops.size:=by have:=(qbH htr).1;rw [Array.length_toList]at this;exact this.symm
 let E1:Env:={E with w:={E.w with drawn:=E.w.drawn+1}}
 have hM: ∀ c,Mono E E1 c:=fun c=>⟨fun τ b hb=>⟨hb,rfl⟩,fun b _=>rfl,fun k l hk=>hk⟩
 have hf1:FRel N E1 st a.tmps c:=⟨hf.sz,xb hf.σ (hM _),zE hf.T (hM _),⟨hf.g.one,hf.g.imm,hf.g.sub,hf.g.bnd,hf.g.lay.next (fun b hb=>hb) (fun b hb=>rfl)⟩⟩
 have hA1:Adv E c E1 c:=⟨fun b n h=>h,rfl,rfl,rfl,Nat.le_refl _,fun _ _ _=>rfl,fun _ _ h=>h,fun _ h=> .inl h,fun _ _ h=> .inl h⟩
 obtain ⟨E2,c2,hw2,hI2,hk2,hf2,hle2,hfree,-⟩:=qgh (n:=n) (zB plan is) hf1 (KA hops)
 have hA2:Adv E c E2 c2:=hA1.trans (kb hw2 hI2 hle2)
 have hK2:KN n E E2:=fun k hk=>hk2 k hk
 refine wp_region_any hm ?_
 have hsz:(Array.replicate ops.size false).size=ops.size:=by simp
 have hget: ∀ i,i < ops.size→(Array.replicate ops.size false).getD i true=false:=fun i hi=>by simp [Array.getD_eq_getD_getElem?,hi]
 have hrem:yH ops.size (Array.replicate ops.size false)=List.range ops.size:=by
  unfold yH
  rw [List.filter_eq_self]
  intro i hi
  rw [hget i (List.mem_range.1 hi)];rfl
 have hInv0:InvD N n E c a (y6 plan is (Array.replicate ops.size false)) (jB (yL (zB plan is) st)) a E2 c2:=
  ⟨hf2.sz,rfl,fun t x hx=>hf2.σ t x hx,⟨_,fun k=>rfl,hf2.T⟩,hf2.g,hK2,hA2,fun d ⟨i,p,ai,_,h2,h3,h4,h5⟩=>hfree d (qcF h2 h3 h4 h5)⟩
 refine qnn (F:=Q8 call plan is) hanc hback ?_ (fun listed s a' w'=> ∃ E' c',E'.w=w'∧InvD N n E c a (y6 plan is listed) s a' E' c')
  (qhM hC hlen hl1 htr hops hpairs) (s':=jB st1) ?_ ops.size _ (jB (yL (zB plan is) st)) a _ hsz (by rw [hrem];simp) ?_ ?_ ⟨E2,c2,hw2,hInv0⟩
 ·intro j i hj hi hcon s s1 s2 h1 h2
  simp only [Yt,List.all_eq_true,List.mem_range]at hpairs
  have:=hpairs i (by omega) j hj
  unfold Q8 at h1 h2 ⊢
  split at h1
  case h_2=>cases h1
  rename_i pj aj e1 e2
  split at h2
  case h_2=>cases h2
  rename_i pi ai e3 e4
  simp only [e1,e2,e3,e4,Bool.and_eq_true,Bool.or_eq_true]at this
  rcases this.1 with h3|h3
  ·rw [hcon]at h3;cases h3
  ·obtain ⟨s1',g1,g2⟩:=qm1 h3 h1 h2
   exact ⟨s1',g1,g2⟩
 ·rintro listed a' w' ⟨E',c',rfl,hI⟩
  obtain ⟨L,hL,hT⟩:=hI.T
  obtain ⟨c'',h1,h2⟩:=qf7 hnd hT (fun k x hk=>by rw [hL];exact hk)
  exact hQ a' E' c'' ⟨hI.sz,fun t x hx=>hI.σ t x hx,h1,hI.g.le h2⟩ hI.df hI.kn (hI.adv.le h2)
 ·intro k o hk hl
  rw [hget k (Array.getElem?_eq_some_iff.1 hk).1]at hl;cases hl
 ·rw [hrem,List.range_eq_range', ← hlen]
  exact qcI plan is 0 _ _ rfl rfl hrun
end
end Go.Vm
namespace Go.Vm
variable [Lay]
section
variable {E E':Env}
end
def zr(E:Env):Env:={E with μ:=fun k=>if NB≤k.1 then some (.emp none)else E.μ k}
mutual
theorem Ys(E:Env) (d i:Nat) (nm:Bool) (hd:nm=true→NB≤d): ∀ (x:V) (y:Value) (c:Cnt),Rel E x y c→Rel (zr E) (qL d i nm x) y c
 | .v x,y,c,h=>by simpa only [Rel,qL]using h
 | .p k a b,y,c,h=>by
   simp only [qL]
   split
   ·simp only [Rel]at h ⊢;exact h.1
   ·rename_i hk
    simp only [Rel,zr,if_neg hk]at h ⊢;exact h
 | .s k a b,y,c,h=>by
   simp only [qL]
   split
   ·simp only [Rel]at h ⊢;exact h.1
   ·rename_i hk
    simp only [Rel,zr,if_neg hk]at h ⊢;exact h
 | .q τ xs a b,y,c,h=>by simp only [Rel,qL]at h ⊢;exact h
 | .i τ xs,y,c,h=>by simp only [Rel,qL]at h ⊢;exact h
 | .o e xs,y,c,h=>by simp only [Rel,qL]at h ⊢;exact h
 | .n e,y,c,h=>by
   simp only [qL]
   split
   ·rename_i hn
    simp only [Rel]at h ⊢
    obtain ⟨rfl,rfl⟩:=h
    refine ⟨by trivial,.inl ⟨none,by simp only [zr,if_pos (hd hn)], ?_⟩⟩
    simp
   ·simpa only [Rel]using h
 | .b x,y,c,h=>by simp only [Rel,qL]at h ⊢;exact h
 | .f fn xs ys,y,c,h=>by
   simp only [Rel,qL]at h ⊢
   obtain ⟨fs,cs,c1,c2,hy,h1,h2,h3⟩:=h
   exact ⟨fs,cs,c1,c2,hy,Yr E d i false (fun h=>by cases h) xs _ _ h1,Yr E d i false (fun h=>by cases h) ys _ _ h2,h3⟩
 | .a xs,y,c,h=>by
   simp only [Rel,qL]at h ⊢
   obtain ⟨vs,hy,h⟩:=h
   exact ⟨vs,hy,Yr E d i nm hd xs _ _ h⟩
 | .t xs,y,c,h=>by
   simp only [Rel,qL]at h ⊢
   obtain ⟨vs,hy,h⟩:=h
   exact ⟨vs,hy,Yr E d i false (fun h=>by cases h) xs _ _ h⟩
 | .m k,y,c,h=>by
   simp only [qL]
   split
   ·simp only [Rel]at h ⊢;exact h.1
   ·rename_i hk
    simp only [Rel,zr,if_neg hk]at h ⊢;exact h
 | .w none es,y,c,h=>by simp only [Rel,qL]at h ⊢;exact h
 | .w (some _) es,y,c,h=>by simp only [Rel,qL]at h ⊢;exact h
 | .d,y,c,h=>by simpa only [Rel,qL]using h
theorem Yr(E:Env) (d i:Nat) (nm:Bool) (hd:nm=true→NB≤d): ∀ (xs:List V) (ys:List Value) (c:Cnt),qi E xs ys c→qi (zr E) (zP d i nm xs) ys c
 |[],ys,c,h=>by simpa only [qi,zP]using h
 |x::xs,ys,c,h=>by
  simp only [qi,zP]at h ⊢
  obtain ⟨y,ys',c1,c2,hy,h1,h2,h3⟩:=h
  exact ⟨y,ys',c1,c2,hy,Ys E d i nm hd x _ _ h1,Yr E d (i+1) nm hd xs _ _ h2,h3⟩
end
theorem qaR(d:Nat) (nm:Bool): ∀ (xs:List V) (i:Nat),(zP d i nm xs).length=xs.length
 |[],_=>rfl
 |x::xs,i=>by simp only [zP,List.length_cons,qaR d nm xs (i+1)]
theorem qaS(d i:Nat) (nm:Bool) (x:V):(qL d i nm x).cells.length=x.cells.length:=by
 cases x<;>simp only [qL]<;>first
  |rfl
  |(split<;>rfl)
  |(simp only [V.cells,qaR])
theorem qeh(E:Env) (d:Nat) {e:Nat}: ∀ (xs:List V) (i:Nat) (ys:List Value) (c:Cnt),qj E e xs ys c→qj (zr E) e (zP d i false xs) ys c
 |[],i,ys,c,h=>h
 |x::xs,i,ys,c,h=>by
  simp only [qj,zP]at h ⊢
  obtain ⟨y,ys',c1,c2,h1,h2,h3,h4,h5,h6,h7⟩:=h
  exact ⟨y,ys',c1,c2,h1,h2,by rw [qaS];exact h3,h4,Ys E d i false (fun h=>by cases h) _ _ _ h5,qeh E d xs (i+1) _ _ h6,h7⟩
theorem qbd {E E':Env} (hc:E'.cl=E.cl) {e:Nat} {xs:List V} {ys:List Value} {c:Cnt} (h:qj E e xs ys c) (hx:qy xs=true):qj E' e xs ys c:=
 zV (by rw [hc];exact Jj h hx) (xH E' c)
theorem qkI(E:Env) (d i:Nat) (bx:Bool) (hd:NB≤d) {e:Nat} {xs:List V} {ys:List Value} {c:Cnt} (h:qj E e xs ys c):qj (zr E) e (xm d i bx xs) ys c:=by
 have hall: ∀ xs,qj E e xs ys c→qj (zr E) e (if qy xs then xs else zP 0 0 false xs) ys c:=by
  intro xs h
  split
  ·rename_i hc;exact qbd (E:=E) (E':=zr E) rfl h hc
  ·exact qeh E 0 xs 0 ys c h
 unfold xm
 split
 ·rename_i x
  have hone: ∀ g:V→V,(∀ y c,Rel E x y c→Rel (zr E) (g x) y c)→(g x).cells.length=x.cells.length→qj (zr E) e [g x] ys c:=by
   intro g hg hl
   simp only [qj]at h ⊢
   obtain ⟨y,ys',c1,c2,h1,h2,h3,h4,h5,h6,h7⟩:=h
   exact ⟨y,ys',c1,c2,h1,h2,by rw [hl];exact h3,h4,hg _ _ h5,h6,h7⟩
  split
  ·exact hone (qL d i true) (fun y c h=>Ys E d i true (fun _=>hd) x y c h) (qaS _ _ _ _)
  ·split
   ·rename_i hc;exact qbd (E:=E) (E':=zr E) rfl h (by simp only [qy,hc,Bool.and_self])
   ·exact hone (qL 0 0 false) (fun y c h=>Ys E 0 0 false (fun h=>by cases h) x y c h) (qaS _ _ _ _)
 ·exact hall _ h
theorem qdu(E:Env) {k:Key} (hk:NB≤k.1) (e:Nat):yw (zr E) k (e,[]) c0:= .inr (.inl ⟨⟨none,by simp only [zr,if_pos hk]⟩,rfl,rfl⟩)
theorem qaQ(E:Env) (d:Nat) (hd:NB≤d): ∀ (xs:List V) (i:Nat),qm (zr E) (ku d i xs) c0
 |[],i=>by simp only [ku,qm]
 |x::xs,i=>by
  cases x<;>simp only [ku]<;>first
   |exact qaQ E d hd xs (i+1)
   |exact ⟨c0,c0,qdu E hd _,qaQ E d hd xs (i+1),rfl⟩
theorem qek(E:Env) (d i:Nat) (hd:NB≤d) (x:V):qm (zr E) (zK d i x) c0:=by
 cases x<;>simp only [zK]<;>first
  |exact qaQ E d hd _ i
  |exact ⟨c0,c0,qdu E hd _,rfl,rfl⟩
  |rfl
theorem qkJ {E:Env} {σ:Sl} {tmps:Array Value} (h:zm E σ tmps):zm (zr E) (yS σ) tmps:=by
 have hget: ∀ (σ:Sl) t z,qB (yS σ) t=some z→ ∃ x,qB σ t=some x∧z=qL (NB+t) 0 true x:=by
  intro σ
  induction σ with
  |nil=>intro t z h;simp [yS,qB]at h
  |cons p r ih=>
   obtain ⟨u,x⟩:=p
   intro t z h
   simp only [yS,qB]at h ⊢
   split at h
   ·rename_i hu;subst hu
    simp only [Option.some.injEq]at h
    rw [if_pos rfl];exact ⟨x,rfl,h.symm⟩
   ·rename_i hu;rw [if_neg hu];exact ih t z h
 intro t z hz
 obtain ⟨x,hx,rfl⟩:=hget σ t z hz
 obtain ⟨y,h1,h2⟩:=h t x hx
 exact ⟨y,h1,Ys E _ 0 true (fun _=>Nat.le_add_right _ _) x y c0 h2⟩
theorem qei(E:Env): ∀ (σ:Sl),qm (zr E) (xo σ) c0
 |[]=>rfl
 |(t,x)::r=>by
  simp only [xo]
  have:=yK (qek E (NB+t) 0 (Nat.le_add_right _ _) x) (qei E r)
  rwa [qU]at this
theorem qej {E:Env} (bx:List Key): ∀ {T:Mem} {c:Cnt},qm E T c→ ∃ c',qm (zr E) (yl bx T) c'∧cle c' c
 |[],c,h=>⟨c,h,qN _⟩
 |(k,e,xs)::r,c,h=>by
  obtain ⟨c1,c2,h1,h2,rfl⟩:=h
  obtain ⟨c3,h3,h4⟩:=qej bx h2
  simp only [yl]
  split
  ·exact ⟨c3,h3,yi h4 (yo _ _)⟩
  ·rename_i hk
   have hom:qm (zr E) (j6 (2*NB+k.1) (10*k.2) (yB k bx) xs) c0:=by
    unfold j6
    split
    ·split
     ·exact qek E _ _ (by omega) _
     ·rfl
    ·rfl
   have hob:yw (zr E) k (e,xm (2*NB+k.1) (10*k.2) (yB k bx) xs) c1:=by
    rcases h1 with ⟨b,ents,clk,es,q1,q2,q3,q4,q5⟩|⟨⟨A,hA⟩,hn,hc⟩|⟨b,base,lim,cells,T,fz,c5,g1,g2,g3,g4,g5,g6,rfl⟩
    ·simp only at q4;subst q4
     refine .inl ⟨b,ents,clk,es,by simp only [zr,if_neg hk];exact q1,q2,q3, ?_,q5⟩
     simp [xm,qL,clE,clB]
    ·simp only at hn;subst hn
     refine .inr (.inl ⟨⟨A,by simp only [zr,if_neg hk];exact hA⟩, ?_,hc⟩)
     simp [xm,qy]
    ·have hlen:(xm (2*NB+k.1) (10*k.2) (yB k bx) xs).length=xs.length:=by
      unfold xm
      split
      ·split
       ·rfl
       ·split<;>rfl
      ·split
       ·rfl
       ·exact qaR _ _ _ _
     refine .inr (.inr ⟨b,base,lim,cells,T,fz,c5,by simp only [zr,if_neg hk];exact g1,g2,g3,g4, ?_, ?_,rfl⟩)
     ·simp only at g5 ⊢;rw [hlen];exact g5
     ·simp only at g6 ⊢;rw [hlen];exact qkI E _ _ _ (by omega) g6
   refine ⟨qg c1 c3, ?_,y3 (qN _) h4⟩
   have:=yK hom (show qm (zr E) ((k,e,xm (2*NB+k.1) (10*k.2) (yB k bx) xs)::yl bx r) (qg c1 c3)from ⟨c1,c3,hob,h3,rfl⟩)
   rwa [qU]at this
def xM(tb:List Key) (E:Env):Env:={E with μ:=fun k=>if k.1=CN then (tb[k.2]?).bind E.μ else E.μ k}
theorem qdQ {k:Key}: ∀ {tb:List Key} {i j:Nat},jq k i tb=some j→i≤j∧tb[j - i]? =some k
 |[],i,j,h=>by simp [jq]at h
 |u::r,i,j,h=>by
  simp only [jq]at h
  split at h
  ·rename_i hu;simp only [Option.some.injEq]at h;subst h;subst hu;simp
  ·obtain ⟨h1,h2⟩:=qdQ h
   refine ⟨by omega, ?_⟩
   rw [show j - i=(j - (i+1))+1 by omega]
   simpa using h2
theorem Qd {tb:List Key} {E:Env} {k k':Key} {l:Loc} (h:yI tb k=some k') (hl:E.μ k=some l):(xM tb E).μ k'=some l:=by
 unfold yI at h
 split at h
 ·rename_i i hi
  simp only [Option.some.injEq]at h;subst h
  obtain ⟨-,h2⟩:=qdQ hi
  simp only [Nat.sub_zero]at h2
  simp only [xM,if_true,h2,Option.bind_some,hl]
 ·split at h
  ·cases h
  ·rename_i hk
   simp only [Option.some.injEq]at h;subst h
   simp only [xM,if_neg hk,hl]
mutual
theorem qbm(tb:List Key) (E:Env): ∀ (x:V) (y:Value) (c:Cnt),Rel E x y c→Rel (xM tb E) (qP tb x) y c
 | .v x,y,c,h=>by simpa only [Rel,qP]using h
 | .p k a b,y,c,h=>by
   simp only [qP]
   simp only [Rel]at h
   obtain ⟨h0,b',base,e,lim,h1,h2⟩:=h
   split
   ·rename_i k' hk
    simp only [Rel]
    exact ⟨h0,b',base,e,lim,Qd hk h1,h2⟩
   ·simp only [Rel];exact h0
 | .s k a b,y,c,h=>by
   simp only [qP]
   simp only [Rel]at h
   obtain ⟨h0,h⟩:=h
   split
   ·rename_i k' hk
    simp only [Rel]
    refine ⟨h0, ?_⟩
    rcases h with ⟨A,h1,h2⟩|⟨b',base,e,lim,cap,A,h1,h2⟩
    ·exact .inl ⟨A,Qd hk h1,h2⟩
    ·exact .inr ⟨b',base,e,lim,cap,A,Qd hk h1,h2⟩
   ·simp only [Rel];exact h0
 | .q τ xs a b,y,c,h=>by simp only [Rel,qP]at h ⊢;exact h
 | .i τ xs,y,c,h=>by simp only [Rel,qP]at h ⊢;exact h
 | .o e xs,y,c,h=>by simp only [Rel,qP]at h ⊢;exact h
 | .n e,y,c,h=>by simpa only [Rel,qP]using h
 | .b x,y,c,h=>by simp only [Rel,qP]at h ⊢;exact h
 | .f fn xs ys,y,c,h=>by
   simp only [Rel,qP]at h ⊢
   obtain ⟨fs,cs,c1,c2,hy,h1,h2,h3⟩:=h
   exact ⟨fs,cs,c1,c2,hy,YC tb E xs _ _ h1,YC tb E ys _ _ h2,h3⟩
 | .a xs,y,c,h=>by
   simp only [Rel,qP]at h ⊢
   obtain ⟨vs,hy,h⟩:=h
   exact ⟨vs,hy,YC tb E xs _ _ h⟩
 | .t xs,y,c,h=>by
   simp only [Rel,qP]at h ⊢
   obtain ⟨vs,hy,h⟩:=h
   exact ⟨vs,hy,YC tb E xs _ _ h⟩
 | .m k,y,c,h=>by
   simp only [qP]
   simp only [Rel]at h
   obtain ⟨h0,b',h1,h2⟩:=h
   split
   ·rename_i k' hk
    simp only [Rel]
    exact ⟨h0,b',Qd hk h1,h2⟩
   ·simp only [Rel];exact h0
 | .w none es,y,c,h=>by simp only [Rel,qP]at h ⊢;exact h
 | .w (some _) es,y,c,h=>by simp only [Rel,qP]at h ⊢;exact h
 | .d,y,c,h=>by simpa only [Rel,qP]using h
theorem YC(tb:List Key) (E:Env): ∀ (xs:List V) (ys:List Value) (c:Cnt),qi E xs ys c→qi (xM tb E) (zW tb xs) ys c
 |[],ys,c,h=>by simpa only [qi,zW]using h
 |x::xs,ys,c,h=>by
  simp only [qi,zW]at h ⊢
  obtain ⟨y,ys',c1,c2,hy,h1,h2,h3⟩:=h
  exact ⟨y,ys',c1,c2,hy,qbm tb E x _ _ h1,YC tb E xs _ _ h2,h3⟩
end
theorem qbl(tb:List Key): ∀ (xs:List V),(zW tb xs).length=xs.length
 |[]=>rfl
 |x::xs=>by simp only [zW,List.length_cons,qbl tb xs]
theorem ql0(tb:List Key) (x:V):(qP tb x).cells.length=x.cells.length:=by
 cases x<;>simp only [qP]<;>first
  |rfl
  |(split<;>rfl)
  |(simp only [V.cells,qbl])
theorem qfz(tb:List Key) (E:Env) {e:Nat}: ∀ (xs:List V) (ys:List Value) (c:Cnt),qj E e xs ys c→qj (xM tb E) e (zW tb xs) ys c
 |[],ys,c,h=>h
 |x::xs,ys,c,h=>by
  simp only [qj,zW]at h ⊢
  obtain ⟨y,ys',c1,c2,h1,h2,h3,h4,h5,h6,h7⟩:=h
  exact ⟨y,ys',c1,c2,h1,h2,by rw [ql0];exact h3,h4,qbm tb E _ _ _ h5,qfz tb E xs _ _ h6,h7⟩
theorem qlZ {E:Env} (tb:List Key) {σ:Sl} {tmps:Array Value} (h:zm E σ tmps):zm (xM tb E) (kz tb σ) tmps:=by
 have hget: ∀ (σ:Sl) t z,qB (kz tb σ) t=some z→ ∃ x,qB σ t=some x∧z=qP tb x:=by
  intro σ
  induction σ with
  |nil=>intro t z h;simp [kz,qB]at h
  |cons p r ih=>
   obtain ⟨u,x⟩:=p
   intro t z h
   simp only [kz,qB]at h ⊢
   split at h
   ·rename_i hu;subst hu
    simp only [Option.some.injEq]at h
    rw [if_pos rfl];exact ⟨x,rfl,h.symm⟩
   ·rename_i hu;rw [if_neg hu];exact ih t z h
 intro t z hz
 obtain ⟨x,hx,rfl⟩:=hget σ t z hz
 obtain ⟨y,h1,h2⟩:=h t x hx
 exact ⟨y,h1,qbm tb E x y c0 h2⟩
theorem qfA {E:Env} (tb:List Key): ∀ {T:Mem} {c:Cnt},qm E T c→ ∃ c',qm (xM tb E) (xN tb T) c'∧cle c' c
 |[],c,h=>⟨c,h,qN _⟩
 |(k,e,xs)::r,c,h=>by
  obtain ⟨c1,c2,h1,h2,rfl⟩:=h
  obtain ⟨c3,h3,h4⟩:=qfA tb h2
  simp only [xN]
  split
  ·rename_i k' hk
   have hob:yw (xM tb E) k' (e,if qy xs then xs else zW tb xs) c1:=by
    have hlen:(if qy xs then xs else zW tb xs).length=xs.length:=by
     split
     ·rfl
     ·exact qbl _ _
    rcases h1 with ⟨b,ents,clk,es,q1,q2,q3,q4,q5⟩|⟨⟨A,hA⟩,hn,hc⟩|⟨b,base,lim,cells,T,fz,c5,g1,g2,g3,g4,g5,g6,rfl⟩
    ·simp only at q4;subst q4
     exact .inl ⟨b,ents,clk,es,Qd hk q1,q2,q3,by simp [qy,clE,clB],q5⟩
    ·simp only at hn;subst hn
     exact .inr (.inl ⟨⟨A,Qd hk hA⟩,by simp [qy],hc⟩)
    ·refine .inr (.inr ⟨b,base,lim,cells,T,fz,c5,Qd hk g1,g2,g3,g4, ?_, ?_,rfl⟩)
     ·simp only at g5 ⊢;rw [hlen];exact g5
     ·simp only at g6 ⊢;rw [hlen]
      split
      ·rename_i hc;exact qbd (E:=E) (E':=xM tb E) rfl g6 hc
      ·exact qfz tb E xs _ _ g6
   exact ⟨qg c1 c3,⟨c1,c3,hob,h3,rfl⟩,y3 (qN _) h4⟩
  ·exact ⟨c3,h3,yi h4 (yo _ _)⟩
theorem qhz(n:Nat):ZH (zn n):=by
 intro E T x y c1 c2 hT h
 unfold zn
 split
 ·rename_i hc;exact ⟨c1,c2,hT,qbj h hc,qN _,rfl⟩
 ·exact QK n E T x y c1 c2 hT h
theorem qhw {E:Env} {T:Mem} {c:Cnt} (k:Key) (h:qm E T c): ∃ c',qm E (jU T k) c'∧cle c' c:=by
 unfold jU
 split
 ·exact ⟨c,h,qN _⟩
 ·rename_i ob hg
  split
  ·exact ⟨c,h,qN _⟩
  ·obtain ⟨e,xs⟩:=ob
   obtain ⟨c1,c2,h1,h2,rfl⟩:=zM h hg
   rcases h1 with ⟨b,ents,clk,es,q1,q2,q3,q4,q5⟩|⟨⟨A,hA⟩,hn,rfl⟩|⟨b,base,lim,cells,Tt,fz,c5,g1,g2,g3,g4,g5,g6,rfl⟩
   ·rename_i hcl
    simp only at q4;subst q4
    simp [qy,clE,clB]at hcl
   ·simp only at hn;subst hn
    refine ⟨qg c0 c2,⟨c0,c2,.inr (.inl ⟨⟨A,hA⟩,by simp [qx],rfl⟩),by simpa [qx]using h2,rfl⟩,qN _⟩
   ·obtain ⟨d1,d2,k1,k2,k3⟩:=qbg (qhz 30) h2 g6
    have hlen:=KV (zn 30) (qw T k) xs
    refine ⟨qg (qg (qz b) d2) d1,⟨qg (qz b) d2,d1,.inr (.inr ⟨b,base,lim,cells,Tt,fz,d2,g1,g2,g3,g4, ?_, ?_,rfl⟩),k1,rfl⟩, ?_⟩
    ·simp only at g5 ⊢;rw [hlen];exact g5
    ·simp only at g6 ⊢;rw [hlen];exact zV k2 (xH E d2)
    ·intro z;have:=k3 z;simp only [qg]at*;omega
theorem qag {E:Env} (bx:List Key): ∀ (ks:List Key) {T:Mem} {c:Cnt},qm E T c→ ∃ c',qm E (ki bx ks T) c'∧cle c' c
 |[],T,c,h=>⟨c,h,qN _⟩
 |k::ks,T,c,h=>by
  simp only [ki]
  split
  ·exact qag bx ks h
  ·obtain ⟨c1,h1,h2⟩:=qhw k h
   obtain ⟨c3,h3,h4⟩:=qag bx ks h1
   exact ⟨c3,h3,yi h4 h2⟩
theorem qmJ {E:Env} {T:Mem} {c:Cnt} (bx k0:List Key) (h:qm E T c): ∃ c',qm E (Qg bx k0 T) c'∧cle c' c:=by
 unfold Qg
 obtain ⟨c1,h1,h1'⟩:=qag bx k0 h
 obtain ⟨c3,h3,h3'⟩:=JB k0 h1
 exact ⟨c3,h3,yi h3' h1'⟩
theorem qho {E:Env} {σ:Sl} {T:Mem} {tmps:Array Value} {c:Cnt} (n:Nat) (bx:List Key) (hσ:zm E σ tmps) (hT:qm E T c):
 ∃ E' c',E'.w=E.w∧E'.I=E.I∧(∀ k:Key,k.1 < CN→E'.μ k=E.μ k)∧zm E' (jn n bx σ T).σ tmps∧qm E' (jn n bx σ T).T c'∧cle c' c:=by
 obtain ⟨c1,h1,h1'⟩:=qej bx hT
 have h2:=yK (qei E σ) h1
 rw [qU]at h2
 obtain ⟨c4,h4,h4'⟩:=JB (yA (yS σ)++yy (xo σ++yl bx T) bx) h2
 obtain ⟨c3,h3,h3'⟩:=qfA (xl n (yA (yS σ)++yy (xo σ++yl bx T) bx)) h4
 refine ⟨xM (xl n (yA (yS σ)++yy (xo σ++yl bx T) bx)) (zr E),c3,rfl,rfl, ?_,qlZ _ (qkJ hσ),h3,yi h3' (yi h4' h1')⟩
 intro k hk
 have e1: ¬ k.1=CN:=by omega
 have e2: ¬ NB≤k.1:=by unfold CN at hk;unfold NB;omega
 simp only [xM,if_neg e1,zr,if_neg e2]
theorem qeU {N:Nat} {E:Env} {st:St} {tmps:Array Value} {c:Cnt} (ls:List Nat) (ks:List Key) (hf:FRel N E st tmps c):
 ∃ E' c',E'.w=E.w∧E'.I=E.I∧(∀ k:Key,k.1 < CN→E'.μ k=E.μ k)∧FRel N E' (yW ls ks st) tmps c'∧cle c' c:=by
 obtain ⟨c1,h1,h1'⟩:=qmJ (yh (zk st.σ ls)) (yA (zk st.σ ls)++yy st.T (yh (zk st.σ ls))) hf.T
 obtain ⟨E',c',hw,hI,hμ,hσ,hT,hle⟩:=qho (Ya ks) (yh (zk st.σ ls)) (qfM hf.σ ls) h1
 have hle':=yi hle h1'
 exact ⟨E',c',hw,hI,hμ,⟨hf.sz,hσ,hT,kP hw hI hle' hf.g⟩,hle'⟩
end Go.Vm
namespace Go.Vm
variable [Lay]
theorem qkX {N:Nat} {E:Env} {st:St} {tmps:Array Value} {c:Cnt} (d:Nat) (k:Key) (i:Nat) (hf:FRel N E st tmps c):
 ∃ E' c',E'.w=E.w∧E'.I=E.I∧(∀ k:Key,k.1 ≠ d→E'.μ k=E.μ k)∧FRel N E' (QW d k i (q9 d st)) tmps c'∧cle c' c:=by
 obtain ⟨c1,hσ1,hT1,hle1⟩:=jD d hf.σ hf.T
 have hself:FRel N (E.drop d) (q9 d st) tmps c1:=⟨hf.sz,hσ1,hT1,(hf.g.drop d).le hle1⟩
 have hdrop: ∀ k:Key,k.1 ≠ d→(E.drop d).μ k=E.μ k:=(YD E d).hμ
 have hnone: ∃ E' c',E'.w=E.w∧E'.I=E.I∧(∀ k:Key,k.1 ≠ d→E'.μ k=E.μ k)∧FRel N E' (q9 d st) tmps c'∧cle c' c:=
  ⟨E.drop d,c1,rfl,rfl,hdrop,hself,hle1⟩
 unfold QW
 split
 case h_2=>exact hnone
 rename_i ob hg
 split
 case h_2=>exact hnone
 rename_i x hx
 obtain ⟨co,cr,hob,hrest,rfl⟩:=zM hT1 hg
 rcases hob with ⟨b,ents,clk,es,q1,q2,q3,q4,q5⟩|⟨⟨A0,hn1⟩,hn2,-⟩|⟨b,base,lim,cells,ty,fz,ce,hμ,hw,hl,hf',hs,hr,rfl⟩
 ·rw [q4]at hx
  have hi:i=0:=by
   cases i with
   |zero=>rfl
   |succ i=>simp at hx
  subst hi
  simp only [List.getElem?_cons_zero,Option.some.injEq]at hx
  subst hx
  have e1:(qH d 0 (.w (some true) es)).2.2=[]:=rfl
  have e2:(qH d 0 (.w (some true) es)).1= .w (some true) es:=rfl
  rw [e1,e2,q4]
  exact ⟨E.drop d,_,rfl,rfl,hdrop,⟨hf.sz,hσ1,⟨co,cr,.inl ⟨b,ents,clk,es,q1,q2,q3,rfl,q5⟩,hrest,rfl⟩,(hf.g.drop d).le hle1⟩,hle1⟩
 ·rw [hn2]at hx;simp at hx
 obtain ⟨yv,d0,d1,d2,e1,hs1,hl1,ho1,hr0,hr1,hr2,rfl⟩:=Jm hr hx
 obtain ⟨E2,cO,hn,hzz,hTO,hleO⟩:=K4 (d:=d) (j:=0) (fun i _=>xX E d i) hr1
 have hcl:=qeD d 0 x
 have hidx:i < ob.2.length:=(List.getElem?_eq_some_iff.1 hx).1
 have hR:=qbe hx (zV hr0 (hn.mono _)) hs1 (by rw [hcl];exact hl1) ho1 hzz (zV hr2 (hn.mono _))
 have hseg:(seg cells base (ob.2.length*ob.1)).take (i*ob.1)++yv.cells.toList++(seg cells base (ob.2.length*ob.1)).drop (i*ob.1+ob.1)=seg cells base (ob.2.length*ob.1):=by
  rw [← e1,List.append_assoc, ← List.drop_drop,List.take_append_drop,List.take_append_drop]
 rw [hseg]at hR
 have hO:yw E2 k (ob.1,ob.2.set i (qH d 0 x).1) (qg (qz b) (qg (qg d0 c0) d2)):=
  .inr (.inr ⟨b,base,lim,cells,ty,fz,_,hn.hμ _ _ hμ,by rw [hn.hw];exact hw,hl,hf',by simpa using hs,by simpa using hR,rfl⟩)
 have hTT:qm E2 ((qH d 0 x).2.2++((k,ob.1,ob.2.set i (qH d 0 x).1)::qw (q9 d st).T k)) (qg cO (qg (qg (qz b) (qg (qg d0 c0) d2)) cr)):=
  yK hTO ⟨_,_,hO,zE hrest (hn.mono _),rfl⟩
 have hcle:cle (qg cO (qg (qg (qz b) (qg (qg d0 c0) d2)) cr)) c:=by
  intro z
  have q1:=hle1 z;have q2:=hleO z
  simp only [qg,c0]at*;omega
 exact ⟨E2,_,hn.hw,hn.hI,fun k hk=>by rw [hn.hout k (fun h=>hk h)];exact hdrop k hk,⟨hf.sz,xb hσ1 (hn.mono _),hTT,kP hn.hw hn.hI hcle (hf.g.drop d)⟩,hcle⟩
theorem qaX {N n:Nat}: ∀ (os:List (Nat × Key × Nat)) {E:Env} {st:St} {tmps:Array Value} {c:Cnt},(os.all fun o=>decide (n≤o.1))=true→FRel N E st tmps c→
 ∃ E' c',E'.w=E.w∧E'.I=E.I∧KN n E E'∧FRel N E' (kw os st) tmps c'∧cle c' c
 |[],E,st,tmps,c,_,hf=>⟨E,c,rfl,rfl,KN.refl,hf,qN _⟩
 |(d,k,i)::os,E,st,tmps,c,ho,hf=>by
  simp only [List.all_cons,Bool.and_eq_true,decide_eq_true_eq]at ho
  obtain ⟨E1,c1,h1,h2,h3,h4,h5⟩:=qkX d k i hf
  obtain ⟨E2,c2,g1,g2,g3,g4,g5⟩:=qaX os ho.2 h4
  exact ⟨E2,c2,g1.trans h1,g2.trans h2,KN.trans (fun k hk=>h3 k (by omega)) g3,g4,yi g5 h5⟩
theorem qhN(n:Nat) (σ:Sl) (d r:Nat) (i:Option Nat) (h:n≤d):((kN σ d r i).all fun o=>decide (n≤o.1))=true:=by
 unfold kN
 split
 ·simp [h]
 ·split
  ·split
   ·simp [h]
   ·rfl
  ·rfl
 ·rfl
theorem qeC {N n:Nat}: ∀ (os:List (Nat × Nat × Option Nat)) {E:Env} {st:St} {tmps:Array Value} {c:Cnt},(os.all fun o=>decide (n≤o.1))=true→FRel N E st tmps c→
 ∃ E' c',E'.w=E.w∧E'.I=E.I∧KN n E E'∧FRel N E' (jv os st) tmps c'∧cle c' c
 |[],E,st,tmps,c,_,hf=>⟨E,c,rfl,rfl,KN.refl,hf,qN _⟩
 |(d,r,i)::os,E,st,tmps,c,ho,hf=>by
  simp only [List.all_cons,Bool.and_eq_true,decide_eq_true_eq]at ho
  obtain ⟨E1,c1,h1,h2,h3,h4,h5⟩:=qaX (kN st.σ d r i) (qhN n st.σ d r i ho.1) hf
  obtain ⟨E2,c2,g1,g2,g3,g4,g5⟩:=qeC os ho.2 h4
  exact ⟨E2,c2,g1.trans h1,g2.trans h2,KN.trans h3 g3,g4,yi g5 h5⟩
end Go.Vm
namespace Go.Vm
variable [Lay]
section
variable (P:Program) (N n:Nat)
def trC:Code→AC→Option AC
 |code,.opn os hx=>match trC code hx with
  |some x'=>if (os.all fun o=>decide (n≤o.1))=true then some (.opn os x')else none
  |none=>none
 |code,.opd os hx=>match trC code hx with
  |some x'=>if (os.all fun o=>decide (n≤o.1))=true then some (.opd os x')else none
  |none=>none
 |code,.nam ls ks hx=>match trC code hx with
  |some x'=>if n≤CN then some (.nam ls ks x')else none
  |none=>none
 |code,.keep ls hx=>match trC code hx with
  |some x'=>some (.keep ls x')
  |none=>none
 | .skip,.skip=>some .skip
 | .ret,.ret=>some .ret
 | .exit id,.exit _=>some (.exit id)
 | .region _ ops false,.reg hs=>(y0 P N n ops ops.toList hs).map .reg
 | .region _ ops true,.dreg plan hs=>match y0 P N n ops ops.toList hs with
   |some is=>if dOk P n ops plan hs is then some (.dreg plan is)else none
   |none=>none
 | .seq x y,.seq hx hy=>match trC x hx,trC y hy with
   |some x',some y'=>some (.seq x' y')
   |_,_=>none
 | .cond c x y,.cond hc hx hy=>match trO c hc,trC x hx,trC y hy with
   |some c',some x',some y'=>some (.cond c' x' y')
   |_,_,_=>none
 | .block id x,.block _ hx=>match trC x hx with
   |some x'=>some (.block id x')
   |none=>none
 | .loop x,.loop ls ks hx=>match trC x hx with
   |some x'=>if n≤CN then some (.loop ls ks x')else none
   |none=>none
 |_,_=>none
end
section
variable {P:Program} {N n:Nat} {E:Env} {c:Cnt} {st st':St} {a:Act} {call:qQ}
theorem Adv.seq {E E' E'':Env} {c c' c'':Cnt} (h:Adv E c E' c') (h':Adv E' c' E'' c''):Adv E c E'' c'':=h.trans h'
theorem qcK(hC:xS P call) (ops:Array Oper) {Q:Exit→Act→World→Prop}: ∀ (os:List Oper) (k:Nat) (hs is:List AI) (st:St) (a:Act) (E:Env) (c:Cnt),
 ops.toList.drop k=os→y0 P N n ops os hs=some is→yf call is st=some st'→FRel N E st a.tmps c→(∀ a' E' c',FRel N E' st' a'.tmps c'→a'.defers=a.defers→KN n E E'→Adv E c E' c'→Q .normal a' E'.w)→
 wpOps P ops Q (List.range' k os.length) a E.w
 |[],k,hs,is,st,a,E,c,hd,ht,hr,hf,hQ=>by
  cases hs with
  |cons=>simp [y0]at ht
  |nil=>
   simp only [y0,Option.some.injEq]at ht;subst ht
   simp only [yf,Option.some.injEq]at hr;subst hr
   simp only [List.length_nil,List.range'_zero,wpOps]
   exact hQ a E c hf rfl KN.refl (Adv.refl _ _)
 |o::os,k,hs,is,st,a,E,c,hd,ht,hr,hf,hQ=>by
  cases hs with
  |nil=>simp [y0]at ht
  |cons h hs=>
   simp only [y0]at ht
   split at ht
   case h_2=>cases ht
   rename_i i is' h1 h2
   simp only [Option.some.injEq]at ht;subst ht
   simp only [yf]at hr
   split at hr
   case h_2=>cases hr
   rename_i st1 hst1
   have hk:ops[k]? =some o:=by
    have:(ops.toList.drop k)[0]? =some o:=by rw [hd];rfl
    simpa using this
   have hd':ops.toList.drop (k+1)=os:=by
    rw [← List.drop_drop,hd];rfl
   simp only [List.length_cons,List.range'_succ,wpOps,hk]
   refine qgd hC h1 hst1 hf ?_
   intro y E' c' hF hkn hkp hA
   refine qcK hC ops os (k+1) hs is' st1 (a.put o.dst y) E' c' hd' h2 hr hF ?_
   intro a'' E'' c'' hF' hdf' hkn' hA'
   exact hQ a'' E'' c'' hF' (hdf'.trans (qeV _ _ _)) (hkn.trans hkn') (hA.seq hA')
def xOf:AX→Exit
 | .normal=> .normal
 | .exit id=> .exit id
 | .ret=> .ret
def x8(n N:Nat) (E:Env) (c:Cnt) (st':St) (a:Act) (x:AX):Exit→Act→World→Prop:=
 fun e a' w'=>e=xOf x∧a'.defers=a.defers∧ ∃ E' c',E'.w=w'∧FRel N E' st' a'.tmps c'∧KN n E E'∧Adv E c E' c'
theorem x8.then {E E':Env} {c c':Cnt} {a a':Act} {x:AX} {e:Exit} {a'':Act} {w:World} (h:x8 n N E' c' st' a' x e a'' w) (hd:a'.defers=a.defers) (hk:KN n E E') (hA:Adv E c E' c'):
 x8 n N E c st' a x e a'' w:=by
 obtain ⟨h1,h2,E'',c'',h3,h4,h5,h6⟩:=h
 exact ⟨h1,h2.trans hd,E'',c'',h3,h4,hk.trans h5,hA.seq h6⟩
theorem qcE(hC:xS P call): ∀ (f:Nat),
 (∀ (code:Code) (h ac:AC) (st st':St) (x:AX),trC P N n code h=some ac→qr call f ac st=some (x,st')→
  ∀ (a:Act) (E:Env) (c:Cnt),FRel N E st a.tmps c→code.wp P (x8 n N E c st' a x) a E.w)∧
 (∀ (body:Code) (ls:List Nat) (ks:List Key) (h ac:AC) (st st':St) (x:AX),n≤CN→trC P N n body h=some ac→qr call f (.loop ls ks ac) st=some (x,st')→
  ∀ (a:Act) (E:Env) (c:Cnt),FRel N E st a.tmps c→Code.rounds P body (x8 n N E c st' a x) f a E.w)
 |0=>⟨fun code h ac st st' x ht hr=>by simp [qr]at hr,fun body ls ks h ac st st' x hn ht hr=>by simp [qr]at hr⟩
 |f+1=>by
  have IH:=qcE hC f
  have hloop: ∀ (body:Code) (ls:List Nat) (ks:List Key) (h ac:AC) (st st':St) (x:AX),n≤CN→trC P N n body h=some ac→qr call (f+1) (.loop ls ks ac) st=some (x,st')→
   ∀ (a:Act) (E:Env) (c:Cnt),FRel N E st a.tmps c→Code.rounds P body (x8 n N E c st' a x) (f+1) a E.w:=by
   intro body ls ks h ac st st' x hn ht hr a E0 c hf
   rw [rounds_succ]
   simp only [qr]at hr
   obtain ⟨E,c1,hw0,hI0,hμ0,hp,hle⟩:=qeU (tmps:=a.tmps) ls ks hf
   have hA0:Adv E0 c E c1:=kb hw0 hI0 hle
   have hk0:KN n E0 E:=fun k hk=>hμ0 k (by omega)
   rw [← hw0]
   split at hr
   ·rename_i st1 h1
    refine wp_mono (IH.1 _ _ _ _ _ _ ht h1 a E c1 hp) ?_
    rintro e a' w' ⟨rfl,hdf,E',c',rfl,hF,hk,hA⟩
    simp only [xOf,Exit.then]
    have:=IH.2 body ls ks h ac st1 st' x hn ht hr a' E' c' hF
    have hmono: ∀ (m:Nat) (a1:Act) (w1:World),Code.rounds P body (x8 n N E' c' st' a' x) m a1 w1→Code.rounds P body (x8 n N E0 c st' a x) m a1 w1:=by
     intro m
     induction m with
     |zero=>intro a1 w1 h;exact h.elim
     |succ m ih=>
      intro a1 w1 h
      rw [rounds_succ]at h ⊢
      refine wp_mono h ?_
      intro e a2 w2 hq
      cases e<;>simp only [Exit.then]at hq ⊢ <;>(first|exact ih _ _ hq|exact hq.then hdf (hk0.trans hk) (hA0.seq hA))
    exact hmono _ _ _ this
   ·rename_i r hnn
    have hb:=IH.1 _ _ _ _ _ _ ht hr a E c1 hp
    refine wp_mono hb ?_
    rintro e a' w' ⟨rfl,hdf,E',c',rfl,hF,hk,hA⟩
    have hx:x ≠ .normal:=by rintro rfl;exact hnn _ hr
    cases x with
    |normal=>exact absurd rfl hx
    |exit id=>exact ⟨rfl,hdf,E',c',rfl,hF,hk0.trans hk,hA0.seq hA⟩
    |ret=>exact ⟨rfl,hdf,E',c',rfl,hF,hk0.trans hk,hA0.seq hA⟩
  refine ⟨?_,hloop⟩
  intro code h ac st st' x ht hr a E c hf
  have hself:x8 n N E c st a .normal .normal a E.w:=⟨rfl,rfl,E,c,rfl,hf,KN.refl,Adv.refl _ _⟩
  unfold trC at ht
  split at ht
  ·rename_i os hx
   split at ht
   case h_2=>cases ht
   rename_i x' h1
   split at ht
   case isFalse=>cases ht
   rename_i ho
   simp only [Option.some.injEq]at ht;subst ht
   simp only [qr]at hr
   obtain ⟨E1,c1,hw0,hI0,hk0,hF,hle⟩:=qaX (n:=n) os ho hf
   rw [← hw0]
   refine wp_mono (IH.1 _ _ _ _ _ _ h1 hr a E1 c1 hF) ?_
   intro e a' w' hq
   exact hq.then rfl hk0 (kb hw0 hI0 hle)
  ·rename_i os hx
   split at ht
   case h_2=>cases ht
   rename_i x' h1
   split at ht
   case isFalse=>cases ht
   rename_i ho
   simp only [Option.some.injEq]at ht;subst ht
   simp only [qr]at hr
   obtain ⟨E1,c1,hw0,hI0,hk0,hF,hle⟩:=qeC (n:=n) os ho hf
   rw [← hw0]
   refine wp_mono (IH.1 _ _ _ _ _ _ h1 hr a E1 c1 hF) ?_
   intro e a' w' hq
   exact hq.then rfl hk0 (kb hw0 hI0 hle)
  ·rename_i ls ks hx
   split at ht
   case h_2=>cases ht
   rename_i x' h1
   split at ht
   case isFalse=>cases ht
   rename_i ho
   simp only [Option.some.injEq]at ht;subst ht
   simp only [qr]at hr
   obtain ⟨E1,c1,hw0,hI0,hk0,hF,hle⟩:=qeU (tmps:=a.tmps) ls ks hf
   rw [← hw0]
   refine wp_mono (IH.1 _ _ _ _ _ _ h1 hr a E1 c1 hF) ?_
   intro e a' w' hq
   exact hq.then rfl (fun k hk=>hk0 k (by omega)) (kb hw0 hI0 hle)
  ·split at ht
   case h_2=>cases ht
   rename_i x' h1
   simp only [Option.some.injEq]at ht;subst ht
   simp only [qr]at hr
   exact IH.1 _ _ _ _ _ _ h1 hr a E c ⟨hf.sz,qfM hf.σ _,hf.T,hf.g⟩
  ·simp only [Option.some.injEq]at ht;subst ht
   simp only [qr,Option.some.injEq,Prod.mk.injEq]at hr
   obtain ⟨rfl,rfl⟩:=hr
   exact wp_skip hself
  ·simp only [Option.some.injEq]at ht;subst ht
   simp only [qr,Option.some.injEq,Prod.mk.injEq]at hr
   obtain ⟨rfl,rfl⟩:=hr
   exact wp_ret ⟨rfl,rfl,E,c,rfl,hf,KN.refl,Adv.refl _ _⟩
  ·simp only [Option.some.injEq]at ht;subst ht
   simp only [qr,Option.some.injEq,Prod.mk.injEq]at hr
   obtain ⟨rfl,rfl⟩:=hr
   exact wp_exit ⟨rfl,rfl,E,c,rfl,hf,KN.refl,Adv.refl _ _⟩
  ·rename_i id ops hs
   rw [Option.map_eq_some_iff]at ht
   obtain ⟨is,h1,rfl⟩:=ht
   simp only [qr,Option.map_eq_some_iff,Prod.mk.injEq]at hr
   obtain ⟨st1,h2,rfl,rfl⟩:=hr
   refine wp_region ?_
   have:=qcK (Q:=x8 n N E c st1 a .normal) hC ops ops.toList 0 hs is st a E c rfl h1 h2 hf ?_
   ·rw [Array.length_toList, ← List.range_eq_range']at this
    exact this
   ·intro a' E' c' hF hdf hk hA
    exact ⟨rfl,hdf,E',c',rfl,hF,hk,hA⟩
  ·rename_i id ops plan hs
   split at ht
   case h_2=>cases ht
   rename_i is h1
   split at ht
   case isFalse=>cases ht
   rename_i hk
   simp only [Option.some.injEq]at ht;subst ht
   simp only [qr]at hr
   split at hr
   case h_2=>cases hr
   rename_i st1 h2
   split at hr
   case isFalse=>cases hr
   rename_i hnd
   simp only [Option.some.injEq,Prod.mk.injEq]at hr
   obtain ⟨rfl,rfl⟩:=hr
   exact qhL hC hk h1 h2 hnd hf fun a' E' c' hF hdf hk hA=>⟨rfl,hdf,E',c',rfl,hF,hk,hA⟩
  ·rename_i cx cy hx hy
   split at ht
   case h_2=>cases ht
   rename_i x' y' h1 h2
   simp only [Option.some.injEq]at ht;subst ht
   simp only [qr]at hr
   refine wp_seq ?_
   split at hr
   ·rename_i st1 h3
    refine wp_mono (IH.1 _ _ _ _ _ _ h1 h3 a E c hf) ?_
    rintro e a' w' ⟨rfl,hdf,E',c',rfl,hF,hk,hA⟩
    simp only [xOf,Exit.then]
    exact wp_mono (IH.1 _ _ _ _ _ _ h2 hr a' E' c' hF) fun e a2 w2 hq=>hq.then hdf hk hA
   ·rename_i r hnn
    refine wp_mono (IH.1 _ _ _ _ _ _ h1 hr a E c hf) ?_
    intro e a' w' hq
    have hx:x ≠ .normal:=by rintro rfl;exact hnn _ hr
    have he:=hq.1
    cases x with
    |normal=>exact absurd rfl hx
    |exit id=>subst he;exact hq
    |ret=>subst he;exact hq
  ·rename_i cc cx cy hc hx hy
   split at ht
   case h_2=>cases ht
   rename_i c' x' y' h0 h1 h2
   simp only [Option.some.injEq]at ht;subst ht
   simp only [qr]at hr
   split at hr
   ·rename_i hb
    have:=qD hf.σ h0 hb
    simp only [Rel]at this
    exact wp_cond_true this.1 (IH.1 _ _ _ _ _ _ h1 hr a E c hf)
   ·rename_i hb
    have:=qD hf.σ h0 hb
    simp only [Rel]at this
    exact wp_cond_false this.1 (IH.1 _ _ _ _ _ _ h2 hr a E c hf)
   ·cases hr
  ·rename_i id cx id' hx
   split at ht
   case h_2=>cases ht
   rename_i x' h1
   simp only [Option.some.injEq]at ht;subst ht
   simp only [qr]at hr
   refine wp_block ?_
   split at hr
   ·rename_i id2 st1 h3
    refine wp_mono (IH.1 _ _ _ _ _ _ h1 h3 a E c hf) ?_
    rintro e a' w' ⟨rfl,hdf,E',c',rfl,hF,hk,hA⟩
    simp only [xOf,Exit.inBlock]
    split at hr
    ·rename_i he
     simp only [Option.some.injEq,Prod.mk.injEq]at hr
     obtain ⟨rfl,rfl⟩:=hr
     rw [if_pos he]
     exact ⟨rfl,hdf,E',c',rfl,hF,hk,hA⟩
    ·rename_i he
     simp only [Option.some.injEq,Prod.mk.injEq]at hr
     obtain ⟨rfl,rfl⟩:=hr
     rw [if_neg he]
     exact ⟨rfl,hdf,E',c',rfl,hF,hk,hA⟩
   ·rename_i r hnn
    refine wp_mono (IH.1 _ _ _ _ _ _ h1 hr a E c hf) ?_
    intro e a' w' hq
    have he:=hq.1
    cases x with
    |normal=>subst he;exact hq
    |exit id=>exact absurd hr (hnn _ _)
    |ret=>subst he;exact hq
  ·rename_i cx ls ks hx
   split at ht
   case h_2=>cases ht
   rename_i x' h1
   split at ht
   case isFalse=>cases ht
   rename_i hn
   simp only [Option.some.injEq]at ht;subst ht
   exact wp_loop_rounds (f+1) (hloop cx ls ks hx x' st st' x hn h1 hr a E c hf)
  ·cases ht
end
end Go.Vm
namespace Go.Vm
variable [Lay]
def xu(P:Program):List ResultVar→Option (List AR)
 |[]=>some []
 | .tmp t::r=>(xu P r).map (.tmp t:: ·)
 | .cell a t::r=>xa (xQ P t) (xu P r) fun q rs=> .cell a q.1 q.2::rs
def qp(P:Program) (fn:Func) (h:AF):Option AF:=
 match fn.body with
 |some code=>match trC P fn.ntmps h.nargs code h.body,xu P fn.results.toList with
  |some b,some rs=>if decide (h.nargs≤fn.ntmps)&&fn.name != "runtime.NumGoroutine" then some {nargs:=h.nargs,ntmps:=fn.ntmps,res:=rs,body:=b} else none
  |_,_=>none
 |none=>none
def xc(P:Program) (prog:Nat→Option AE):Prop:=
 ∀ f e,prog f=some e→match e with
  | .fn af=> ∃ fn h,P.funcs[f]? =some fn∧qp P fn h=some af
  | .prim g=> ∀ args r outs,g args=some (r,outs)→kF P f args r outs
section
variable {P:Program} {N n:Nat} {E:Env} {c:Cnt} {st st':St} {a:Act} {call:qQ}
theorem qeE: ∀ (xs:List V) (i:Nat) (E:Env) (vs:List Value) (c:Cnt),(∀ k:Key,i≤k.1→E.μ k=none)→qi E xs vs c→
 ∃ E' c',E'.w=E.w∧E'.I=E.I∧(∀ k l,E.μ k=some l→E'.μ k=some l)∧(∀ k:Key,i+xs.length≤k.1→E'.μ k=none)∧
  qi E' (qZ i xs).1 vs c0∧qm E' (qZ i xs).2 c'∧cle c' c
 |[],i,E,vs,c,hf,h=>by
  simp only [qi]at h
  exact ⟨E,c0,rfl,rfl,fun _ _ h=>h,fun k hk=>hf k (by simpa using hk),by simp only [qZ,qi];exact ⟨h.1,trivial⟩,rfl,fun _=>Nat.zero_le _⟩
 |x::xs,i,E,vs,c,hf,h=>by
  simp only [qi]at h
  obtain ⟨y,t,c1,c2,rfl,h1,h2,rfl⟩:=h
  obtain ⟨E1,d1,j',hn,hr1,ht1,hl1⟩:=qaW (d:=i) (fun j=>hf (i,j) (Nat.le_refl _)) h1
  obtain ⟨E2,d2,hw2,hI2,hμ2,hfree2,hr2,ht2,hl2⟩:=qeE xs (i+1) E1 t c2 (fun k hk=>by rw [hn.hout k (by omega)];exact hf k (by omega)) (yr h2 (hn.mono _))
  have hm: ∀ c,Mono E1 E2 c:=fun c=>⟨fun τ b hb=>⟨by rw [hI2];exact hb,by rw [hw2]⟩,fun b _=>by rw [hw2],hμ2⟩
  refine ⟨E2,qg d1 d2,hw2.trans hn.hw,hI2.trans hn.hI,fun k l hk=>hμ2 k l (hn.hμ k l hk),fun k hk=>hfree2 k (by simp only [List.length_cons]at hk;omega), ?_, ?_,y3 hl1 hl2⟩
  ·simp only [qZ,qi]
   exact ⟨y,t,c0,c0,rfl,zZ hr1 (hm _),hr2,rfl⟩
  ·simp only [qZ]
   exact yK (zE ht1 (hm _)) ht2
theorem qdJ: ∀ (xs:List V) (i t:Nat) (x:V),qB (yt i xs) t=some x→ ∃ j,t=i+j∧xs[j]? =some x
 |[],i,t,x,h=>by simp [yt,qB]at h
 |y::ys,i,t,x,h=>by
  simp only [yt,qB]at h
  split at h
  ·rename_i he;subst he
   exact ⟨0,rfl,by simpa using h⟩
  ·obtain ⟨j,h1,h2⟩:=qdJ ys (i+1) t x h
   exact ⟨j+1,by omega,by simpa using h2⟩
theorem qmd {xs:List V} {vs:List Value} {rest:Array Value} (h:qi E xs vs c0):zm E (yt 0 xs) (vs.toArray++rest):=by
 intro t x hx
 obtain ⟨j,rfl,hj⟩:=qdJ xs 0 t x hx
 obtain ⟨y,c1,c2,hy,hr,hc,-⟩:=Jh h hj
 have h0:c1=c0:=funext fun b=>by have:=congrFun hc b;simp only [c0,qg]at this ⊢;omega
 subst h0
 have hlt:j < vs.length:=(List.getElem?_eq_some_iff.1 hy).1
 refine ⟨y, ?_,hr⟩
 rw [Nat.zero_add,Array.getElem?_append_left (by simpa using hlt)]
 simpa using hy
theorem ql2 {r:ResultVar} {x:V} {T T':Mem} {tmps:Array Value} {ar:AR} {cT:Cnt} (hr:xu P [r]=some [ar]) (hσ:zm E st.σ tmps) (hT:qm E T cT) (h:kA {σ:=st.σ,T:=T} ar=some (x,T')):
 ∃ v d1 d2,((match r with
  | .tmp t=>pure (tmps.getD t undef)
  | .cell a t=>do loadVar t (← asAddr (tmps.getD a undef))):Sem Value).run P E.w= .ok v E.w∧Rel E x v d1∧qm E T' d2∧cle (qg d1 d2) cT:=by
 cases r with
 |tmp t=>
  simp only [xu,Option.map_some,Option.some.injEq,List.cons.injEq,and_true]at hr
  subst hr
  simp only [kA,Option.map_eq_some_iff,Prod.mk.injEq]at h
  obtain ⟨y,hy,rfl,rfl⟩:=h
  obtain ⟨v,hv,hrv⟩:=hσ _ _ hy
  refine ⟨v,c0,cT, ?_,hrv,hT,by rw [qU];exact qN _⟩
  simp only [Sem.run_pure,Array.getD_eq_getD_getElem?,hv,Option.getD_some]
 |cell a t=>
  simp only [xu]at hr
  obtain ⟨q,rs,hq,hrs,he⟩:=kx hr
  simp only [Option.some.injEq]at hrs
  subst hrs
  simp only [List.cons.injEq,and_true]at he
  subst he
  simp only [kA]at h
  split at h
  case h_2=>cases h
  rename_i k hk
  split at h
  case h_2=>cases h
  rename_i e0 xe hg
  rw [Option.bind_eq_some_iff]at h
  obtain ⟨y,hy,h⟩:=h
  split at h
  case isFalse=>cases h
  rename_i hlen
  simp only [Option.some.injEq,Prod.mk.injEq]at h
  obtain ⟨rfl,rfl⟩:=h
  obtain ⟨v,hv,hrv⟩:=hσ _ _ hk
  simp only [Rel]at hrv
  obtain ⟨-,b',base',e',y8,hμ',rfl⟩:=hrv
  obtain ⟨co,cr,hob,hrest,rfl⟩:=zM hT hg
  rcases hob with ⟨_,_,_,_,hn1,-⟩|⟨-,hn1,-⟩|⟨b,base,lim,cells,ty,fz,ce,hμ,hw,hl,hf,hs,hr',rfl⟩
  ·rw [hn1]at hμ';cases hμ'
  ·cases hn1
  rw [hμ]at hμ';cases hμ'
  simp only [List.length_singleton,Nat.one_mul]at hs hr'
  obtain ⟨u,hu,hus,hul,huo,hR⟩:=YA hr'
  obtain ⟨vz,f0,f1,f2,hz,hzl,hzle,hzc,hz0,hz2,rfl,hzT,hzF⟩:=qd9 hR (by rw [hul,hus]) huo hy
  have haddr:tmps.getD a undef= .pointer (some ⟨b',base',none⟩):=by
   simp only [Array.getD_eq_getD_getElem?,hv,Option.getD_some]
   simp
  unfold xQ at hq
  split at hq
  case h_2=>cases hq
  rename_i dd i hud hi
  simp only [Option.some.injEq]at hq;subst hq
  refine ⟨vz,f1,cr, ?_,hz,hrest,fun z=>by simp only [qg];omega⟩
  simp only [haddr,asAddr,Sem.run_bind,Sem.run_pure,Result.andThen_ok]
  have hrun:=qbq (P:=P) (w:=E.w) (t:=t) (o:=base') hud hi hw
  cases hag:jl dd with
  |true=>
   obtain ⟨q1,q2⟩:=hzT hag
   have hsz:u.cells.size=i.size:=by omega
   rw [q2]
   have e2:u.cells.toList.take i.size=seg cells base' i.size:=by
    rw [← hu,qfT];congr 1;omega
   simp only [List.drop_zero,e2]
   exact hrun.1 hag (by omega)
  |false=>
   have q1:=hzF hag
   have h8:(seg cells base' e0)[0]? =some vz:=by rw [hu];simpa using q1
   exact hrun.2 hag vz (by simpa using jA h8)
theorem qfC {tmps:Array Value} (hσ:zm E st.σ tmps): ∀ {rs:List ResultVar} {ars:List AR} {T T':Mem} {xs:List V} {cT:Cnt},xu P rs=some ars→qm E T cT→xr st.σ T ars=some (xs,T')→
 ∃ vs d1 d2,(rs.mapM fun
  | .tmp t=>pure (tmps.getD t undef)
  | .cell a t=>do loadVar t (← asAddr (tmps.getD a undef)):Sem (List Value)).run P E.w= .ok vs E.w∧qi E xs vs d1∧qm E T' d2∧cle (qg d1 d2) cT
 |[],ars,T,T',xs,cT,hr,hT,h=>by
  simp only [xu,Option.some.injEq]at hr;subst hr
  simp only [xr,Option.some.injEq,Prod.mk.injEq]at h
  obtain ⟨rfl,rfl⟩:=h
  exact ⟨[],c0,cT,by simp,by simp [qi],hT,by rw [qU];exact qN _⟩
 |r::rs,ars,T,T',xs,cT,hr,hT,h=>by
  have hsplit: ∃ ar ars',ars=ar::ars'∧xu P [r]=some [ar]∧xu P rs=some ars':=by
   cases r with
   |tmp t=>
    simp only [xu,Option.map_eq_some_iff]at hr
    obtain ⟨q,h1,rfl⟩:=hr
    exact ⟨_,_,rfl,rfl,h1⟩
   |cell a t=>
    simp only [xu]at hr
    obtain ⟨q,qs,h1,h2,rfl⟩:=kx hr
    exact ⟨_,_,rfl,by simp [xu,xa,h1],h2⟩
  obtain ⟨ar,ars',rfl,h1,h2⟩:=hsplit
  simp only [xr]at h
  split at h
  case h_2=>cases h
  rename_i x T1 hx
  split at h
  case h_2=>cases h
  rename_i xs' T2 hxs
  simp only [Option.some.injEq,Prod.mk.injEq]at h
  obtain ⟨rfl,rfl⟩:=h
  obtain ⟨v,d1,d2,g1,g2,g3,g4⟩:=ql2 h1 hσ hT hx
  obtain ⟨vs,e1,e2,k1,k2,k3,k4⟩:=qfC hσ h2 g3 hxs
  refine ⟨v::vs,qg d1 e1,e2, ?_, ?_,k3,fun b=>by have:=g4 b;have:=k4 b;simp only [qg]at*;omega⟩
  ·rw [List.mapM_cons,Sem.run_bind,g1,Result.andThen_ok,Sem.run_bind,k1,Result.andThen_ok]
   rfl
  ·simp only [qi];exact ⟨v,vs,d1,e1,rfl,g2,k2,rfl⟩
theorem qkS {xs:List V} {vs:List Value} (h:qi E xs vs c):Rel E (xI xs) (if h:vs.toArray.size=1 then vs.toArray[0]else .tuple vs.toArray) c:=by
 have hl:=yq h
 match xs,vs,hl,h with
 |[x],[v],_,h=>
  obtain ⟨y,h1,h2⟩:=Yy h
  simp only [List.cons.injEq,and_true]at h1;subst h1
  simpa [xI]using h2
 |[],[],_,h=>
  simp only [qi]at h
  simp [xI,Rel,qi,h.2]
 |x::y::xs,v::u::vs,_,h=>
  simp only [xI]
  rw [dif_neg (by simp)]
  simp only [Rel]
  exact ⟨_,rfl,by simpa using h⟩
theorem ql8 {g:ResultVar→Sem Value} {l:Array ResultVar} {w:World} {vs:List Value} (h:(l.toList.mapM g).run P w= .ok vs w):(l.mapM g).run P w= .ok vs.toArray w:=by
 rw [Array.mapM_eq_mapM_toList]
 simp only [map_eq_pure_bind,Sem.run_bind,h,Result.andThen_ok,Sem.run_pure]
theorem qcB {prog:Nat→Option AE} (hK:xc P prog): ∀ n,xS P (za prog n)
 |0=>fun f xs r outs h=>by simp [za]at h
 |n+1=>by
  have IH:=qcB hK n
  intro f xs r outs h
  simp only [za]at h
  split at h
  ·rename_i g hg
   have:=hK f _ hg
   exact this xs r outs h
  ·rename_i af haf
   obtain ⟨fn,hh,hfn,htr⟩:=hK f _ haf
   split at h
   case isFalse=>cases h
   rename_i hlen
   unfold qp at htr
   split at htr
   case h_2=>cases htr
   rename_i code hcode
   split at htr
   case h_2=>cases htr
   rename_i b rs hb hrs
   split at htr
   case isFalse=>cases htr
   rename_i hcond
   simp only [Bool.and_eq_true,decide_eq_true_eq,bne_iff_ne,ne_eq]at hcond
   obtain ⟨hnt,hname⟩:=hcond
   simp only [Option.some.injEq]at htr;subst htr
   simp only at hlen h
   intro E vs c hxs hg
   have hcf:(callFunc f vs.toArray).run P E.w= .ok (.enter f vs.toArray) E.w:=by
    have hne:(fn.name== "runtime.NumGoroutine")=false:=by simpa using hname
    simp [callFunc,hfn,hname,hcode]
   rw [hcf]
   refine ⟨rfl, ?_⟩
   obtain ⟨E0,c1,hw0,hI0,-,hfree,hxs0,hT0,hle0⟩:=qeE xs 0 E.cl vs c (fun k _=>rfl) hxs
   rw [Nat.zero_add]at hfree
   have hvl:=yq hxs
   have hg0:Good E0 c1:=kP (E:=E) hw0 hI0 hle0 hg
   have hsz:(vs.toArray++Array.replicate (fn.ntmps - vs.toArray.size) undef).size=fn.ntmps:=by
    simp only [Array.size_append,List.size_toArray,Array.size_replicate];omega
   have hF:FRel fn.ntmps E0 {σ:=yt 0 (qZ 0 xs).1,T:=(qZ 0 xs).2} (vs.toArray++Array.replicate (fn.ntmps - vs.toArray.size) undef) c1:=
    ⟨hsz,qmd hxs0,hT0,hg0⟩
   have hA0:Adv E c E0 c1:=kb hw0 hI0 hle0
   have hfin: ∀ (x:AX) (st:St),(x= .normal∨x= .ret)→qr (za prog n) n b {σ:=yt 0 (qZ 0 xs).1,T:=(qZ 0 xs).2}=some (x,st)→
    yR {nargs:=hh.nargs,ntmps:=fn.ntmps,res:=rs,body:=b} (qZ 0 xs).1 st=some (r,outs)→
    Calls P f vs.toArray E.w (fun e w''=> ∃ y,e= .returned y∧ ∃ E' cr co,E'.w=w''∧Rel E'.cl r y cr∧qi E'.cl outs vs co∧Good E' (qg cr co)∧Adv E c E' (qg cr co)):=by
    intro x st hx he hfi
    refine calls_of_wp hfn hcode ?_
    rw [show E.w=E0.w from hw0.symm]
    refine wp_mono ((qcE IH n).1 code hh.body b _ st x hb he _ E0 c1 hF) ?_
    rintro e a' w' ⟨rfl,hdf,E',c',rfl,hF',hkn,hA⟩
    simp only [yR]at hfi
    split at hfi
    case h_2=>cases hfi
    rename_i vals T' hres
    simp only [Option.some.injEq,Prod.mk.injEq]at hfi
    obtain ⟨rfl,rfl⟩:=hfi
    obtain ⟨ws,d1,d2,k1,k2,k3,k4⟩:=qfC (P:=P) hF'.σ hrs hF'.T hres
    have hres':(results fn a'.tmps).run P E'.w= .ok (if h:ws.toArray.size=1 then ws.toArray[0]else .tuple ws.toArray) E'.w:=by
     unfold results
     rw [Sem.run_bind]
     refine Eq.trans (congrArg (fun r=>Result.andThen r _) (ql8 (l:=fn.results) k1)) ?_
     rfl
    obtain ⟨e1,e2,g1,g2,g3,-⟩:=QK 30 E' T' _ _ d2 d1 k3 (qkS k2)
    have hargs:qi E' (qZ 0 xs).1 vs c0:=by
     refine yr hxs0 ⟨fun τ bb hb=>⟨hA.sub τ bb hb,hA.frame bb (hg0.imm τ bb hb).2 (hg0.imm τ bb hb).1⟩,fun bb hb=>absurd rfl hb,fun k l hk=> ?_⟩
     by_cases hkk:k.1 < hh.nargs
     ·rw [hkn k hkk];exact hk
     ·rw [hfree k (by omega)]at hk;cases hk
    obtain ⟨e3,e4,g4,g5,g6⟩:=j9 (QK 30) g1 hargs
    have hle:cle (qg e2 e4) c':=fun bb=>by
     have:=k4 bb;have:=g3 bb;have:=g6 bb;simp only [qg,c0]at*;omega
    have hpost:a'.defers=[]∧ ∃ v,(results fn a'.tmps).run P E'.w= .ok v E'.w∧(∃ y,Ending.returned v= .returned y∧ ∃ E'' cr co,E''.w=E'.w∧Rel E''.cl (qu 30 T' (xI vals)).1 y cr∧
     qi E''.cl (qx (qu 30) (qu 30 T' (xI vals)).2 (qZ 0 xs).1).1 vs co∧Good E'' (qg cr co)∧Adv E c E'' (qg cr co)):=
     ⟨hdf,_,hres',_,rfl,E',e2,e4,rfl,g2,g5,hF'.g.le hle,(hA0.trans hA).le hle⟩
    rcases hx with rfl|rfl<;>exact hpost
   split at h
   ·rename_i st he
    exact hfin .normal st (.inl rfl) he h
   ·rename_i st he
    exact hfin .ret st (.inr rfl) he h
   ·cases h
  ·cases h
end
end Go.Vm
namespace Go.Vm
section lim
variable {α:Type}
open Classical in
noncomputable def y8(f:Nat→Option α):Option α:=if h: ∃ n,(f n).isSome then f h.choose else none
def qbL(f:Nat→Option α):Prop:= ∀ n m r,n≤m→f n=some r→f m=some r
theorem qae {f:Nat→Option α} (h: ∀ n r,f n=some r→f (n+1)=some r):qbL f:=by
 intro n m r hnm
 induction hnm with
 |refl=>exact id
 |step _ ih=>exact fun h'=>h _ _ (ih h')
theorem qd8 {f:Nat→Option α} (hc:qbL f) {r:α}:y8 f=some r↔ ∃ n,f n=some r:=by
 unfold y8
 constructor
 ·intro h
  split at h
  ·exact ⟨_,h⟩
  ·cases h
 ·rintro ⟨n,hn⟩
  have hex: ∃ n,(f n).isSome:=⟨n,by simp [hn]⟩
  rw [dif_pos hex]
  have hs:=hex.choose_spec
  obtain ⟨r',hr'⟩:=Option.isSome_iff_exists.1 hs
  have h1:=hc _ _ _ (Nat.le_max_left n hex.choose) hn
  have h2:=hc _ _ _ (Nat.le_max_right n hex.choose) hr'
  rw [h1]at h2
  rw [hr']
  exact h2.symm
theorem xE {x y:Option α} (h: ∀ r,x=some r↔y=some r):x=y:=by
 cases x with
 |none=>cases y with
  |none=>rfl
  |some b=>exact absurd ((h b).2 rfl) (by simp)
 |some a=>exact ((h a).1 rfl).symm
end lim
def CLe(c c':qQ):Prop:= ∀ f xs r,c f xs=some r→c' f xs=some r
section
variable {c c':qQ} {st st':St}
theorem qhJ(h:CLe c c') {d:Option Nat} {g:Nat} {xs:List V} {m:Md} (hr:y4 c d g xs m st=some st'):y4 c' d g xs m st=some st':=by
 unfold y4 at hr ⊢
 cases m with
 |ro fz=>
  simp only at hr ⊢
  cases he:c g (xP st.T xs)with
  |none=>rw [he]at hr;cases hr
  |some r=>rw [he]at hr;rw [h _ _ _ he];exact hr
 |io fz=>
  simp only at hr ⊢
  cases he:c g (qx (qu 30) st.T xs).1 with
  |none=>rw [he]at hr;cases hr
  |some r=>rw [he]at hr;rw [h _ _ _ he];exact hr
theorem qcM(h:CLe c c') {i:AI} (hr:qh c st i=some st'):qh c' st i=some st':=by
 cases i
 case call d f args m=>
  simp only [qh]at hr ⊢
  split at hr
  ·split at hr
   ·exact qhJ h hr
   ·cases hr
  ·cases hr
 all_goals exact hr
theorem qaC(h:CLe c c') {i:AI} (hr:qk c st i=some st'):qk c' st i=some st':=by
 cases i
 case gd j want d i=>
  simp only [qk]at hr ⊢
  split at hr
  ·split at hr
   ·rename_i hb;rw [if_pos hb];exact qcM h hr
   ·rename_i hb;rw [if_neg hb];exact hr
  ·exact hr
  ·cases hr
 all_goals (simp only [qk]at hr ⊢;exact qcM h hr)
theorem Z8(h:CLe c c'): ∀ {is:List AI} {st:St},yf c is st=some st'→yf c' is st=some st'
 |[],_,hr=>hr
 |i::is,st,hr=>by
  simp only [yf]at hr ⊢
  cases he:qk c st i with
  |none=>rw [he]at hr;cases hr
  |some s=>rw [he]at hr;rw [qaC h he];exact Z8 h hr
theorem qf0(h:CLe c c') {p:Dp} {i:AI} (hr:yJ c p i st=some st'):yJ c' p i st=some st':=by
 unfold yJ at hr ⊢
 cases he:qk c {σ:=zk st.σ (qI i),T:=yG st.T p.ks} i with
 |none=>rw [he]at hr;cases hr
 |some s=>rw [he]at hr;rw [qaC h he];exact hr
theorem Z7(h:CLe c c'): ∀ {ps:List Dp} {is:List AI} {st:St},zq c ps is st=some st'→zq c' ps is st=some st'
 |[],[],_,hr=>hr
 |[],_::_,_,hr=>by simp [zq]at hr
 |_::_,[],_,hr=>by simp [zq]at hr
 |p::ps,i::is,st,hr=>by
  simp only [zq]at hr ⊢
  cases he:yJ c p i st with
  |none=>rw [he]at hr;cases hr
  |some s=>rw [he]at hr;rw [qf0 h he];exact Z7 h hr
theorem zx(h:CLe c c'): ∀ (n m:Nat) (code:AC) (st:St) (r:AX × St),n≤m→qr c n code st=some r→qr c' m code st=some r
 |0,_,_,_,_,_,hr=>by simp [qr]at hr
 |n+1,0,_,_,_,hle,_=>by omega
 |n+1,m+1,code,st,r,hle,hr=>by
  have hle':n≤m:=by omega
  have IH:=fun code st r=>zx h n m code st r hle'
  cases code with
  |skip=>simpa only [qr]using hr
  |ret=>simpa only [qr]using hr
  |exit id=>simpa only [qr]using hr
  |reg is=>
   simp only [qr,Option.map_eq_some_iff]at hr ⊢
   obtain ⟨s,hs,rfl⟩:=hr
   exact ⟨s,Z8 h hs,rfl⟩
  |dreg plan is=>
   simp only [qr]at hr ⊢
   cases he:zq c plan is (yL (zB plan is) st)with
   |none=>rw [he]at hr;cases hr
   |some s=>rw [he]at hr;rw [Z7 h he];exact hr
  |seq x y=>
   simp only [qr]at hr ⊢
   cases he:qr c n x st with
   |none=>rw [he]at hr;cases hr
   |some s=>
    rw [he]at hr;rw [IH _ _ _ he]
    obtain ⟨e,s⟩:=s
    cases e<;>first|exact IH _ _ _ hr|exact hr
  |cond a x y=>
   simp only [qr]at hr ⊢
   split at hr
   ·exact IH _ _ _ hr
   ·exact IH _ _ _ hr
   ·cases hr
  |block id x=>
   simp only [qr]at hr ⊢
   cases he:qr c n x st with
   |none=>rw [he]at hr;cases hr
   |some s=>rw [he]at hr;rw [IH _ _ _ he];exact hr
  |opn os x=>
   simp only [qr]at hr ⊢
   exact IH _ _ _ hr
  |opd os x=>
   simp only [qr]at hr ⊢
   exact IH _ _ _ hr
  |nam ls ks x=>
   simp only [qr]at hr ⊢
   exact IH _ _ _ hr
  |keep ls x=>
   simp only [qr]at hr ⊢
   exact IH _ _ _ hr
  |loop ls ks x=>
   simp only [qr]at hr ⊢
   cases he:qr c n x (yW ls ks st)with
   |none=>rw [he]at hr;cases hr
   |some s=>
    rw [he]at hr;rw [IH _ _ _ he]
    obtain ⟨e,s⟩:=s
    cases e<;>first|exact IH _ _ _ hr|exact hr
end
theorem xf(prog:Nat→Option AE): ∀ (n:Nat),CLe (za prog n) (za prog (n+1))
 |0=>fun f xs r h=>by simp [za]at h
 |n+1=>by
  have IH:=xf prog n
  intro f xs r h
  rw [za]at h ⊢
  split at h
  ·rename_i g hg;exact h
  ·rename_i af haf
   split at h
   case isFalse=>cases h
   rename_i hlen
   rw [if_pos hlen]
   cases he:qr (za prog n) n af.body {σ:=yt 0 (qZ 0 xs).1,T:=(qZ 0 xs).2} with
   |none=>rw [he]at h;cases h
   |some s=>rw [he]at h;rw [zx IH n (n+1) _ _ _ (by omega) he];exact h
  ·cases h
theorem ka(prog:Nat→Option AE) {n m:Nat} (h:n≤m):CLe (za prog n) (za prog m):=by
 intro f xs r
 exact qae (f:=fun n=>za prog n f xs) (fun n r=>xf prog n f xs r) n m r h
section
variable (prog:Nat→Option AE)
noncomputable def cw:qQ:=fun f xs=>y8 fun n=>za prog n f xs
noncomputable def xw(c:AC) (st:St):Option (AX × St):=y8 fun n=>qr (za prog n) n c st
variable {prog}
theorem QM {f:Nat} {xs:List V} {r:V × List V}:cw prog f xs=some r↔ ∃ n,za prog n f xs=some r:=
 qd8 (qae fun n r=>xf prog n f xs r)
theorem zj {c:AC} {st:St} {r:AX × St}:xw prog c st=some r↔ ∃ n,qr (za prog n) n c st=some r:=
 qd8 (qae fun n r=>zx (xf prog n) n (n+1) c st r (by omega))
theorem qcA(n:Nat):CLe (za prog n) (cw prog):=fun _ _ _ h=>QM.2 ⟨n,h⟩
variable {st st':St}
theorem qhI {d:Option Nat} {g:Nat} {xs:List V} {m:Md} (h:y4 (cw prog) d g xs m st=some st'): ∃ n,y4 (za prog n) d g xs m st=some st':=by
 unfold y4 at h
 cases m with
 |ro fz=>
  simp only at h
  cases he:cw prog g (xP st.T xs)with
  |none=>rw [he]at h;cases h
  |some r=>rw [he]at h;obtain ⟨n,hn⟩:=QM.1 he;exact ⟨n,by unfold y4;simp only [hn];exact h⟩
 |io fz=>
  simp only at h
  cases he:cw prog g (qx (qu 30) st.T xs).1 with
  |none=>rw [he]at h;cases h
  |some r=>rw [he]at h;obtain ⟨n,hn⟩:=QM.1 he;exact ⟨n,by unfold y4;simp only [hn];exact h⟩
theorem qcL {i:AI} (h:qh (cw prog) st i=some st'): ∃ n,qh (za prog n) st i=some st':=by
 cases i
 case call d f args m=>
  simp only [qh]at h ⊢
  split at h
  ·rename_i f' hf
   split at h
   ·rename_i hc ha
    obtain ⟨n,hn⟩:=qhI h
    exact ⟨n,by rw [hn]⟩
   ·cases h
  ·cases h
 all_goals exact ⟨0,h⟩
theorem qdN {i:AI} (h:qk (cw prog) st i=some st'): ∃ n,qk (za prog n) st i=some st':=by
 cases i
 case gd j want d i=>
  simp only [qk]at h ⊢
  split at h
  ·split at h
   ·rename_i hb;obtain ⟨n,hn⟩:=qcL h;exact ⟨n,by rw [if_pos hb];exact hn⟩
   ·rename_i hb;exact ⟨0,by rw [if_neg hb];exact h⟩
  ·exact ⟨0,h⟩
  ·cases h
 all_goals (simp only [qk]at h ⊢;exact qcL h)
theorem qcJ: ∀ {is:List AI} {st:St},yf (cw prog) is st=some st'→ ∃ n,yf (za prog n) is st=some st'
 |[],_,h=>⟨0,h⟩
 |i::is,st,h=>by
  simp only [yf]at h ⊢
  cases he:qk (cw prog) st i with
  |none=>rw [he]at h;cases h
  |some s=>
   rw [he]at h
   obtain ⟨n,hn⟩:=qdN he
   obtain ⟨m,hm⟩:=qcJ h
   refine ⟨max n m, ?_⟩
   rw [qaC (ka prog (Nat.le_max_left n m)) hn]
   exact Z8 (ka prog (Nat.le_max_right n m)) hm
theorem qmZ {p:Dp} {i:AI} (h:yJ (cw prog) p i st=some st'): ∃ n,yJ (za prog n) p i st=some st':=by
 unfold yJ at h
 cases he:qk (cw prog) {σ:=zk st.σ (qI i),T:=yG st.T p.ks} i with
 |none=>rw [he]at h;cases h
 |some s=>
  rw [he]at h
  obtain ⟨n,hn⟩:=qdN he
  exact ⟨n,by unfold yJ;rw [hn];exact h⟩
theorem qcH: ∀ {ps:List Dp} {is:List AI} {st:St},zq (cw prog) ps is st=some st'→ ∃ n,zq (za prog n) ps is st=some st'
 |[],[],_,h=>⟨0,h⟩
 |[],_::_,_,h=>by simp [zq]at h
 |_::_,[],_,h=>by simp [zq]at h
 |p::ps,i::is,st,h=>by
  simp only [zq]at h ⊢
  cases he:yJ (cw prog) p i st with
  |none=>rw [he]at h;cases h
  |some s=>
   rw [he]at h
   obtain ⟨n,hn⟩:=qmZ he
   obtain ⟨m,hm⟩:=qcH h
   refine ⟨max n m, ?_⟩
   rw [qf0 (ka prog (Nat.le_max_left n m)) hn]
   exact Z7 (ka prog (Nat.le_max_right n m)) hm
theorem qnE:xw prog .skip st=some (.normal,st):=zj.2 ⟨1,rfl⟩
theorem qnC:xw prog .ret st=some (.ret,st):=zj.2 ⟨1,rfl⟩
theorem qnv {id:Nat}:xw prog (.exit id) st=some (.exit id,st):=zj.2 ⟨1,rfl⟩
theorem qnB {is:List AI}:xw prog (.reg is) st=(yf (cw prog) is st).map fun st=>(.normal,st):=by
 apply xE
 intro r
 rw [zj]
 constructor
 ·rintro ⟨n,h⟩
  cases n with
  |zero=>simp [qr]at h
  |succ n=>
   simp only [qr,Option.map_eq_some_iff]at h ⊢
   obtain ⟨s,hs,rfl⟩:=h
   exact ⟨s,Z8 (qcA _) hs,rfl⟩
 ·intro h
  simp only [Option.map_eq_some_iff]at h
  obtain ⟨s,hs,rfl⟩:=h
  obtain ⟨n,hn⟩:=qcJ hs
  refine ⟨n+1, ?_⟩
  simp only [qr,Option.map_eq_some_iff]
  exact ⟨s,Z8 (xf prog n) hn,rfl⟩
theorem qnu {plan:List Dp} {is:List AI}:xw prog (.dreg plan is) st=match zq (cw prog) plan is (yL (zB plan is) st)with
 |some st=>if ju st.T then some (.normal,st)else none
 |none=>none:=by
 apply xE
 intro r
 rw [zj]
 constructor
 ·rintro ⟨n,h⟩
  cases n with
  |zero=>simp [qr]at h
  |succ n=>
   simp only [qr]at h
   cases he:zq (za prog (n+1)) plan is (yL (zB plan is) st)with
   |none=>rw [he]at h;cases h
   |some s=>rw [he]at h;rw [Z7 (qcA _) he];exact h
 ·intro h
  cases he:zq (cw prog) plan is (yL (zB plan is) st)with
  |none=>rw [he]at h;cases h
  |some s=>
   rw [he]at h
   obtain ⟨n,hn⟩:=qcH he
   refine ⟨n+1, ?_⟩
   simp only [qr]
   rw [Z7 (xf prog n) hn];exact h
theorem qnD {x y:AC}:xw prog (.seq x y) st=match xw prog x st with
 |some (.normal,st')=>xw prog y st'
 |r=>r:=by
 apply xE
 intro r
 rw [zj]
 constructor
 ·rintro ⟨n,h⟩
  cases n with
  |zero=>simp [qr]at h
  |succ n=>
   simp only [qr]at h
   cases he:qr (za prog (n+1)) n x st with
   |none=>rw [he]at h;cases h
   |some s=>
    rw [he]at h
    have hx:xw prog x st=some s:=zj.2 ⟨n+1,zx (fun _ _ _ h=>h) n (n+1) _ _ _ (by omega) he⟩
    rw [hx]
    obtain ⟨e,s⟩:=s
    cases e
    ·exact zj.2 ⟨n+1,zx (fun _ _ _ h=>h) n (n+1) _ _ _ (by omega) h⟩
    ·exact h
    ·exact h
 ·intro h
  cases he:xw prog x st with
  |none=>rw [he]at h;cases h
  |some s=>
   rw [he]at h
   obtain ⟨n,hn⟩:=zj.1 he
   obtain ⟨e,s⟩:=s
   cases e
   ·obtain ⟨m,hm⟩:=zj.1 h
    refine ⟨max n m+1, ?_⟩
    simp only [qr]
    rw [zx (ka prog (by omega)) n (max n m) _ _ _ (by omega) hn]
    exact zx (ka prog (by omega)) m (max n m) _ _ _ (by omega) hm
   all_goals
    refine ⟨n+1, ?_⟩
    simp only [qr]
    rw [zx (ka prog (by omega)) n n _ _ _ (by omega) hn]
    exact h
theorem qnt {a:AO} {x y:AC}:xw prog (.cond a x y) st=match ev st.σ a with
 |some (.v (.bool true))=>xw prog x st
 |some (.v (.bool false))=>xw prog y st
 |_=>none:=by
 apply xE
 intro r
 rw [zj]
 constructor
 ·rintro ⟨n,h⟩
  cases n with
  |zero=>simp [qr]at h
  |succ n=>
   simp only [qr]at h
   split at h
   ·rename_i hv;rw [hv];exact zj.2 ⟨n+1,zx (fun _ _ _ h=>h) n (n+1) _ _ _ (by omega) h⟩
   ·rename_i hv;rw [hv];exact zj.2 ⟨n+1,zx (fun _ _ _ h=>h) n (n+1) _ _ _ (by omega) h⟩
   ·cases h
 ·intro h
  split at h
  ·rename_i hv
   obtain ⟨n,hn⟩:=zj.1 h
   exact ⟨n+1,by simp only [qr,hv];exact zx (xf prog n) n n _ _ _ (by omega) hn⟩
  ·rename_i hv
   obtain ⟨n,hn⟩:=zj.1 h
   exact ⟨n+1,by simp only [qr,hv];exact zx (xf prog n) n n _ _ _ (by omega) hn⟩
  ·cases h
theorem qns {id:Nat} {x:AC}:xw prog (.block id x) st=match xw prog x st with
 |some (.exit id',st')=>if id'=id then some (.normal,st')else some (.exit id',st')
 |r=>r:=by
 apply xE
 intro r
 rw [zj]
 constructor
 ·rintro ⟨n,h⟩
  cases n with
  |zero=>simp [qr]at h
  |succ n=>
   simp only [qr]at h
   cases he:qr (za prog (n+1)) n x st with
   |none=>rw [he]at h;cases h
   |some s=>
    rw [he]at h
    rw [zj.2 ⟨n+1,zx (fun _ _ _ h=>h) n (n+1) _ _ _ (by omega) he⟩]
    exact h
 ·intro h
  cases he:xw prog x st with
  |none=>rw [he]at h;cases h
  |some s=>
   rw [he]at h
   obtain ⟨n,hn⟩:=zj.1 he
   refine ⟨n+1, ?_⟩
   simp only [qr]
   rw [zx (xf prog n) n n _ _ _ (by omega) hn]
   exact h
theorem qnw {ls:List Nat} {x:AC}:xw prog (.keep ls x) st=xw prog x {σ:=zk st.σ ls,T:=st.T}:=by
 apply xE
 intro r
 rw [zj,zj]
 constructor
 ·rintro ⟨n,h⟩
  cases n with
  |zero=>simp [qr]at h
  |succ n=>
   simp only [qr]at h
   exact ⟨n+1,zx (fun _ _ _ h=>h) n (n+1) _ _ _ (by omega) h⟩
 ·rintro ⟨n,h⟩
  exact ⟨n+1,by simp only [qr];exact zx (xf prog n) n n _ _ _ (by omega) h⟩
theorem qnA {os:List (Nat × Key × Nat)} {x:AC}:xw prog (.opn os x) st=xw prog x (kw os st):=by
 apply xE
 intro r
 rw [zj,zj]
 constructor
 ·rintro ⟨n,h⟩
  cases n with
  |zero=>simp [qr]at h
  |succ n=>
   simp only [qr]at h
   exact ⟨n+1,zx (fun _ _ _ h=>h) n (n+1) _ _ _ (by omega) h⟩
 ·rintro ⟨n,h⟩
  exact ⟨n+1,by simp only [qr];exact zx (xf prog n) n n _ _ _ (by omega) h⟩
theorem qny {ls:List Nat} {ks:List Key} {x:AC}:xw prog (.nam ls ks x) st=xw prog x (yW ls ks st):=by
 apply xE
 intro r
 rw [zj,zj]
 constructor
 ·rintro ⟨n,h⟩
  cases n with
  |zero=>simp [qr]at h
  |succ n=>
   simp only [qr]at h
   exact ⟨n+1,zx (fun _ _ _ h=>h) n (n+1) _ _ _ (by omega) h⟩
 ·rintro ⟨n,h⟩
  exact ⟨n+1,by simp only [qr];exact zx (xf prog n) n n _ _ _ (by omega) h⟩
theorem qnz {os:List (Nat × Nat × Option Nat)} {x:AC}:xw prog (.opd os x) st=xw prog x (jv os st):=by
 apply xE
 intro r
 rw [zj,zj]
 constructor
 ·rintro ⟨n,h⟩
  cases n with
  |zero=>simp [qr]at h
  |succ n=>
   simp only [qr]at h
   exact ⟨n+1,zx (fun _ _ _ h=>h) n (n+1) _ _ _ (by omega) h⟩
 ·rintro ⟨n,h⟩
  exact ⟨n+1,by simp only [qr];exact zx (xf prog n) n n _ _ _ (by omega) h⟩
theorem qnx {ls:List Nat} {ks:List Key} {x:AC}:xw prog (.loop ls ks x) st=match xw prog x (yW ls ks st)with
 |some (.normal,st')=>xw prog (.loop ls ks x) st'
 |r=>r:=by
 apply xE
 intro r
 rw [zj]
 constructor
 ·rintro ⟨n,h⟩
  cases n with
  |zero=>simp [qr]at h
  |succ n=>
   rw [qr]at h
   cases he:qr (za prog (n+1)) n x (yW ls ks st)with
   |none=>rw [he]at h;cases h
   |some s=>
    rw [he]at h
    have hx:xw prog x (yW ls ks st)=some s:=zj.2 ⟨n+1,zx (fun _ _ _ h=>h) n (n+1) _ _ _ (by omega) he⟩
    rw [hx]
    obtain ⟨e,s⟩:=s
    cases e
    ·exact zj.2 ⟨n+1,zx (fun _ _ _ h=>h) n (n+1) _ _ _ (by omega) h⟩
    ·exact h
    ·exact h
 ·intro h
  cases he:xw prog x (yW ls ks st)with
  |none=>rw [he]at h;cases h
  |some s=>
   rw [he]at h
   obtain ⟨n,hn⟩:=zj.1 he
   obtain ⟨e,s⟩:=s
   cases e
   ·obtain ⟨m,hm⟩:=zj.1 h
    refine ⟨max n m+1, ?_⟩
    rw [qr]
    rw [zx (ka prog (by omega)) n (max n m) _ _ _ (by omega) hn]
    exact zx (ka prog (by omega)) m (max n m) _ _ _ (by omega) hm
   all_goals
    refine ⟨n+1, ?_⟩
    rw [qr]
    rw [zx (ka prog (by omega)) n n _ _ _ (by omega) hn]
    exact h
theorem qdr {f:Nat} {args:List V}:cw prog f args=match prog f with
 |some (.prim g)=>g args
 |some (.fn af)=>
  if args.length=af.nargs then
   match xw prog af.body {σ:=yt 0 (qZ 0 args).1,T:=(qZ 0 args).2} with
   |some (.normal,st)|some (.ret,st)=>yR af (qZ 0 args).1 st
   |_=>none
  else none
 |none=>none:=by
 apply xE
 intro r
 rw [QM]
 constructor
 ·rintro ⟨n,h⟩
  cases n with
  |zero=>simp [za]at h
  |succ n=>
   rw [za]at h
   split at h
   ·rename_i hp;rw [hp];exact h
   ·rename_i af hp
    rw [hp]
    split at h
    case isFalse=>cases h
    rename_i hlen
    show (if args.length=af.nargs then _ else _)=_
    rw [if_pos hlen]
    cases he:qr (za prog n) n af.body {σ:=yt 0 (qZ 0 args).1,T:=(qZ 0 args).2} with
    |none=>rw [he]at h;cases h
    |some s=>
     rw [he]at h
     rw [zj.2 ⟨n,he⟩];exact h
   ·cases h
 ·intro h
  split at h
  ·rename_i hp;exact ⟨1,by rw [za,hp];exact h⟩
  ·rename_i af hp
   split at h
   case isFalse=>cases h
   rename_i hlen
   cases he:xw prog af.body {σ:=yt 0 (qZ 0 args).1,T:=(qZ 0 args).2} with
   |none=>rw [he]at h;cases h
   |some s=>
    obtain ⟨n,hn⟩:=zj.1 he
    refine ⟨n+1, ?_⟩
    rw [za,hp]
    simp only [if_pos hlen]
    rw [he]at h
    rw [hn];exact h
  ·cases h
end
end Go.Vm
namespace Go.Vm
def I(n:Int):V:= .v (.int .i64 n)
def U8(n:Int):V:= .v (.int .u8 n)
def U32(n:Int):V:= .v (.int .u32 n)
def B(b:Bool):V:= .v (.bool b)
def S(l:List UInt8):V:= .v (.string ⟨l.toArray⟩)
def Fc(g:Nat):V:= .f (.func g) [] []
def w64(n:Int):Int:=IntKind.i64.wrap n
theorem zA {n:Int} (h1: -9223372036854775808≤n) (h2:n < 9223372036854775808):w64 n=n:=by
 have h: ∀ m:Int,m=n % 18446744073709551616→(if (true&&decide (m ≥ 9223372036854775808))=true then m - 18446744073709551616 else m)=n:=by
  intro m hm
  simp only [Bool.true_and,decide_eq_true_eq]
  split<;>omega
 exact h _ rfl
def xg(r:Option (AX × St)) (k:St→Option (AX × St)):Option (AX × St):=
 match r with
 |some (.normal,st)=>k st
 |r=>r
def xh {α:Type} (r:Option St) (k:St→Option α):Option α:=
 match r with
 |some st=>k st
 |none=>none
def qo {α:Type} (r:Option V) (k:V→Option α):Option α:=
 match r with
 |some y=>k y
 |none=>none
def kK {α:Type} (r:Option Mem) (k:Mem→Option α):Option α:=
 match r with
 |some y=>k y
 |none=>none
def zG {α:Type} (r:Option (List V)) (k:List V→Option α):Option α:=
 match r with
 |some y=>k y
 |none=>none
def KI {α:Type} (r:Option V) (x y:α) (z:α):α:=
 match r with
 |some (.v (.bool true))=>x
 |some (.v (.bool false))=>y
 |_=>z
def jw(id:Nat) (r:Option (AX × St)):Option (AX × St):=
 match r with
 |some (.exit id',st')=>if id'=id then some (.normal,st')else some (.exit id',st')
 |r=>r
def ko {α:Type} (r:Option (AX × St)) (k:St→Option α):Option α:=
 match r with
 |some (.normal,st)|some (.ret,st)=>k st
 |_=>none
@[congr] theorem qxH {r r':Option (AX × St)} {k:St→Option (AX × St)} (h:r=r'):xg r k=xg r' k:=by rw [h]
@[congr] theorem qxT {α:Type} {r r':Option St} {k:St→Option α} (h:r=r'):xh r k=xh r' k:=by rw [h]
@[congr] theorem qxX {α:Type} {r r':Option V} {k:V→Option α} (h:r=r'):qo r k=qo r' k:=by rw [h]
@[congr] theorem qxE {α:Type} {r r':Option Mem} {k:Mem→Option α} (h:r=r'):kK r k=kK r' k:=by rw [h]
@[congr] theorem qxB {α:Type} {r r':Option (List V)} {k:List V→Option α} (h:r=r'):zG r k=zG r' k:=by rw [h]
@[congr] theorem qzT {α:Type} {r r':Option V} {x y z:α} (h:r=r'):KI r x y z=KI r' x y z:=by rw [h]
@[congr] theorem qBu {α:Type} {r r':Option (AX × St)} {k:St→Option α} (h:r=r'):ko r k=ko r' k:=by rw [h]
section
variable {α:Type} {k:St→Option (AX × St)} {st:St} {id id':Nat}
@[go_sem] theorem qxL:xg (some (.normal,st)) k=k st:=(rfl)
@[go_sem] theorem qxM:xg (some (.ret,st)) k=some (.ret,st):=(rfl)
@[go_sem] theorem qxI:xg (some (.exit id,st)) k=some (.exit id,st):=(rfl)
@[go_sem] theorem qxK:xg none k=none:=(rfl)
@[go_sem] theorem qxJ {p:Prop} [Decidable p] {a b:Option (AX × St)}:xg (if p then a else b) k=if p then xg a k else xg b k:=by split<;>rfl
@[go_sem] theorem qxW {k:St→Option α}:xh (some st) k=k st:=(rfl)
@[go_sem] theorem qxV {k:St→Option α}:xh none k=none:=(rfl)
@[go_sem] theorem qxU {k:St→Option α} {p:Prop} [Decidable p] {a b:Option St}:xh (if p then a else b) k=if p then xh a k else xh b k:=by split<;>rfl
@[go_sem] theorem qx0 {x:V} {k:V→Option α}:qo (some x) k=k x:=(rfl)
@[go_sem] theorem qxZ {k:V→Option α}:qo none k=none:=(rfl)
@[go_sem] theorem qxY {k:V→Option α} {p:Prop} [Decidable p] {a b:Option V}:qo (if p then a else b) k=if p then qo a k else qo b k:=by split<;>rfl
@[go_sem] theorem qxG {x:Mem} {k:Mem→Option α}:kK (some x) k=k x:=(rfl)
@[go_sem] theorem qxF {k:Mem→Option α}:kK none k=none:=(rfl)
@[go_sem] theorem qxD {x:List V} {k:List V→Option α}:zG (some x) k=k x:=(rfl)
@[go_sem] theorem qxC {k:List V→Option α}:zG none k=none:=(rfl)
@[go_sem] theorem qzS {b:Bool} {x y z:α}:KI (some (B b)) x y z=if b=true then x else y:=by cases b<;>rfl
@[go_sem] theorem qGF:jw id (some (.exit id',st))=if id'=id then some (.normal,st)else some (.exit id',st):=(rfl)
@[go_sem] theorem qGI:jw id (some (.normal,st))=some (.normal,st):=(rfl)
@[go_sem] theorem qGJ:jw id (some (.ret,st))=some (.ret,st):=(rfl)
@[go_sem] theorem qGH:jw id none=none:=(rfl)
@[go_sem] theorem qGG {p:Prop} [Decidable p] {a b:Option (AX × St)}:jw id (if p then a else b)=if p then jw id a else jw id b:=by split<;>rfl
@[go_sem] theorem qBx {k:St→Option α}:ko (some (.normal,st)) k=k st:=(rfl)
@[go_sem] theorem qBy {k:St→Option α}:ko (some (.ret,st)) k=k st:=(rfl)
@[go_sem] theorem qBw {k:St→Option α}:ko none k=none:=(rfl)
@[go_sem] theorem qBv {k:St→Option α} {p:Prop} [Decidable p] {a b:Option (AX × St)}:ko (if p then a else b) k=if p then ko a k else ko b k:=by split<;>rfl
end
noncomputable def cr(prog:Nat→Option AE) (f:Nat) (xs:List V):Option V:=(cw prog f xs).map Prod.fst
section
variable {prog:Nat→Option AE} {st:St}
theorem qS {f:Nat} {af:AF} {args:List V} (h:prog f=some (.fn af)) (hl:args.length=af.nargs):
 cr prog f args=ko (xw prog af.body {σ:=yt 0 (qZ 0 args).1,T:=(qZ 0 args).2}) fun st=>
  (xr st.σ st.T af.res).map fun r=>(qu 30 r.2 (xI r.1)).1:=by
 unfold cr
 rw [qdr,h]
 simp only [if_pos hl]
 cases he:xw prog af.body {σ:=yt 0 (qZ 0 args).1,T:=(qZ 0 args).2} with
 |none=>rfl
 |some s=>
  obtain ⟨e,s⟩:=s
  have hf:(yR af (qZ 0 args).1 s).map Prod.fst=(xr s.σ s.T af.res).map fun r=>(qu 30 r.2 (xI r.1)).1:=by
   unfold yR
   cases xr s.σ s.T af.res<;>rfl
  cases e
  ·exact hf
  ·rfl
  ·exact hf
theorem jp {f:Nat} {af:AF} {args:List V} (h:prog f=some (.fn af)) (hl:args.length=af.nargs):
 cw prog f args=ko (xw prog af.body {σ:=yt 0 (qZ 0 args).1,T:=(qZ 0 args).2}) fun st=>yR af (qZ 0 args).1 st:=by
 rw [qdr,h]
 simp only [if_pos hl]
 cases he:xw prog af.body {σ:=yt 0 (qZ 0 args).1,T:=(qZ 0 args).2} with
 |none=>rfl
 |some s=>obtain ⟨e,s⟩:=s;cases e<;>rfl
@[go_sem] theorem qJv:xw prog .skip st=some (.normal,st):=qnE
@[go_sem] theorem qJt:xw prog .ret st=some (.ret,st):=qnC
@[go_sem] theorem qJn {id:Nat}:xw prog (.exit id) st=some (.exit id,st):=qnv
@[go_sem] theorem qJs {is:List AI}:xw prog (.reg is) st=xh (yf (cw prog) is st) fun st=>some (.normal,st):=by
 rw [qnB];cases yf (cw prog) is st<;>rfl
@[go_sem] theorem qJm {plan:List Dp} {is:List AI}:xw prog (.dreg plan is) st=xh (zq (cw prog) plan is (yL (zB plan is) st)) fun st=>if ju st.T=true then some (.normal,st)else none:=by
 rw [qnu];cases zq (cw prog) plan is (yL (zB plan is) st)<;>rfl
@[go_sem] theorem qJu {x y:AC}:xw prog (.seq x y) st=xg (xw prog x st) fun st'=>xw prog y st':=by
 rw [qnD]
 cases xw prog x st with
 |none=>rfl
 |some s=>obtain ⟨e,s⟩:=s;cases e<;>rfl
@[go_sem] theorem qJl {a:AO} {x y:AC}:xw prog (.cond a x y) st=KI (ev st.σ a) (xw prog x st) (xw prog y st) none:=by
 rw [qnt];rfl
@[go_sem] theorem qJk {id:Nat} {x:AC}:xw prog (.block id x) st=jw id (xw prog x st):=by
 rw [qns]
 cases xw prog x st with
 |none=>rfl
 |some s=>obtain ⟨e,s⟩:=s;cases e<;>rfl
@[go_sem] theorem qJp {ls:List Nat} {ks:List Key} {x:AC}:xw prog (.nam ls ks x) st=xw prog x (yW ls ks st):=qny
@[go_sem] theorem qJq {os:List (Nat × Nat × Option Nat)} {x:AC}:xw prog (.opd os x) st=xw prog x (jv os st):=qnz
@[go_sem] theorem qJr {os:List (Nat × Key × Nat)} {x:AC}:xw prog (.opn os x) st=xw prog x (kw os st):=qnA
@[go_sem] theorem qJo {ls:List Nat} {x:AC} {σ:Sl} {T:Mem}:xw prog (.keep ls x) ⟨σ,T⟩=xw prog x ⟨zk σ ls,T⟩:=qnw
theorem qnq {ls:List Nat} {ks:List Key} {x:AC}:xw prog (.loop ls ks x) st=xg (xw prog x (yW ls ks st)) fun st'=>xw prog (.loop ls ks x) st':=by
 rw [qnx]
 cases xw prog x (yW ls ks st)with
 |none=>rfl
 |some s=>obtain ⟨e,s⟩:=s;cases e<;>rfl
variable {σ:Sl} {T:Mem} {call:qQ}
@[go_sem] theorem qwX:yf call [] st=some st:=(rfl)
@[go_sem] theorem qwW {i:AI} {is:List AI}:yf call (i::is) st=xh (qk call st i) fun st=>yf call is st:=by
 simp only [yf];cases qk call st i<;>rfl
def gdK(b:Option V) (want:Bool) (x y:Option St):Option St:=
 match b with
 |some (.v (.bool b))=>if b=want then x else y
 |some (.v _)=>y
 |_=>none
@[congr] theorem qCu {b b':Option V} {w:Bool} {x y:Option St} (h:b=b'):gdK b w x y=gdK b' w x y:=by rw [h]
@[go_sem] theorem qCt {b w:Bool} {x y:Option St}:gdK (some (B b)) w x y=if b=w then x else y:=(rfl)
@[go_sem] theorem qCv {w:Bool} {x y:Option St}:gdK (some zN) w x y=y:=(rfl)
@[go_sem] theorem qB3 {j:Nat} {w:Bool} {d:Nat} {i:AI}:qk call ⟨σ,T⟩ (.gd j w (some d) i)=gdK (qB σ j) w (qh call ⟨σ,T⟩ i) (some ⟨(d,zN)::σ,T⟩):=by
 simp only [qk,gdK]
 cases qB σ j with
 |none=>rfl
 |some x=>cases x<;>first|rfl|(rename_i v;cases v<;>rfl)
@[go_sem] theorem qB4 {j:Nat} {w:Bool} {i:AI}:qk call ⟨σ,T⟩ (.gd j w none i)=gdK (qB σ j) w (qh call ⟨σ,T⟩ i) (some ⟨σ,T⟩):=by
 simp only [qk,gdK]
 cases qB σ j with
 |none=>rfl
 |some x=>cases x<;>first|rfl|(rename_i v;cases v<;>rfl)
@[go_sem] theorem qBM {n:Nat}:ev σ (.t n)=qB σ n:=(rfl)
@[go_sem] theorem qBL {x:V}:ev σ (.c x)=some x:=(rfl)
@[go_sem] theorem qBH:evL σ []=some []:=(rfl)
@[go_sem] theorem qBG {x:AO} {xs:List AO}:evL σ (x::xs)=qo (ev σ x) fun y=>zG (evL σ xs) fun ys=>some (y::ys):=by
 simp only [evL];cases ev σ x<;>cases evL σ xs<;>rfl
@[go_sem] theorem qBI:evO σ none=some none:=(rfl)
@[go_sem] theorem qBJ {x:AO}:evO σ (some x)=qo (ev σ x) fun y=>some (some y):=by
 simp only [evO];cases ev σ x<;>rfl
attribute [go_sem] qB qq qw qfV qG qC yD kq QS qaH km YE yL
def pkS(o:Option V) (t:Nat) (r:Sl):Sl:=match o with|some x=>(t,x)::r|none=>r
@[congr] theorem qGY {o o':Option V} {t:Nat} {r:Sl} (h:o=o'):pkS o t r=pkS o' t r:=by rw [h]
@[go_sem] theorem qG0 {x:V} {t:Nat} {r:Sl}:pkS (some x) t r=(t,x)::r:=(rfl)
@[go_sem] theorem qGZ {t:Nat} {r:Sl}:pkS none t r=r:=(rfl)
@[go_sem] theorem qGV {σ:Sl}:zk σ []=[]:=(rfl)
@[go_sem] theorem qlv: ∀ (ls:List Nat),zk [] ls=[]
 |[]=>rfl
 |t::r=>by simp only [zk,qB,qlv r]
@[go_sem] theorem qGU {q:Nat × V} {σ:Sl} {t:Nat} {r:List Nat}:zk (q::σ) (t::r)=pkS (qB (q::σ) t) t (zk (q::σ) r):=by
 simp only [zk,pkS]
 cases qB (q::σ) t<;>rfl
def pkT(o:Option Ob) (k:Key) (a b:Mem):Mem:=match o with|some x=>(k,x)::a|none=>b
@[congr] theorem qG1 {o o':Option Ob} {k:Key} {a b:Mem} (h:o=o'):pkT o k a b=pkT o' k a b:=by rw [h]
@[go_sem] theorem qG3 {x:Ob} {k:Key} {a b:Mem}:pkT (some x) k a b=(k,x)::a:=(rfl)
@[go_sem] theorem qG2 {k:Key} {a b:Mem}:pkT none k a b=b:=(rfl)
@[go_sem] theorem qGX {T:Mem}:yb T []=[]:=by cases T<;>rfl
@[go_sem] theorem qlw: ∀ (ks:List Key),yb [] ks=[]
 |[]=>rfl
 |k::r=>by simp only [yb,qq,qlw r]
@[go_sem] theorem qGW {q:Key × Ob} {T:Mem} {k:Key} {r:List Key}:yb (q::T) (k::r)=pkT (qq (q::T) k) k (yb (qw (q::T) k) r) (yb (q::T) r):=by
 simp only [yb,pkT]
 cases qq (q::T) k<;>rfl
@[go_sem] theorem qGT {T:Mem}:yG T []=[]:=(rfl)
@[go_sem] theorem qlu: ∀ (ks:List Key),yG [] ks=[]
 |[]=>rfl
 |k::r=>by simp only [yG,qq,qlu r]
@[go_sem] theorem qGS {q:Key × Ob} {T:Mem} {k:Key} {r:List Key}:yG (q::T) (k::r)=pkT (qq (q::T) k) k (yG (q::T) r) (yG (q::T) r):=by
 simp only [yG,pkT]
 cases qq (q::T) k<;>rfl
def wT(d:Nat) (T:Mem):Mem:=kq d (km d (YE (QS d T) T))
@[go_sem] theorem qbK {d:Nat}:q9 d ⟨σ,T⟩=⟨yD d σ,wT d T⟩:=(rfl)
def y7 {α:Type} (c:Bool) (x:Option α):Option α:=if c=true then x else none
@[congr] theorem qCw {α:Type} {b b':Bool} {x:Option α} (h:b=b'):y7 b x=y7 b' x:=by rw [h]
@[go_sem] theorem qCy {α:Type} {x:Option α}:y7 true x=x:=(rfl)
@[go_sem] theorem qCx {α:Type} {x:Option α}:y7 false x=none:=(rfl)
def zt {α:Type} (c:Bool) (x y:α):α:=if c=true then x else y
@[congr] theorem qGP {α:Type} {b b':Bool} {x y:α} (h:b=b'):zt b x y=zt b' x y:=by rw [h]
@[go_sem] theorem qGR {α:Type} {x y:α}:zt true x y=x:=(rfl)
@[go_sem] theorem qGQ {α:Type} {x y:α}:zt false x y=y:=(rfl)
section vals
variable {n:Int} {b:Bool} {l:List UInt8} {g:Nat}
attribute [go_sem] qX yM clB yz qy z8 qV qW qT zb zg y9 ke kJ qB
@[go_sem] theorem qyr {d:Nat} {x:V} {st:St}:y1 (some d) x st=jm d x st:=(rfl)
@[go_sem] theorem qyq {x:V} {st:St}:y1 none x st=st:=(rfl)
@[go_sem] theorem qBS {x:V}:fzV true x=qV false x:=(rfl)
@[go_sem] theorem qBR {x:V}:fzV false x=x:=(rfl)
section
variable {cs xs ys:List V} {τ:Bool} {i o e:Nat} {x:V} {k:Key} {fn:Fn}
@[go_sem] theorem qyG:(V.a cs).cells=cs:=(rfl)
@[go_sem] theorem qyU:(V.p k i o).cells=[V.p k i o]:=(rfl)
@[go_sem] theorem qyW:(V.s k i o).cells=[V.s k i o]:=(rfl)
@[go_sem] theorem qyV:(V.q τ xs i o).cells=[V.q τ xs i o]:=(rfl)
@[go_sem] theorem qyJ:(V.i τ xs).cells=[V.i τ xs]:=(rfl)
@[go_sem] theorem qyS:(V.o e xs).cells=[V.o e xs]:=(rfl)
@[go_sem] theorem qyR:(V.n e).cells=[V.n e]:=(rfl)
@[go_sem] theorem qyH:(V.b x).cells=[V.b x]:=(rfl)
@[go_sem] theorem qyI:(V.f fn xs ys).cells=[V.f fn xs ys]:=(rfl)
@[go_sem] theorem qyX:(V.t xs).cells=[V.t xs]:=(rfl)
@[go_sem] theorem qCK:(V.a cs).isA=true:=(rfl)
@[go_sem] theorem qCL:(V.i τ xs).isA=false:=(rfl)
@[go_sem] theorem qCU:(V.o e xs).isA=false:=(rfl)
@[go_sem] theorem qCT:(V.n e).isA=false:=(rfl)
@[go_sem] theorem qCV:(V.s k i o).isA=false:=(rfl)
@[go_sem] theorem qAi:(V.a cs).dead=false:=(rfl)
@[go_sem] theorem qAo:(V.p k i o).dead=false:=(rfl)
@[go_sem] theorem qAq:(V.s k i o).dead=false:=(rfl)
@[go_sem] theorem qAp:(V.q τ xs i o).dead=false:=(rfl)
@[go_sem] theorem qAl:(V.i τ xs).dead=false:=(rfl)
@[go_sem] theorem qAn:(V.o e xs).dead=false:=(rfl)
@[go_sem] theorem qAm:(V.n e).dead=false:=(rfl)
@[go_sem] theorem qAj:(V.b x).dead=false:=(rfl)
@[go_sem] theorem qAk:(V.f fn xs ys).dead=false:=(rfl)
@[go_sem] theorem qzh:clE (V.a cs)=yz cs:=(rfl)
@[go_sem] theorem qzk:clE (V.i τ xs)=true:=(rfl)
@[go_sem] theorem qzm:clE (V.o e xs)=true:=(rfl)
@[go_sem] theorem qzl:clE (V.n e)=true:=(rfl)
@[go_sem] theorem qzo:clE (V.q τ xs i o)=true:=(rfl)
@[go_sem] theorem qzi:clE (V.b x)=true:=(rfl)
@[go_sem] theorem qzp:clE (V.s k i o)=false:=(rfl)
@[go_sem] theorem qzn:clE (V.p k i o)=false:=(rfl)
@[go_sem] theorem qzj:clE (V.f fn xs ys)=(yz xs&&yz ys):=(rfl)
variable {d j:Nat}
@[go_sem] theorem qGv:zd d j (.o e xs)=(.s (d,j) 0 xs.length,j+1,[((d,j),e,xs)]):=(rfl)
@[go_sem] theorem qGr:zd d j (.b x)=(.p (d,j) 0 0,j+1,[((d,j),x.cells.length,[x])]):=(rfl)
@[go_sem] theorem qGs:zd d j (.i τ xs)=(.i τ xs,j,[]):=(rfl)
@[go_sem] theorem qGw:zd d j (.q τ xs i o)=(.q τ xs i o,j,[]):=(rfl)
@[go_sem] theorem qGu:zd d j (.n e)=(.n e,j,[]):=(rfl)
@[go_sem] theorem qGn:zd d j (I n)=(I n,j,[]):=(rfl)
@[go_sem] theorem qGl:zd d j (B b)=(B b,j,[]):=(rfl)
@[go_sem] theorem qGo:zd d j (S l)=(S l,j,[]):=(rfl)
@[go_sem] theorem qGq:zd d j (U8 n)=(U8 n,j,[]):=(rfl)
@[go_sem] theorem qGp:zd d j (U32 n)=(U32 n,j,[]):=(rfl)
@[go_sem] theorem qGm:zd d j (Fc g)=(Fc g,j,[]):=(rfl)
@[go_sem] theorem qF0:qH d j (.a cs)=(.a (zg d j cs).1,(zg d j cs).2):=(rfl)
@[go_sem] theorem qF2:qH d j (.f fn xs ys)=(.f fn (zg d j xs).1 (zg d (zg d j xs).2.1 ys).1,(zg d (zg d j xs).2.1 ys).2.1,(zg d j xs).2.2++(zg d (zg d j xs).2.1 ys).2.2):=(rfl)
@[go_sem] theorem qF5:qH d j (.o e xs)=(.s (d,j) 0 xs.length,j+1,[((d,j),e,xs)]):=(rfl)
@[go_sem] theorem qF1:qH d j (.b x)=(.p (d,j) 0 0,j+1,[((d,j),x.cells.length,[x])]):=(rfl)
@[go_sem] theorem qF3:qH d j (.i τ xs)=(.i τ xs,j,[]):=(rfl)
@[go_sem] theorem qF6:qH d j (.q τ xs i o)=(.q τ xs i o,j,[]):=(rfl)
@[go_sem] theorem qF4:qH d j (.n e)=(.n e,j,[]):=(rfl)
@[go_sem] theorem qFW:qH d j (I n)=(I n,j,[]):=(rfl)
@[go_sem] theorem qFV:qH d j (B b)=(B b,j,[]):=(rfl)
@[go_sem] theorem qFX:qH d j (S l)=(S l,j,[]):=(rfl)
@[go_sem] theorem qFZ:qH d j (U8 n)=(U8 n,j,[]):=(rfl)
@[go_sem] theorem qFY:qH d j (U32 n)=(U32 n,j,[]):=(rfl)
@[go_sem] theorem qGk:zD d (.t xs)=(.t (y9 d 0 xs).1,(y9 d 0 xs).2.2):=(rfl)
@[go_sem] theorem qGd:zD d (.a cs)=(.a (zg d 0 cs).1,(zg d 0 cs).2.2):=(rfl)
@[go_sem] theorem qGf:zD d (.f fn xs ys)=((qH d 0 (.f fn xs ys)).1,(qH d 0 (.f fn xs ys)).2.2):=(rfl)
@[go_sem] theorem qGi:zD d (.o e xs)=(.s (d,0) 0 xs.length,[((d,0),e,xs)]):=(rfl)
@[go_sem] theorem qGe:zD d (.b x)=(.p (d,0) 0 0,[((d,0),x.cells.length,[x])]):=(rfl)
@[go_sem] theorem qGg:zD d (.i τ xs)=(.i τ xs,[]):=(rfl)
@[go_sem] theorem qGj:zD d (.q τ xs i o)=(.q τ xs i o,[]):=(rfl)
@[go_sem] theorem qGh:zD d (.n e)=(.n e,[]):=(rfl)
@[go_sem] theorem qF9:zD d (I n)=(I n,[]):=(rfl)
@[go_sem] theorem qF7:zD d (B b)=(B b,[]):=(rfl)
@[go_sem] theorem qGa:zD d (S l)=(S l,[]):=(rfl)
@[go_sem] theorem qGc:zD d (U8 n)=(U8 n,[]):=(rfl)
@[go_sem] theorem qGb:zD d (U32 n)=(U32 n,[]):=(rfl)
@[go_sem] theorem qF8:zD d (Fc g)=(Fc g,[]):=(rfl)
end
@[go_sem] theorem qDd {d:Nat}:qG d (I n)=I n:=(rfl)
@[go_sem] theorem qDb {d:Nat}:qG d (B b)=B b:=(rfl)
@[go_sem] theorem qDe {d:Nat}:qG d (S l)=S l:=(rfl)
@[go_sem] theorem qDg {d:Nat}:qG d (U8 n)=U8 n:=(rfl)
@[go_sem] theorem qDf {d:Nat}:qG d (U32 n)=U32 n:=(rfl)
@[go_sem] theorem qDc {d:Nat}:qG d (Fc g)=Fc g:=(rfl)
@[go_sem] theorem qDi {d:Nat}:qG d zN=zN:=(rfl)
@[go_sem] theorem qyC:(I n).cells=[I n]:=(rfl)
@[go_sem] theorem qyA:(B b).cells=[B b]:=(rfl)
@[go_sem] theorem qyD:(S l).cells=[S l]:=(rfl)
@[go_sem] theorem qyF:(U8 n).cells=[U8 n]:=(rfl)
@[go_sem] theorem qyE:(U32 n).cells=[U32 n]:=(rfl)
@[go_sem] theorem qyB:(Fc g).cells=[Fc g]:=(rfl)
@[go_sem] theorem qCI:(I n).isA=false:=(rfl)
@[go_sem] theorem qCH:(B b).isA=false:=(rfl)
@[go_sem] theorem qCJ:(S l).isA=false:=(rfl)
@[go_sem] theorem qAf:(I n).dead=false:=(rfl)
@[go_sem] theorem qAe:(B b).dead=false:=(rfl)
@[go_sem] theorem qAg:(S l).dead=false:=(rfl)
@[go_sem] theorem qAh:(U8 n).dead=false:=(rfl)
@[go_sem] theorem qFF:(I n).one=true:=(rfl)
@[go_sem] theorem qFD:(B b).one=true:=(rfl)
@[go_sem] theorem qFG:(S l).one=true:=(rfl)
@[go_sem] theorem qFI:(U8 n).one=true:=(rfl)
@[go_sem] theorem qFH:(U32 n).one=true:=(rfl)
@[go_sem] theorem qFE:(Fc g).one=true:=(rfl)
@[go_sem] theorem qFP {k:Key} {i o:Nat}:(V.p k i o).one=true:=(rfl)
@[go_sem] theorem qFR {k:Key} {i o:Nat}:(V.s k i o).one=true:=(rfl)
@[go_sem] theorem qFQ {τ:Bool} {xs:List V} {i o:Nat}:(V.q τ xs i o).one=true:=(rfl)
@[go_sem] theorem qFL {τ:Bool} {xs:List V}:(V.i τ xs).one=true:=(rfl)
@[go_sem] theorem qFO {e:Nat} {xs:List V}:(V.o e xs).one=true:=(rfl)
@[go_sem] theorem qFN {e:Nat}:(V.n e).one=true:=(rfl)
@[go_sem] theorem qFJ {x:V}:(V.b x).one=true:=(rfl)
@[go_sem] theorem qFK {fn:Fn} {xs ys:List V}:(V.f fn xs ys).one=true:=(rfl)
@[go_sem] theorem qJy:qX (I n)=true:=(rfl)
@[go_sem] theorem qJw:qX (B b)=true:=(rfl)
@[go_sem] theorem qJz:qX (S l)=true:=(rfl)
@[go_sem] theorem qJB:qX (U8 n)=true:=(rfl)
@[go_sem] theorem qJA:qX (U32 n)=true:=(rfl)
@[go_sem] theorem qJx:qX (Fc g)=true:=(rfl)
@[go_sem] theorem qy9:clB (I n)=true:=(rfl)
@[go_sem] theorem qy7:clB (B b)=true:=(rfl)
@[go_sem] theorem qza:clB (S l)=true:=(rfl)
@[go_sem] theorem qzc:clB (U8 n)=true:=(rfl)
@[go_sem] theorem qzb:clB (U32 n)=true:=(rfl)
@[go_sem] theorem qy8:clB (Fc g)=true:=(rfl)
@[go_sem] theorem qze:clE (I n)=true:=(rfl)
@[go_sem] theorem qzd:clE (B b)=true:=(rfl)
@[go_sem] theorem qzf:clE (S l)=true:=(rfl)
@[go_sem] theorem qzg:clE (U8 n)=true:=(rfl)
@[go_sem] theorem qhC {τ:Bool}:qV τ (I n)=I n:=(rfl)
@[go_sem] theorem qz4 {τ:Bool}:qV τ (B b)=B b:=(rfl)
@[go_sem] theorem qhD {τ:Bool}:qV τ (S l)=S l:=(rfl)
@[go_sem] theorem qz7 {τ:Bool}:qV τ (U8 n)=U8 n:=(rfl)
@[go_sem] theorem qz6 {τ:Bool}:qV τ (U32 n)=U32 n:=(rfl)
@[go_sem] theorem qz5 {τ:Bool}:qV τ (Fc g)=Fc g:=(rfl)
@[go_sem] theorem qen:qT (I n)=true:=(rfl)
@[go_sem] theorem qFu:qT (B b)=true:=(rfl)
@[go_sem] theorem qeo:qT (S l)=true:=(rfl)
@[go_sem] theorem qFx:qT (U8 n)=true:=(rfl)
@[go_sem] theorem qFw:qT (U32 n)=true:=(rfl)
@[go_sem] theorem qFv:qT (Fc g)=true:=(rfl)
@[go_sem] theorem qzw {m:Nat} {T:Mem}:qu (m+1) T (I n)=(I n,T):=(rfl)
@[go_sem] theorem qzu {m:Nat} {T:Mem}:qu (m+1) T (B b)=(B b,T):=(rfl)
@[go_sem] theorem qzx {m:Nat} {T:Mem}:qu (m+1) T (S l)=(S l,T):=(rfl)
@[go_sem] theorem qzz {m:Nat} {T:Mem}:qu (m+1) T (U8 n)=(U8 n,T):=(rfl)
@[go_sem] theorem qzy {m:Nat} {T:Mem}:qu (m+1) T (U32 n)=(U32 n,T):=(rfl)
@[go_sem] theorem qzv {m:Nat} {T:Mem}:qu (m+2) T (Fc g)=(Fc g,T):=(rfl)
@[go_sem] theorem qzD {m:Nat} {T:Mem} {τ:Bool} {xs:List V}:qu (m+1) T (.i τ xs)=(.i τ xs,T):=(rfl)
@[go_sem] theorem qzG {m:Nat} {T:Mem} {e:Nat} {xs:List V}:qu (m+1) T (.o e xs)=(.o e xs,T):=(rfl)
@[go_sem] theorem qzI {m:Nat} {T:Mem} {τ:Bool} {xs:List V} {i o:Nat}:qu (m+1) T (.q τ xs i o)=(.q τ xs i o,T):=(rfl)
@[go_sem] theorem qzB {m:Nat} {T:Mem} {x:V}:qu (m+1) T (.b x)=(.b x,T):=(rfl)
@[go_sem] theorem qzF {m:Nat} {T:Mem} {e:Nat}:qu (m+1) T (.n e)=(.o e [],T):=(rfl)
@[go_sem] theorem qzA {m:Nat} {T:Mem} {cs:List V}:qu (m+1) T (.a cs)=(.a (qx (qu m) T cs).1,(qx (qu m) T cs).2):=(rfl)
@[go_sem] theorem qzK {m:Nat} {T:Mem} {cs:List V}:qu (m+1) T (.t cs)=(.t (qx (qu m) T cs).1,(qx (qu m) T cs).2):=(rfl)
@[go_sem] theorem qzC {m:Nat} {T:Mem} {fn:Fn} {xs ys:List V}:qu (m+1) T (.f fn xs ys)=(.f fn (qx (qu m) T xs).1 (qx (qu m) (qx (qu m) T xs).2 ys).1,(qx (qu m) (qx (qu m) T xs).2 ys).2):=(rfl)
def esV(m:Nat) (T:Mem) (xs:List V):List V × Mem:=zt (qy xs) (xs,T) (qx (qu m) T xs)
def sK(m:Nat) (T':Mem) (lo len:Nat) (ob:Option Ob) (T:Mem):V × Mem:=
 match ob with
 |none=>(.d,T)
 |some ob=>if lo+len≤ob.2.length then
  (if lo=0 then (.o ob.1 (((esV m T' ob.2).1.drop lo).take len),(esV m T' ob.2).2)
  else (.o ob.1 (esV m T' ((ob.2.drop lo).take len)).1,(esV m T' ((ob.2.drop lo).take len)).2))else (.d,T)
@[go_sem] theorem qzJ {m:Nat} {T:Mem} {k:Key} {lo len:Nat}:qu (m+1) T (.s k lo len)=sK m (qw T k) lo len (qq T k) T:=by
 simp only [qu,sK,esV,zt];cases qq T k<;>rfl
@[go_sem] theorem qIo {m:Nat} {T T':Mem} {lo len e:Nat} {xs:List V}:sK m T' lo len (some (e,xs)) T=if lo+len≤xs.length then (if lo=0 then (.o e (((esV m T' xs).1.drop lo).take len),(esV m T' xs).2)else (.o e (esV m T' ((xs.drop lo).take len)).1,(esV m T' ((xs.drop lo).take len)).2))else (.d,T):=(rfl)
@[go_sem] theorem qIn {m:Nat} {T T':Mem} {lo len:Nat}:sK m T' lo len none T=(.d,T):=(rfl)
@[go_sem] theorem qBF {m:Nat} {T:Mem} {xs:List V}:esV m T xs=zt (qy xs) (xs,T) (qx (qu m) T xs):=(rfl)
def pK(m:Nat) (T':Mem) (ob:Option Ob) (T:Mem):V × Mem:=
 match ob with
 |some (_,[x])=>(.b ((esV m T' [x]).1.headD .d),(esV m T' [x]).2)
 |_=>(.d,T)
@[go_sem] theorem qzH {m:Nat} {T:Mem} {k:Key}:qu (m+1) T (.p k 0 0)=pK m (qw T k) (qq T k) T:=by
 simp only [qu,pK,esV,zt]
 cases qq T k with
 |none=>rfl
 |some ob=>obtain ⟨e,xs⟩:=ob;rcases xs with _|⟨x,_|⟨y,r⟩⟩<;>rfl
@[go_sem] theorem qGM {m:Nat} {T T':Mem} {e:Nat} {x:V}:pK m T' (some (e,[x])) T=(.b ((esV m T' [x]).1.headD .d),(esV m T' [x]).2):=(rfl)
@[go_sem] theorem qGL {m:Nat} {T T':Mem}:pK m T' none T=(.d,T):=(rfl)
attribute [go_sem] qx List.headD xP wT Jt
def qIh(T:Mem) (k:Key) (ob:Option Ob):Mem:=
 match ob with
 |none=>T
 |some ob=>zt (qy ob.2) (xq k ob (qw T k)) (qw T k)
end vals
@[go_sem] theorem qCi {d:Nat} {x:AO}:qk call ⟨σ,T⟩ (.mv d x)=qo (ev σ x) fun y=>some ⟨(d,y)::σ,T⟩:=by
 simp only [qk,qh];cases ev σ x<;>rfl
def YH {α:Type} (c:Option V) (x y:α) (z:α):α:=
 match c with
 |some (.v (.bool true))=>x
 |some (.v (.bool false))=>y
 |_=>z
@[congr] theorem qIs {α:Type} {c c':Option V} {x y z:α} (h:c=c'):YH c x y z=YH c' x y z:=by rw [h]
@[go_sem] theorem qIr {α:Type} {b:Bool} {x y z:α}:YH (some (B b)) x y z=if b=true then x else y:=by cases b<;>rfl
end
end Go.Vm
namespace Go.Vm
section
variable {prog:Nat→Option AE} {st:St} {σ:Sl} {T:Mem} {call:qQ}
@[go_sem] theorem qwA {d:Nat} {x:AO}:qh call ⟨σ,T⟩ (.mv d x)=qk call ⟨σ,T⟩ (.mv d x):=(rfl)
@[go_sem] theorem qwE {d:Nat} {x:AO} {y:AO} {z:AO}:qh call ⟨σ,T⟩ (.pick d x y z)=qk call ⟨σ,T⟩ (.pick d x y z):=(rfl)
@[go_sem] theorem qwC {d:Nat} {x:AO}:qh call ⟨σ,T⟩ (.new d x)=qk call ⟨σ,T⟩ (.new d x):=(rfl)
@[go_sem] theorem qwf {d:Nat} {v:V} {bs:List (Nat × Nat × AO)}:qh call ⟨σ,T⟩ (.build d v bs)=qk call ⟨σ,T⟩ (.build d v bs):=(rfl)
@[go_sem] theorem qwy {d:Nat} {e:Nat} {xs:List AO}:qh call ⟨σ,T⟩ (.mks d e xs)=qk call ⟨σ,T⟩ (.mks d e xs):=(rfl)
@[go_sem] theorem qww {d:Nat} {e:Nat} {v:V} {n:Nat} {x:AO} {y:AO}:qh call ⟨σ,T⟩ (.mk d e v n x y)=qk call ⟨σ,T⟩ (.mk d e v n x y):=(rfl)
@[go_sem] theorem qwq {d:Nat} {p:Bool} {n:Nat} {x:AO}:qh call ⟨σ,T⟩ (.ld d p n x)=qk call ⟨σ,T⟩ (.ld d p n x):=(rfl)
@[go_sem] theorem qwr {d:Nat} {p:Bool} {n:Nat} {x:AO}:qh call ⟨σ,T⟩ (.ldq d p n x)=qk call ⟨σ,T⟩ (.ldq d p n x):=(rfl)
@[go_sem] theorem qwD {d:Nat} {x:AO}:qh call ⟨σ,T⟩ (.nilc d x)=qk call ⟨σ,T⟩ (.nilc d x):=(rfl)
@[go_sem] theorem qwe {d:Nat} {op:BinOp} {x:AO} {y:AO}:qh call ⟨σ,T⟩ (.bin d op x y)=qk call ⟨σ,T⟩ (.bin d op x y):=(rfl)
@[go_sem] theorem qwi {d:Nat} {n:Nat} {p:Bool} {x:AO} {y:AO}:qh call ⟨σ,T⟩ (.eqs d n p x y)=qk call ⟨σ,T⟩ (.eqs d n p x y):=(rfl)
@[go_sem] theorem qwK {d:Nat} {uo:UnOp} {x:AO}:qh call ⟨σ,T⟩ (.un d uo x)=qk call ⟨σ,T⟩ (.un d uo x):=(rfl)
@[go_sem] theorem qwF {d:Nat} {e:Nat} {x:AO} {ox:Option AO} {oy:Option AO}:qh call ⟨σ,T⟩ (.sl d e x ox oy)=qk call ⟨σ,T⟩ (.sl d e x ox oy):=(rfl)
@[go_sem] theorem qwH {d:Nat} {x:AO} {ox:Option AO} {oy:Option AO}:qh call ⟨σ,T⟩ (.ssl d x ox oy)=qk call ⟨σ,T⟩ (.ssl d x ox oy):=(rfl)
@[go_sem] theorem qwG {d:Nat} {x:AO}:qh call ⟨σ,T⟩ (.slen d x)=qk call ⟨σ,T⟩ (.slen d x):=(rfl)
@[go_sem] theorem qwk {d:Nat} {x:AO} {n:Nat}:qh call ⟨σ,T⟩ (.fa d x n)=qk call ⟨σ,T⟩ (.fa d x n):=(rfl)
@[go_sem] theorem qwl {d:Nat} {p:Bool} {n:Nat} {x:AO} {m:Nat}:qh call ⟨σ,T⟩ (.fld d p n x m)=qk call ⟨σ,T⟩ (.fld d p n x m):=(rfl)
@[go_sem] theorem qwn {d:Nat} {e:Nat} {x:AO} {y:AO}:qh call ⟨σ,T⟩ (.ia d e x y)=qk call ⟨σ,T⟩ (.ia d e x y):=(rfl)
@[go_sem] theorem qwp {d:Nat} {x:AO} {y:AO}:qh call ⟨σ,T⟩ (.ix d x y)=qk call ⟨σ,T⟩ (.ix d x y):=(rfl)
@[go_sem] theorem qwj {d:Nat} {x:AO} {n:Nat}:qh call ⟨σ,T⟩ (.ext d x n)=qk call ⟨σ,T⟩ (.ext d x n):=(rfl)
@[go_sem] theorem qwm {d:Nat} {fn:Fn} {xs:List AO} {ys:List AO}:qh call ⟨σ,T⟩ (.fun d fn xs ys)=qk call ⟨σ,T⟩ (.fun d fn xs ys):=(rfl)
@[go_sem] theorem qwd {d:Nat} {e:Nat} {n:Nat} {x:AO} {y:AO}:qh call ⟨σ,T⟩ (.app d e n x y)=qk call ⟨σ,T⟩ (.app d e n x y):=(rfl)
@[go_sem] theorem qws {d:Nat} {x:AO}:qh call ⟨σ,T⟩ (.len d x)=qk call ⟨σ,T⟩ (.len d x):=(rfl)
@[go_sem] theorem qwB {d:Nat} {p:Bool} {xs:List AO}:qh call ⟨σ,T⟩ (.mx d p xs)=qk call ⟨σ,T⟩ (.mx d p xs):=(rfl)
@[go_sem] theorem qwo {d:Nat} {ik:IntKind} {x:AO}:qh call ⟨σ,T⟩ (.int d ik x)=qk call ⟨σ,T⟩ (.int d ik x):=(rfl)
@[go_sem] theorem qwJ {d:Nat} {x:AO}:qh call ⟨σ,T⟩ (.str d x)=qk call ⟨σ,T⟩ (.str d x):=(rfl)
@[go_sem] theorem qwg {d:Nat} {x:AO}:qh call ⟨σ,T⟩ (.byt d x)=qk call ⟨σ,T⟩ (.byt d x):=(rfl)
@[go_sem] theorem qwI {n:Nat} {x:AO} {y:AO}:qh call ⟨σ,T⟩ (.st n x y)=qk call ⟨σ,T⟩ (.st n x y):=(rfl)
@[go_sem] theorem qwh {o:Option Nat} {x:AO} {xs:List AO} {md:Md}:qh call ⟨σ,T⟩ (.call o x xs md)=qk call ⟨σ,T⟩ (.call o x xs md):=(rfl)
@[go_sem] theorem qCm {d:Nat} {c x y:AO}:qk call ⟨σ,T⟩ (.pick d c x y)=YH (ev σ c) (qo (ev σ x) fun y=>some ⟨(d,y)::σ,T⟩) (qo (ev σ y) fun y=>some ⟨(d,y)::σ,T⟩) none:=by
 simp only [qk,qh,YH]
 split
 ·rename_i h;rw [h];cases ev σ x<;>rfl
 ·rename_i h;rw [h];cases ev σ y<;>rfl
 ·rename_i h1 h2;split
  ·rename_i h;exact absurd h h1
  ·rename_i h;exact absurd h h2
  ·rfl
@[go_sem] theorem qCk {d:Nat} {x:AO}:qk call ⟨σ,T⟩ (.new d x)=qo (ev σ x) fun y=>y7 (z8 y.cells) (some ⟨(d,.p (d,0) 0 0)::yD d σ,((d,0),y.cells.length,[qG d y])::wT d T⟩):=by
 simp only [qk,qh];cases ev σ x<;>rfl
def qhl:List V→List (Nat × Nat × V)→Option (List V)
 |z,[]=>some z
 |z,(off,size,y)::r=>y7 (!y.dead&&decide (y.cells.length=size∧off+size≤z.length)) (qhl (z.take off++y.cells++z.drop (off+size)) r)
@[go_sem] theorem qyt {z:List V}:xV σ z []=some z:=(rfl)
@[go_sem] theorem qys {z:List V} {off size:Nat} {x:AO} {r:List (Nat × Nat × AO)}:xV σ z ((off,size,x)::r)=
 qo (ev σ x) fun y=>y7 (!y.dead&&decide (y.cells.length=size)&&decide (off+size≤z.length)) (xV σ (z.take off++y.cells++z.drop (off+size)) r):=by
 simp only [xV]
 cases ev σ x with
 |none=>rfl
 |some y=>
  simp only [qo,y7]
  congr 1
  simp [and_assoc]
@[go_sem] theorem qBV {d:Nat} {z:V} {parts:List (Nat × Nat × AO)}:qk call ⟨σ,T⟩ (.build d z parts)=zG (xV σ z.cells parts) fun cs=>some ⟨(d,.a cs)::σ,T⟩:=by
 simp only [qk,qh];cases xV σ z.cells parts<;>rfl
def QD(e:Nat):List V→Bool
 |[]=>true
 |y::ys=>z8 y.cells&&(y.cells.length==e)&&QD e ys
theorem qaa(e:Nat): ∀ (ys:List V),QD e ys=ys.all fun y=>z8 y.cells&&y.cells.length==e
 |[]=>rfl
 |y::ys=>by simp only [QD,List.all_cons,qaa e ys]
attribute [go_sem] QD
@[go_sem] theorem qCg {d e:Nat} {parts:List AO}:qk call ⟨σ,T⟩ (.mks d e parts)=zG (evL σ parts) fun ys=>
 y7 (QD e ys) (some ⟨(d,.s (d,0) 0 ys.length)::yD d σ,((d,0),e,qC d ys)::wT d T⟩):=by
 simp only [qk,qh,qaa];cases evL σ parts<;>rfl
def mkK(e bytes:Nat) (z l c:V) (d:Nat) (σ:Sl) (T:Mem):Option St:=
 match l,c with
 | .v (.int _ l),.v (.int _ c)=>
  if 0≤l∧l=c∧l*bytes≤lim∧l≤lim∧z.cells.length=e∧z8 z.cells∧clE z then
   some {σ:=(d,.s (d,0) 0 l.toNat)::(q9 d ⟨σ,T⟩).σ,T:=((d,0),e,List.replicate l.toNat z)::(q9 d ⟨σ,T⟩).T}
  else none
 |_,_=>none
@[go_sem] theorem qCe {d e bytes:Nat} {z:V} {l c:AO}:qk call ⟨σ,T⟩ (.mk d e z bytes l c)=qo (ev σ l) fun l=>qo (ev σ c) fun c=>mkK e bytes z l c d σ T:=by
 simp only [qk,qh,mkK]
 cases ev σ l with
 |none=>rfl
 |some l=>cases ev σ c with
  |none=>cases l<;>first|rfl|(rename_i v;cases v<;>rfl)
  |some c=>cases l<;>first|rfl|(rename_i v;cases v<;>first|rfl|(cases c<;>first|rfl|(rename_i v;cases v<;>rfl)))
theorem qkB {e bytes:Nat} {z:V} {n d:Nat} (h1:n*bytes≤lim) (h2:n≤lim) (hz:z.cells.length=e) (ho:z8 z.cells=true) (hc:clE z=true):
 mkK e bytes z (I n) (I n) d σ T=some ⟨(d,.s (d,0) 0 n)::yD d σ,((d,0),e,List.replicate n z)::wT d T⟩:=by
 simp only [mkK,I]
 rw [if_pos ⟨by omega,trivial,by exact_mod_cast h1,by exact_mod_cast h2,hz,ho,hc⟩]
 simp [qbK]
@[go_sem] theorem qB8 {d size:Nat} {agg:Bool} {a:AO}:qk call ⟨σ,T⟩ (.ld d agg size a)=qo (ev σ a) fun p=>qo (yE T agg size p) fun y=>
 zt (qX y) (some ⟨(d,y)::σ,T⟩) (qo (yE (wT d T) agg size p) fun y'=>kK (k7 (wT d T) p (qH d 0 y').1) fun T'=>some ⟨(d,(qH d 0 y').1)::yD d σ,(qH d 0 y').2.2++T'⟩):=by
 simp only [qk,qh]
 cases ev σ a with
 |none=>rfl
 |some p=>
  simp only [qo]
  cases yE T agg size p with
  |none=>rfl
  |some y=>
   simp only [zt]
   cases h:qX y
   ·simp only [Bool.not_false,Bool.false_eq_true,if_true,if_false,qbK]
    cases yE (wT d T) agg size p with
    |none=>rfl
    |some y'=>
     simp only
     cases k7 (wT d T) p (qH d 0 y').1<;>rfl
   ·simp [St.put]
@[go_sem] theorem qB9 {d size:Nat} {agg:Bool} {a:AO}:qk call ⟨σ,T⟩ (.ldq d agg size a)=qo (ev σ a) fun p=>qo (yE T agg size p) fun y=>y7 (qX y) (some ⟨(d,y)::σ,T⟩):=by
 simp only [qk,qh]
 cases ev σ a with
 |none=>rfl
 |some p=>simp only [qo];cases yE T agg size p<;>rfl
@[go_sem] theorem qCq {size:Nat} {a x:AO}:qk call ⟨σ,T⟩ (.st size a x)=qo (ev σ a) fun p=>qo (ev σ x) fun y=>
 y7 (decide (y.cells.length=size)&&z8 y.cells) (kK (k7 T p y) fun T'=>some ⟨σ,T'⟩):=by
 simp only [qk,qh]
 cases ev σ a with
 |none=>rfl
 |some p=>cases ev σ x with
  |none=>rfl
  |some y=>
   simp only [qo,y7,Bool.and_eq_true,decide_eq_true_eq]
   congr 1
   cases k7 T p y<;>rfl
def Yq(d:Nat) (σ:Sl) (T:Mem):V→Option St
 | .p k idx off=>some ⟨(d,.p k idx off)::σ,T⟩
 | .q τ xs idx off=>some ⟨(d,.q τ xs idx off)::σ,T⟩
 | .f (.func g) first caps=>some ⟨(d,.f (.func g) first caps)::σ,T⟩
 |_=>none
@[go_sem] theorem qEf {d:Nat} {k:Key} {i o:Nat}:Yq d σ T (.p k i o)=some ⟨(d,.p k i o)::σ,T⟩:=(rfl)
@[go_sem] theorem qEg {d:Nat} {τ:Bool} {xs:List V} {i o:Nat}:Yq d σ T (.q τ xs i o)=some ⟨(d,.q τ xs i o)::σ,T⟩:=(rfl)
@[go_sem] theorem qEe {d g:Nat} {xs ys:List V}:Yq d σ T (.f (.func g) xs ys)=some ⟨(d,.f (.func g) xs ys)::σ,T⟩:=(rfl)
@[go_sem] theorem qEd {d g:Nat}:Yq d σ T (Fc g)=some ⟨(d,Fc g)::σ,T⟩:=(rfl)
@[go_sem] theorem qCl {d:Nat} {x:AO}:qk call ⟨σ,T⟩ (.nilc d x)=qo (ev σ x) fun y=>Yq d σ T y:=by
 simp only [qk,qh]
 cases ev σ x with
 |none=>rfl
 |some y=>cases y<;>first|rfl|(rename_i f _ _;cases f<;>rfl)
@[go_sem] theorem qBU {d:Nat} {op:BinOp} {x y:AO}:qk call ⟨σ,T⟩ (.bin d op x y)=qo (ev σ x) fun x=>qo (ev σ y) fun y=>qo (zl op x y) fun z=>some ⟨(d,z)::σ,T⟩:=by
 simp only [qk,qh]
 cases ev σ x with
 |none=>rfl
 |some x=>cases ev σ y with
  |none=>rfl
  |some y=>simp only [qo];cases zl op x y<;>rfl
def eqB(k:Nat) (x y:V):Option V:=(eqV k x y).map B
@[go_sem] theorem qBY {d k:Nat} {neg:Bool} {x y:AO}:qk call ⟨σ,T⟩ (.eqs d k neg x y)=qo (ev σ x) fun x=>qo (ev σ y) fun y=>qo ((eqV k x y).map fun r=>B (r != neg)) fun z=>some ⟨(d,z)::σ,T⟩:=by
 simp only [qk,qh]
 cases ev σ x with
 |none=>rfl
 |some x=>cases ev σ y with
  |none=>rfl
  |some y=>simp only [qo];cases eqV k x y<;>rfl
def unV(op:UnOp):V→Option V
 | .v x=>(Op.unary op x).val?.map .v
 |_=>none
@[go_sem] theorem qCs {d:Nat} {op:UnOp} {x:AO}:qk call ⟨σ,T⟩ (.un d op x)=qo (ev σ x) fun x=>qo (unV op x) fun z=>some ⟨(d,z)::σ,T⟩:=by
 simp only [qk,qh]
 cases ev σ x with
 |none=>rfl
 |some x=>cases x<;>first|rfl|(simp only [qo,unV,Option.map_map];rename_i v;cases (Op.unary op v).val?<;>rfl)
@[go_sem] theorem qII {b:Bool}:unV .not (B b)=some (B (!b)):=(rfl)
@[go_sem] theorem qIH {n:Int}:unV .neg (I n)=some (I (w64 (0 - n))):=(rfl)
def kL {α:Type} (r:Option (Option V)) (k:Option V→Option α):Option α:=
 match r with
 |some y=>k y
 |none=>none
@[congr] theorem qxN {α:Type} {r r':Option (Option V)} {k:Option V→Option α} (h:r=r'):kL r k=kL r' k:=by rw [h]
@[go_sem] theorem qxO {α:Type} {x:Option V} {k:Option V→Option α}:kL (some x) k=k x:=(rfl)
@[go_sem] theorem qBK {x:AO}:evO σ (some x)=qo (ev σ x) fun y=>some (some y):=by
 simp only [evO];cases ev σ x<;>rfl
@[go_sem] theorem qCn {d e:Nat} {x:AO} {lo hi:Option AO}:qk call ⟨σ,T⟩ (.sl d e x lo hi)=qo (ev σ x) fun x=>kL (evO σ lo) fun lo=>kL (evO σ hi) fun hi=>qo (Q7 T e x lo hi) fun z=>some ⟨(d,z)::σ,T⟩:=by
 simp only [qk,qh]
 cases ev σ x with
 |none=>rfl
 |some x=>cases evO σ lo with
  |none=>rfl
  |some lo=>cases evO σ hi with
   |none=>rfl
   |some hi=>simp only [qo,kL];cases Q7 T e x lo hi<;>rfl
def Qj(x:V) (lo hi:Option V):Option V:=
 match x with
 | .v (.string s)=>match yx 0 lo,yx s.size hi with
  |some l,some h=>if l≤h∧h≤s.size then some (.v (.string (s.extract l h)))else none
  |_,_=>none
 |_=>none
@[go_sem] theorem qCp {d:Nat} {x:AO} {lo hi:Option AO}:qk call ⟨σ,T⟩ (.ssl d x lo hi)=qo (ev σ x) fun x=>kL (evO σ lo) fun lo=>kL (evO σ hi) fun hi=>qo (Qj x lo hi) fun z=>some ⟨(d,z)::σ,T⟩:=by
 simp only [qk,qh]
 cases ev σ x with
 |none=>rfl
 |some x=>cases evO σ lo with
  |none=>cases x<;>first|rfl|(rename_i v;cases v<;>rfl)
  |some lo=>cases evO σ hi with
   |none=>cases x<;>first|rfl|(rename_i v;cases v<;>rfl)
   |some hi=>
    simp only [qo,kL,Qj]
    cases x<;>first|rfl|(rename_i v;cases v<;>first|rfl|skip)
    rename_i s
    simp only
    cases yx 0 lo with
    |none=>rfl
    |some l=>cases yx s.size hi with
     |none=>rfl
     |some h=>simp only;split<;>rfl
def QH(d:Nat):Option V→Option Int
 |none=>some d
 |some (.v (.int _ i))=>some i
 |_=>none
@[go_sem] theorem qx6 {d:Nat}:QH d none=some d:=(rfl)
@[go_sem] theorem qx5 {d:Nat} {i:Int}:QH d (some (I i))=some i:=(rfl)
theorem qbz {l:List UInt8} {lo hi:Option V} {a b:Int} (h1:QH 0 lo=some a) (h2:QH l.length hi=some b) (h3:0≤a) (h4:a≤b) (h5:b≤l.length):
 Qj (S l) lo hi=some (S ((l.take b.toNat).drop a.toNat)):=by
 have e1:yx 0 lo=some a.toNat:=by
  unfold yx;unfold QH at h1;split at h1
  ·simp only [Option.some.injEq]at h1;subst h1;simp
  ·simp only [Option.some.injEq]at h1;subst h1;simp [h3]
  ·cases h1
 have e2:yx l.length hi=some b.toNat:=by
  unfold yx;unfold QH at h2;split at h2
  ·simp only [Option.some.injEq]at h2;subst h2;simp
  ·simp only [Option.some.injEq]at h2;subst h2;show (if _ then _ else _)=_;rw [if_pos (by omega)]
  ·cases h2
 have hs:(ByteArray.mk l.toArray).size=l.length:=by simp [ByteArray.size]
 simp only [Qj,S,hs,e1,e2]
 rw [if_pos ⟨by omega,by omega⟩]
 congr 3
 apply ByteArray.ext
 apply Array.ext'
 simp only [ByteArray.data_extract,List.extract_toArray,List.toList_toArray,List.extract_eq_take_drop]
 rw [List.drop_take]
def qbx:V→Option V
 | .v (.string s)=>some (.v (.int .i64 s.size))
 |_=>none
@[go_sem] theorem qCo {d:Nat} {x:AO}:qk call ⟨σ,T⟩ (.slen d x)=qo (ev σ x) fun x=>qo (qbx x) fun z=>some ⟨(d,z)::σ,T⟩:=by
 simp only [qk,qh]
 cases ev σ x with
 |none=>rfl
 |some x=>cases x<;>first|rfl|(rename_i v;cases v<;>rfl)
@[go_sem] theorem qIy {l:List UInt8}:qbx (S l)=some (I l.length):=by simp [qbx,S,I,ByteArray.size]
def faV(off:Nat):V→Option V
 | .p k idx o=>some (.p k idx (o+off))
 | .q τ xs idx o=>some (.q τ xs idx (o+off))
 |_=>none
@[go_sem] theorem qBO {off:Nat} {k:Key} {i o:Nat}:faV off (.p k i o)=some (.p k i (o+off)):=(rfl)
@[go_sem] theorem qBP {off:Nat} {τ:Bool} {xs:List V} {i o:Nat}:faV off (.q τ xs i o)=some (.q τ xs i (o+off)):=(rfl)
@[go_sem] theorem qB0 {d off:Nat} {x:AO}:qk call ⟨σ,T⟩ (.fa d x off)=qo (ev σ x) fun x=>qo (faV off x) fun z=>some ⟨(d,z)::σ,T⟩:=by
 simp only [qk,qh]
 cases ev σ x with
 |none=>rfl
 |some x=>cases x<;>rfl
def qau(agg:Bool) (size off:Nat):V→Option V
 | .a cs=>qR agg size (.a cs) off
 |_=>none
@[go_sem] theorem qBQ {agg:Bool} {size off:Nat} {cs:List V}:qau agg size off (.a cs)=qR agg size (.a cs) off:=(rfl)
@[go_sem] theorem qB1 {d size off:Nat} {agg:Bool} {x:AO}:qk call ⟨σ,T⟩ (.fld d agg size x off)=qo (ev σ x) fun x=>qo (qau agg size off x) fun z=>some ⟨(d,z)::σ,T⟩:=by
 simp only [qk,qh]
 cases ev σ x with
 |none=>rfl
 |some x=>cases x<;>first|rfl|(simp only [qo,qau];rename_i cs;cases qR agg size (.a cs) off<;>rfl)
def iaV(T:Mem) (e:Nat) (x i:V):Option V:=
 match i with
 | .v (.int _ i)=>xC T e x i
 |_=>none
@[go_sem] theorem qCz {e:Nat} {x:V} {i:Int}:iaV T e x (I i)=xC T e x i:=(rfl)
@[go_sem] theorem qB5 {d e:Nat} {x i:AO}:qk call ⟨σ,T⟩ (.ia d e x i)=qo (ev σ x) fun x=>qo (ev σ i) fun i=>qo (iaV T e x i) fun z=>some ⟨(d,z)::σ,T⟩:=by
 simp only [qk,qh]
 cases ev σ x with
 |none=>rfl
 |some x=>cases ev σ i with
  |none=>rfl
  |some i=>cases i<;>first|rfl|(rename_i v;cases v<;>first|rfl|(simp only [qo,iaV];rename_i j;cases xC T e x j<;>rfl))
def ixV:V→V→Option V
 | .v (.string s),.v (.int _ i)=>(zC i s.size).map fun j=>qM (s.data[j]?.getD 0)
 |_,_=>none
@[go_sem] theorem qB7 {d:Nat} {x i:AO}:qk call ⟨σ,T⟩ (.ix d x i)=qo (ev σ x) fun x=>qo (ev σ i) fun i=>qo (ixV x i) fun z=>some ⟨(d,z)::σ,T⟩:=by
 simp only [qk,qh]
 cases ev σ x with
 |none=>rfl
 |some x=>cases ev σ i with
  |none=>cases x<;>first|rfl|(rename_i v;cases v<;>rfl)
  |some i=>
   cases x<;>first|rfl|(rename_i v;cases v<;>first|rfl|skip)
   rename_i s
   cases i<;>first|rfl|(rename_i v;cases v<;>first|rfl|(simp only [qo,ixV];rename_i j;cases zC j s.size<;>rfl))
theorem Yn {l:List UInt8} {i:Int} {c:UInt8} (h0:0≤i) (h:l[i.toNat]? =some c):ixV (S l) (I i)=some (U8 c.toNat):=by
 have hl:i.toNat < l.length:=(List.getElem?_eq_some_iff.1 h).1
 have hs:(ByteArray.mk l.toArray).size=l.length:=by simp [ByteArray.size]
 simp only [ixV,S,I,hs,zC]
 rw [if_pos ⟨h0,by omega⟩]
 simp [h,qM,U8]
def qas(i:Nat):V→Option V
 | .t vs=>vs[i]?
 |_=>none
@[go_sem] theorem qBN {i:Nat} {vs:List V}:qas i (.t vs)=vs[i]? :=(rfl)
@[go_sem] theorem qBZ {d i:Nat} {x:AO}:qk call ⟨σ,T⟩ (.ext d x i)=qo (ev σ x) fun x=>qo (qas i x) fun z=>some ⟨(d,z)::σ,T⟩:=by
 simp only [qk,qh]
 cases ev σ x with
 |none=>rfl
 |some x=>cases x<;>first|rfl|(simp only [qo,qas];rename_i vs;cases vs[i]? <;>rfl)
@[go_sem] theorem qB2 {d:Nat} {fn:Fn} {first caps:List AO}:qk call ⟨σ,T⟩ (.fun d fn first caps)=zG (evL σ first) fun a=>zG (evL σ caps) fun b=>some ⟨(d,.f fn a b)::σ,T⟩:=by
 simp only [qk,qh]
 cases evL σ first with
 |none=>rfl
 |some a=>cases evL σ caps<;>rfl
def Yo(x:V):Option V:=(js x).map fun n=>I n
@[go_sem] theorem qDt {k:Key} {lo len:Nat}:Yo (.s k lo len)=some (I len):=(rfl)
@[go_sem] theorem qDr {τ:Bool} {xs:List V}:Yo (.i τ xs)=some (I xs.length):=(rfl)
@[go_sem] theorem qDs {e:Nat}:Yo (.n e)=some (I 0):=(rfl)
@[go_sem] theorem qCa {d:Nat} {x:AO}:qk call ⟨σ,T⟩ (.len d x)=qo (ev σ x) fun x=>qo (Yo x) fun z=>some ⟨(d,z)::σ,T⟩:=by
 simp only [qk,qh]
 cases ev σ x with
 |none=>rfl
 |some x=>simp only [qo,Yo];cases js x<;>rfl
def mxV(max:Bool):List V→Option V
 |[.v (.int k a),.v (.int _ b)]=>some (.v (.int k (if max then (if b > a then b else a)else (if b < a then b else a))))
 |_=>none
@[go_sem] theorem qCj {d:Nat} {max:Bool} {args:List AO}:qk call ⟨σ,T⟩ (.mx d max args)=zG (evL σ args) fun xs=>qo (mxV max xs) fun z=>some ⟨(d,z)::σ,T⟩:=by
 simp only [qk,qh]
 cases evL σ args with
 |none=>rfl
 |some xs=>
  rcases xs with _|⟨x,_|⟨y,_|⟨z,r⟩⟩⟩
  ·rfl
  ·cases x<;>first|rfl|(rename_i v;cases v<;>rfl)
  ·cases x<;>first|rfl|(rename_i v;cases v<;>first|rfl|(cases y<;>first|rfl|(rename_i v;cases v<;>rfl)))
  ·cases x<;>first|rfl|(rename_i v;cases v<;>first|rfl|(cases y<;>first|rfl|(rename_i v;cases v<;>rfl)))
@[go_sem] theorem qD8 {a b:Int}:mxV true [I a,I b]=some (I (if b > a then b else a)):=(rfl)
@[go_sem] theorem qD9 {a b:Int}:mxV false [I a,I b]=some (I (if b < a then b else a)):=(rfl)
def qaE(k:IntKind):V→Option V
 | .v (.int _ n)=>some (.v (.int k (k.wrap n)))
 |_=>none
@[go_sem] theorem qB6 {d:Nat} {k:IntKind} {x:AO}:qk call ⟨σ,T⟩ (.int d k x)=qo (ev σ x) fun x=>qo (qaE k x) fun z=>some ⟨(d,z)::σ,T⟩:=by
 simp only [qk,qh]
 cases ev σ x with
 |none=>rfl
 |some x=>cases x<;>first|rfl|(rename_i v;cases v<;>rfl)
@[go_sem] theorem qCD {n:Int}:qaE .i64 (U8 n)=some (I (w64 n)):=(rfl)
@[go_sem] theorem qCC {n:Int}:qaE .u8 (I n)=some (U8 (IntKind.u8.wrap n)):=(rfl)
def qbC(xs:Option (List V)):Option V:=
 match xs with
 |some xs=>(xj xs).map fun l=>S l
 |none=>none
@[go_sem] theorem qCr {d:Nat} {x:AO}:qk call ⟨σ,T⟩ (.str d x)=qo (ev σ x) fun x=>qo (qbC (xD T 1 x)) fun z=>some ⟨(d,z)::σ,T⟩:=by
 simp only [qk,qh]
 cases ev σ x with
 |none=>rfl
 |some x=>
  simp only [qo]
  cases xD T 1 x with
  |none=>rfl
  |some xs=>simp only [qbC];cases xj xs<;>rfl
@[go_sem] theorem qIC {xs:List V}:qbC (some xs)=(xj xs).map fun l=>S l:=(rfl)
def jS {α:Type} (f:V) (k:Nat→List V→List V→Option α):Option α:=
 match f with
 | .f (.func g) first caps=>k g first caps
 |_=>none
@[congr] theorem qyv {α:Type} {f f':V} {k:Nat→List V→List V→Option α} (h:f=f'):jS f k=jS f' k:=by rw [h]
@[go_sem] theorem qyu {α:Type} {g:Nat} {k:Nat→List V→List V→Option α}:jS (Fc g) k=k g [] []:=(rfl)
@[go_sem] theorem qyw {α:Type} {g:Nat} {a b:List V} {k:Nat→List V→List V→Option α}:jS (.f (.func g) a b) k=k g a b:=(rfl)
@[go_sem] theorem qBX {d:Option Nat} {f:AO} {args:List AO} {fz:Bool}:qk (cw prog) ⟨σ,T⟩ (.call d f args (.ro fz))=qo (ev σ f) fun fv=>zG (evL σ args) fun xs=>
 jS fv fun g first caps=>qo (cr prog g (xP T (first++xs++caps))) fun r=>y7 (qT r) (some (y1 d (fzV fz r) ⟨σ,T⟩)):=by
 simp only [qk,qh]
 cases ev σ f with
 |none=>rfl
 |some fv=>
  cases evL σ args with
  |none=>simp only [qo,zG];cases callee fv<;>rfl
  |some xs=>
   simp only [qo,zG]
   cases fv with
   |f fn first caps=>
    cases fn<;>first|rfl|skip
    simp only [callee,jS,y4]
    unfold cr
    rename_i g
    cases cw prog g (xP T (first++xs++caps))with
    |none=>rfl
    |some r=>obtain ⟨r,o⟩:=r;rfl
   |_=>rfl
def ioK {α:Type} (r:Option (V × List V)) (k:V→List V→Option α):Option α:=
 match r with
 |some (r,outs)=>k r outs
 |none=>none
@[congr] theorem qCF {α:Type} {r r':Option (V × List V)} {k:V→List V→Option α} (h:r=r'):ioK r k=ioK r' k:=by rw [h]
@[go_sem] theorem qCG {α:Type} {r:V} {outs:List V} {k:V→List V→Option α}:ioK (some (r,outs)) k=k r outs:=(rfl)
@[go_sem] theorem qBW {d:Option Nat} {f:AO} {args:List AO} {fz:Bool}:qk (cw prog) ⟨σ,T⟩ (.call d f args (.io fz))=qo (ev σ f) fun fv=>zG (evL σ args) fun xs=>
 jS fv fun g first caps=>ioK (cw prog g (qx (qu 30) T (first++xs++caps)).1) fun r outs=>some (y1 d (fzV fz r) ⟨σ,kJ T (first++xs++caps) outs++(qx (qu 30) T (first++xs++caps)).2⟩):=by
 simp only [qk,qh]
 cases ev σ f with
 |none=>rfl
 |some fv=>
  cases evL σ args with
  |none=>simp only [qo,zG];cases callee fv<;>rfl
  |some xs=>
   simp only [qo,zG]
   cases fv with
   |f fn first caps=>
    cases fn<;>first|rfl|skip
   |_=>rfl
def bkO(k:Key) (lo e:Nat) (xs:List V) (ob:Option Ob):Mem:=
 match ob with
 |some ob=>if lo=0∧ob.1=e then [(k,e,xs)]else []
 |none=>[]
section
variable {k:Key} {lo len e i o:Nat} {xs ys zs:List V} {x y:V} {τ:Bool} {n:Int} {b:Bool} {l:List UInt8} {fn fn':Fn} {cs ds:List V}
@[go_sem] theorem qw6:yn T (.s k lo len) (.o e xs)=bkO k lo e xs (qq T k):=by simp only [yn,bkO];cases qq T k<;>rfl
@[go_sem] theorem qx1 {e':Nat} {zs:List V}:bkO k lo e xs (some (e',zs))=if lo=0∧e'=e then [(k,e,xs)]else []:=(rfl)
@[go_sem] theorem qw5:yn T (.s k lo len) .d=[]:=(rfl)
@[go_sem] theorem qw1:yn T (.i τ xs) y=[]:=(rfl)
@[go_sem] theorem qwZ:yn T (I n) y=[]:=(rfl)
@[go_sem] theorem qw0:yn T (S l) y=[]:=(rfl)
@[go_sem] theorem qwY:yn T (B b) y=[]:=(rfl)
@[go_sem] theorem qw2:yn T (.n e) y=[]:=(rfl)
@[go_sem] theorem qw4:yn T (.q τ xs i o) y=[]:=(rfl)
@[go_sem] theorem qxa:xU T (.a cs) (.a ds)=ke T cs ds:=(rfl)
@[go_sem] theorem qxe:xU T (.s k lo len) y=yn T (.s k lo len) y:=(rfl)
@[go_sem] theorem qxb:xU T (.i τ xs) y=[]:=(rfl)
@[go_sem] theorem qw8:xU T (I n) y=[]:=(rfl)
@[go_sem] theorem qw9:xU T (S l) y=[]:=(rfl)
@[go_sem] theorem qw7:xU T (B b) y=[]:=(rfl)
@[go_sem] theorem qxc:xU T (.n e) y=[]:=(rfl)
@[go_sem] theorem qxd:xU T (.p k i o) y=yn T (.p k i o) y:=(rfl)
end
theorem qhj {d:Nat} {x:V}:jm d x ⟨σ,T⟩=zt (qX x) ⟨(d,x)::σ,T⟩ ⟨(d,(zD d x).1)::yD d σ,(zD d x).2++wT d T⟩:=by
 unfold jm zt
 cases h:qX x<;>simp [qbK,St.put]
end
end Go.Vm
