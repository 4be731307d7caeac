import Derived.Test.YtbbkmeicdhnihaaDoorT01
import Derived.Attr
set_option autoImplicit false
set_option linter.unusedSectionVars false
set_option linter.unusedVariables false
set_option linter.unusedSimpArgs false
namespace Go.Vm
variable [Lay]
def qa1:AI→Bool
 | .mv .. | .pick .. | .build .. | .ldq .. | .nilc .. | .bin .. | .eqs .. | .un .. | .sl .. | .ssl .. | .slen .. | .fa .. | .fld .. | .ia .. | .ix .. | .ext .. | .fun .. | .len .. | .mx .. | .int .. | .str .. | .mget .. =>true
 |_=>false
def roI:AI→Bool
 | .call _ _ _ (.ro _)=>true
 |_=>false
def Kg:AI→AI
 | .gd _ _ _ i=>i
 |i=>i
section
variable {P:Program} {N n:Nat} {ops:Array Oper} {o:Oper} {E:Env} {c:Cnt} {st st':St} {a:Act} {call:qS} {ai h:AI}
theorem qlR(hq:qa1 h=true) (ht:yd P N o h=some ai) (hs:qh call st ai=some st') (hf:FRel N E st a.tmps c):
 qE N E st st' o.dst ((execOp a.eval o).run P E.w):=by
 cases h<;>simp only [qa1]at hq<;>(first|(cases hq;done)|skip)<;>simp only [yd]at ht<;>(split at ht)<;>(first|(cases ht;done)|skip)<;>rename_i hd
 case mv.isTrue=>exact qeE hd ht hs hf
 case pick.isTrue=>exact qeH hd ht hs hf
 case build.isTrue=>exact qes hd ht hs hf
 case ldq.isTrue=>exact qeB hd ht hs hf
 case nilc.isTrue=>exact qeG hd ht hs hf
 case bin.isTrue=>exact qer hd ht hs hf
 case eqs.isTrue=>exact qet hd ht hs hf
 case un.isTrue=>exact qeM hd ht hs hf
 case sl.isTrue=>exact qeI hd ht hs hf
 case ssl.isTrue=>exact qeK hd ht hs hf
 case slen.isTrue=>exact qeJ hd ht hs hf
 case fa.isTrue=>exact qev hd ht hs hf
 case fld.isTrue=>exact qew hd ht hs hf
 case ia.isTrue=>exact qey hd ht hs hf
 case ix.isTrue=>exact qeA hd ht hs hf
 case ext.isTrue=>exact qeu hd ht hs hf
 case fun.isTrue=>exact qex hd ht hs hf
 case len.isTrue=>exact qeC hd ht hs hf
 case mx.isTrue=>exact qeF hd ht hs hf
 case int.isTrue=>exact qez hd ht hs hf
 case str.isTrue=>exact qeL hd ht hs hf
 case mget.isTrue=>exact qeD hd ht hs hf
theorem qgz {Q:Exit→Act→World→Prop} {K:Act→World→Prop} (h:qE N E st st' o.dst ((execOp a.eval o).run P E.w))
 (hK: ∀ d x y,o.dst=some d→d < N→st'=st.put d x→Rel E x y c0→K (a.put o.dst y) E.w):o.wp P a E.w K Q:=by
 obtain ⟨d,x,y,hd,hn,hr,hs,hx⟩:=h
 unfold Oper.wp
 rw [hr]
 exact hK d x y hd hn hs hx
theorem qfN(ht:yd P N o h=some ai):qt ai=o.dst:=by
 cases h<;>simp only [yd]at ht<;>(first|(cases ht;done)|skip)<;>(split at ht)<;>(first|(cases ht;done)|skip)<;>rename_i hd
 case st.isTrue=>
  have hd':o.dst=none:=by simpa using hd
  unfold Yx at ht
  (repeat' (split at ht))<;>simp_all [qt]
  subst ht;simp [qt]
 case mset.isTrue=>
  have hd':o.dst=none:=by simpa using hd
  unfold Yo at ht
  (repeat' (split at ht))<;>simp_all [qt]<;>(subst ht;simp [qt])
 case mes.isTrue=>
  have hd':o.dst=none:=by simpa using hd
  unfold Yj at ht
  (repeat' (split at ht))<;>simp_all [qt]
  subst ht;simp [qt]
 case call.isTrue=>
  simp only [jz,Bool.and_eq_true,decide_eq_true_eq]at hd
  unfold Q3 at ht
  split at ht
  case h_2=>cases ht
  split at ht
  case h_2=>cases ht
  obtain ⟨x,y,-,-,rfl⟩:=jb ht
  simp only [qt];exact hd.1.symm
 all_goals
  rw [(zi hd).1]
  simp only [jf,Yt,Yq,Z6,Yn,Yl,Yf,Yg,Yr,Z5,Z7,Yz,Yu,Yw,Yv,Z9,Ya,Yc,Ye,Z8,Yb,Z4,Yh,Yp,Yd,Yy,Ym,Yk,Yi,xp]at ht
  (repeat' (split at ht))<;>(first|(cases ht;done)|skip)<;>simp only [Option.map_eq_some_iff,Option.some.injEq]at ht<;>
   (first|(subst ht;rfl)|(obtain ⟨x,-,rfl⟩:=ht;rfl))
theorem qlS(ht:trI P N n ops o h=some ai) (hs:qm call st ai=some st') (hf:FRel N E st a.tmps c):
 qt ai=o.dst∧((Region.wanted o (yielded ops a.tmps)=false∧(o.dst=none→st'=st)∧(∀ d,o.dst=some d→d < N∧st'=st.put d zX))∨
 (Region.wanted o (yielded ops a.tmps)=true∧ ∃ ai1,yd P N o (Kg h)=some ai1∧qh call st ai1=some st')):=by
 have hwant:o.guard.isNone=true→Region.wanted o (yielded ops a.tmps)=true:=by
  intro hg
  unfold Region.wanted
  split
  ·rfl
  ·rename_i he;rw [he]at hg;cases hg
 have hplain: ∀ i,o.guard.isNone=true→yd P N o i=some ai→Region.wanted o (yielded ops a.tmps)=true∧ ∃ ai1,yd P N o i=some ai1∧qh call st ai1=some st':=by
  intro i hg hi
  refine ⟨hwant hg,ai,hi, ?_⟩
  have hng: ∀ j w d i',ai ≠ .gd j w d i':=by
   rintro j w d i' rfl
   cases i<;>simp only [yd]at hi<;>(first|(cases hi;done)|skip)<;>(split at hi)<;>(first|(cases hi;done)|skip)<;>
    simp only [jf,Yt,Yq,Z6,Yn,Yl,Yf,Yg,Yr,Z5,Z7,Yz,Yu,Yw,Yv,Z9,Ya,Yc,Ye,Z8,Yb,Z4,Yh,Yp,Yd,Yy,Yx,Q3,Ym,Yo,Yk,Yi,Yj,xp]at hi<;>
    (repeat' (split at hi))<;>simp_all
  rw [qdg call ai hng]at hs
  exact hs
 unfold trI at ht
 split at ht
 ·rename_i j want d i
  split at ht
  case h_2=>cases ht
  rename_i k w hg
  split at ht
  case isFalse=>cases ht
  rename_i hc
  simp only [Bool.and_eq_true,decide_eq_true_eq]at hc
  obtain ⟨⟨⟨rfl,hdn⟩,hdst⟩,hj⟩:=hc
  rw [Option.map_eq_some_iff]at ht
  obtain ⟨i',hi',rfl⟩:=ht
  simp only [jz,Bool.and_eq_true,decide_eq_true_eq]at hdst
  obtain ⟨hod,hdN⟩:=hdst
  refine ⟨by simp only [qt];exact hod.symm, ?_⟩
  simp only [qm]at hs
  have hno:(d=none→st'=st)→(∀ t,d=some t→st'=st.put t zX)→(o.dst=none→st'=st)∧(∀ d,o.dst=some d→d < N∧st'=st.put d zX):=by
   intro h1 h2
   rw [hod]
   refine ⟨h1,fun t e=>⟨?_,h2 t e⟩⟩
   subst e;simpa using hdN
  split at hs
  ·rename_i b hb
   obtain ⟨v,hv,hr⟩:=hf.σ _ _ hb
   simp only [Rel]at hr
   have hy:yielded ops a.tmps k=some b:=by simp only [yielded,hj,Option.bind_some,hv,hr.1]
   by_cases hbw:b=w
   ·subst hbw
    rw [if_pos rfl]at hs
    exact .inr ⟨by simp only [Region.wanted,hg,hy,beq_self_eq_true],i',hi',hs⟩
   ·rw [if_neg hbw]at hs
    refine .inl ⟨by simp only [Region.wanted,hg,hy];simp [hbw], ?_⟩
    exact hno (fun e=>by subst e;simpa using hs.symm) (fun t e=>by subst e;simpa using hs.symm)
  ·rename_i x hnb hx
   obtain ⟨v,hv,hr⟩:=hf.σ _ _ hx
   simp only [Rel]at hr
   have hy:yielded ops a.tmps k=none:=by
    simp only [yielded,hj,Option.bind_some,hv,hr.1]
    cases x<;>first|rfl|exact absurd rfl (hnb _)
   refine .inl ⟨by simp only [Region.wanted,hg,hy];rfl, ?_⟩
   exact hno (fun e=>by subst e;simpa using hs.symm) (fun t e=>by subst e;simpa using hs.symm)
  ·cases hs
 ·rename_i d h'
  split at ht
  case isFalse=>cases ht
  rename_i hc
  simp only [Bool.and_eq_true]at hc
  have hi:yd P N o (.mv d h')=some ai:=by simp only [yd,hc.2,if_true];exact ht
  exact ⟨qfN hi,.inr (hplain _ hc.1 hi)⟩
 ·rename_i i hn1 hn2
  split at ht
  case isFalse=>cases ht
  rename_i hc
  simp only [Bool.and_eq_true]at hc
  have hb:Kg h=h:=by cases h<;>first|rfl|exact absurd rfl (hn1 _ _ _ _)
  rw [hb]
  exact ⟨qfN ht,.inr (hplain _ hc.1 ht)⟩
end
end Go.Vm
namespace Go.Vm
variable [Lay]
section
variable {E:Env}
theorem Q2(f:Key→Bool): ∀ {T:Mem} {c:Cnt},qn E T c→ ∃ c',qn E (qC f T) c'∧cle c' c
 |[],c,h=>⟨c,h,qH _⟩
 |(k,ob)::r,c,h=>by
  obtain ⟨c1,c2,h1,h2,rfl⟩:=h
  obtain ⟨c3,h3,h4⟩:=Q2 f h2
  simp only [qC]
  split
  ·exact ⟨qg c1 c3,⟨c1,c3,h1,h3,rfl⟩,yJ (qH _) h4⟩
  ·exact ⟨c3,h3,yc h4 (yx _ _)⟩
theorem qas: ∀ {T:Mem} {k k':Key},k' ≠ k→qp (qy T k) k'=qp T k'
 |[],k,k',h=>rfl
 |(u,x)::r,k,k',h=>by
  simp only [qy]
  split
  ·rename_i e;subst e
   simp only [qp];rw [if_neg (Ne.symm h)]
  ·simp only [qp,qas h]
theorem Xe(f g:Key→Bool): ∀ T:Mem,qC f (qC g T)=qC (fun u=>g u&&f u) T
 |[]=>rfl
 |(k,x)::r=>by
  by_cases hg:g k=true
  ·by_cases hf:f k=true
   ·simp [qC,hg,hf,Xe f g r]
   ·simp [qC,hg,hf,Xe f g r]
  ·simp [qC,hg,Xe f g r]
theorem qdb {f:Key→Bool} {k:Key} (h:f k=false): ∀ {T:Mem},qC f (qy T k)=qC f T
 |[]=>rfl
 |(u,x)::r=>by
  simp only [qy]
  split
  ·rename_i e;subst e
   simp only [qC,h,Bool.false_eq_true,if_false]
  ·simp only [qC,qdb h]
theorem qbz: ∀ (ks:List Key) {L:Mem} {c:Cnt},ks.Nodup→qn E L c→
 ∃ c1 c2,qn E (zC (qp L) ks) c1∧qn E (qC (fun k=> !ks.contains k) L) c2∧cle (qg c1 c2) c
 |[],L,c,hn,h=>by
  obtain ⟨c2,h2,h3⟩:=Q2 (fun k=> !([]:List Key).contains k) h
  exact ⟨c0,c2,rfl,h2,by rw [qV];exact h3⟩
 |k::ks,L,c,hn,h=>by
  obtain ⟨hk,hn⟩:=List.nodup_cons.1 hn
  cases hg:qp L k with
  |none=>
   obtain ⟨c1,c2,h1,h2,h3⟩:=qbz ks hn h
   refine ⟨c1,c2,by simp only [zC,hg];exact h1, ?_,h3⟩
   have:qC (fun u=> !(k::ks).contains u) L=qC (fun u=> !ks.contains u) L:=by
    clear h h1 h2
    induction L with
    |nil=>rfl
    |cons x r ih=>
     obtain ⟨u,y⟩:=x
     simp only [qp]at hg
     split at hg
     ·cases hg
     ·rename_i hu
      simp only [qC,ih hg]
      have:(k::ks).contains u=ks.contains u:=by
       simp only [List.contains_cons]
       have:(u==k)=false:=by simpa using hu
       rw [this,Bool.false_or]
      rw [this]
   rw [this];exact h2
  |some ob=>
   obtain ⟨d1,d2,ho,hr,rfl⟩:=zW h hg
   obtain ⟨c1,c2,h1,h2,h3⟩:=qbz ks hn hr
   obtain ⟨c3,h4,h5⟩:=Q2 (fun u=>u != k) h2
   refine ⟨qg d1 c1,c3, ?_, ?_,fun b=>by have:=h3 b;have:=h5 b;simp only [qg]at*;omega⟩
   ·simp only [zC,hg]
    refine ⟨d1,c1,ho, ?_,rfl⟩
    rw [Xw (g:=qp (qy L k)) (fun u hu=>(qas (by rintro rfl;exact hk hu)).symm)]
    exact h1
   ·have:qC (fun u=> !(k::ks).contains u) L=qC (fun u=>u != k) (qC (fun u=> !ks.contains u) (qy L k)):=by
     rw [Xe,qdb (by simp)]
     congr 1
     funext u
     simp only [List.contains_cons,Bool.not_or,bne]
     exact Bool.and_comm _ _
    rw [this];exact h4
theorem qfJ: ∀ {T:Mem} {L:Mem} {c:Cnt},j7 T=true→qn E L c→(∀ k x,qp T k=some x→qp L k=some x)→ ∃ c',qn E T c'∧cle c' c
 |[],L,c,hn,h,hs=>⟨c0,rfl,fun _=>Nat.zero_le _⟩
 |(k,ob)::r,L,c,hn,h,hs=>by
  simp only [j7,Bool.and_eq_true,Option.isNone_iff_eq_none]at hn
  have hg:qp L k=some ob:=hs k ob (by simp [qp])
  obtain ⟨d1,d2,ho,hr,rfl⟩:=zW h hg
  obtain ⟨c',h1,h2⟩:=qfJ (T:=r) hn.2 hr (fun u x hu=>by
   have hne:u ≠ k:=by rintro rfl;rw [hn.1]at hu;cases hu
   rw [qas hne]
   exact hs u x (by simp only [qp];rw [if_neg (Ne.symm hne)];exact hu))
  exact ⟨qg d1 c',⟨d1,c',ho,h1,rfl⟩,yJ (qH _) h2⟩
end
end Go.Vm
namespace Go.Vm
variable [Lay]
def xl(plan:List Dp) (is:List AI) (listed:Array Bool) (d:Nat):Prop:=
 ∃ (i:Nat) (p:Dp) (ai:AI),listed.getD i true=false∧plan[i]? =some p∧is[i]? =some ai∧p.k ≠ 0∧qt ai=some d
structure InvD (N n:Nat) (E0:Env) (k0:Cnt) (a0:Act) (fr:Nat→Prop) (s:FS) (a:Act) (E:Env) (c:Cnt):Prop where
 sz:a.tmps.size=N
 df:a.defers=a0.defers
 σ: ∀ t x,s.1 t=some x→ ∃ y,a.tmps[t]? =some y∧Rel E x y c0
 T: ∃ L,(∀ k,qp L k=s.2 k)∧qn E L c
 g:Good E c
 kn:KN n E0 E
 adv:Adv E0 k0 E c
 fr: ∀ d,fr d→ ∀ j,E.μ (d,j)=none
section
variable {N n:Nat} {E0 E E':Env} {k0 c cA cB:Cnt} {a0 a:Act} {fr fr':Nat→Prop} {s:FS} {dst:Option Nat} {σ':Sl} {T' L:Mem} {y:Value} {p:Dp}
theorem InvD.next(h:InvD N n E0 k0 a0 fr s a E c) (hL: ∀ k,qp L k=s.2 k) (hd: ∀ t,dst=some t→t < N) (hm:Mono E E' c0) (hσ: ∀ d x,dst=some d→qw σ' d=some x→Rel E' x y c0)
 (hA:qn E' (qC (p.own dst) T') cA) (hB:qn E' (qC (fun k=> !p.own dst k) L) cB) (hg:Good E' (qg cA cB)) (hadv:Adv E c E' (qg cA cB)) (hkn:KN n E E')
 (hfr: ∀ d,fr' d→ ∀ j,E'.μ (d,j)=none):InvD N n E0 k0 a0 fr' (yj dst σ' s.1,yk p dst T' s.2) (a.put dst y) E' (qg cA cB):=by
 refine ⟨by cases dst<;>simp [Act.put,h.sz],(qeo _ _ _).trans h.df,fun t x hx=> ?_,⟨qC (p.own dst) T'++qC (fun k=> !p.own dst k) L,fun k=> ?_,yT hA hB⟩,hg,h.kn.trans hkn,h.adv.trans hadv,hfr⟩
 ·simp only [yj]at hx
  split at hx
  ·rename_i e
   subst e
   have ht:=hd t rfl
   refine ⟨y, ?_,hσ t x rfl hx⟩
   simp [Act.put,h.sz,ht]
  ·rename_i e
   obtain ⟨v,h1,h2⟩:=h.σ t x hx
   refine ⟨v, ?_,zP h2 hm⟩
   cases dst with
   |none=>exact h1
   |some d=>
    have:d ≠ t:=by rintro rfl;exact e rfl
    simp only [Act.put]
    rw [Array.getElem?_setIfInBounds_ne this];exact h1
 ·rw [qar,ZN,ZN]
  simp only [yk,hL]
  cases p.own dst k<;>simp
theorem qau {f:Nat→Option V}: ∀ {us:List Nat} {t:Nat} {x:V},qw (yh f us) t=some x→f t=some x
 |[],t,x,h=>by cases h
 |u::us,t,x,h=>by
  simp only [yh]at h
  split at h
  ·rename_i z hz
   simp only [qw]at h
   split at h
   ·rename_i e;subst e;rw [hz];exact h
   ·exact qau h
  ·exact qau h
theorem InvD.sub(h:InvD N n E0 k0 a0 fr s a E c) (hL: ∀ k,qp L k=s.2 k) (hT:qn E L c) (us:List Nat) {ks:List Key} (hn:ks.Nodup):
 ∃ cK cR,FRel N E {σ:=yh s.1 us,T:=zC s.2 ks} a.tmps cK∧qn E (qC (fun k=> !ks.contains k) L) cR∧cle (qg cK cR) c:=by
 obtain ⟨c1,c2,h1,h2,h3⟩:=qbz ks hn hT
 have he:zC s.2 ks=zC (qp L) ks:=Xw fun k _=>(hL k).symm
 refine ⟨c1,c2,⟨h.sz,fun t x hx=>h.σ t x (qau hx),by rw [he];exact h1,h.g.le (yc (jt _ _) h3)⟩,h2,h3⟩
theorem InvD.quiet(h:InvD N n E0 k0 a0 fr s a E c) {d:Nat} {x:V} {st0:St} (hp:p.k=0) (hd:d < N) (hx:Rel E x y c0) (hfr: ∀ d,fr' d→fr d):
 InvD N n E0 k0 a0 fr' (yj (some d) (st0.put d x).σ s.1,yk p (some d) (st0.put d x).T s.2) (a.put (some d) y) E c:=by
 obtain ⟨L,hL,hT⟩:=h.T
 have hown: ∀ k,p.own (some d) k=false:=fun k=>qaQ hp k
 have hf1: ∀ T:Mem,qC (p.own (some d)) T=[]:=by
  intro T;induction T with
  |nil=>rfl
  |cons z r ih=>obtain ⟨u,v⟩:=z;simp only [qC,hown,Bool.false_eq_true,if_false,ih]
 have hf2: ∀ T:Mem,qC (fun k=> !p.own (some d) k) T=T:=by
  intro T
  have e:(fun k=> !p.own (some d) k)=fun _=>true:=funext fun k=>by rw [hown k];rfl
  rw [e]
  induction T with
  |nil=>rfl
  |cons z r ih=>obtain ⟨u,v⟩:=z;simp only [qC,if_true,ih]
 have:=InvD.next (fr':=fr') (E':=E) (cA:=c0) (cB:=c) (dst:=some d) (σ':=(st0.put d x).σ) (T':=(st0.put d x).T) (y:=y) (p:=p) h hL (fun t ht=>by cases ht;exact hd) (qiY E c0)
  (fun d' x' hd' hx'=>by cases hd';simp only [St.put,qw,if_pos,Option.some.injEq]at hx';subst hx';exact hx) (by rw [hf1];rfl) (by rw [hf2];exact hT) (by rw [qV];exact h.g) (by rw [qV];exact jm _ _) kI
  (fun d' hd'=>h.fr d' (hfr d' hd'))
 rw [qV]at this;exact this
end
end Go.Vm
namespace Go.Vm
variable [Lay]
section
variable {P:Program} {N n:Nat} {E0 E E':Env} {k0 c cK cR c':Cnt} {a0 a:Act} {fr fr':Nat→Prop} {s:FS} {dst:Option Nat} {st':St} {L:Mem} {y:Value} {p:Dp} {call:qS}
theorem qi0(h:InvD N n E0 k0 a0 fr s a E c) (hkp:xx dst E E') (hdf: ∀ d,dst=some d→fr d): ∀ k l,E.μ k=some l→E'.μ k=some l:=by
 intro k l hk
 by_cases hd:dst=some k.1
 ·have:=h.fr k.1 (hdf _ hd) k.2
  rw [hk]at this;cases this
 ·rw [hkp k hd];exact hk
theorem InvD.write(h:InvD N n E0 k0 a0 fr s a E c) (hL: ∀ k,qp L k=s.2 k) (hcR:qn E (qC (fun k=> !p.ks.contains k) L) cR) (hle:cle (qg cK cR) c)
 (hp:p.k=1) (hd: ∀ t,dst=some t→t < N) (hdf: ∀ d,dst=some d→fr d) (hfr: ∀ d,fr' d→fr d∧dst ≠ some d)
 (hF:FRel N E' st' (a.put dst y).tmps c') (hkn:KN n E E') (hkp:xx dst E E') (hA:Adv E cK E' c'):
 ∃ c'',InvD N n E0 k0 a0 fr' (yj dst st'.σ s.1,yk p dst st'.T s.2) (a.put dst y) E' c'':=by
 have hμ:=qi0 h hkp hdf
 have hg:Good E (qg cK cR):=h.g.le hle
 have hmono:=Xp hg hA hμ
 have hgood:=Kw hg hA hF.g
 obtain ⟨cA,h1,h2⟩:=Q2 (p.own dst) hF.T
 have he:qC (fun k=> !p.own dst k) L=qC (fun k=> !p.own dst k) (qC (fun k=> !p.ks.contains k) L):=by
  rw [Xe]
  congr 1
  funext u
  cases hc:p.ks.contains u with
  |false=>simp
  |true=>
   have:p.own dst u=true:=by unfold Dp.own;rw [hp,hc];rfl
   rw [this];rfl
 obtain ⟨cB,h3,h4⟩:=Q2 (fun k=> !p.own dst k) (zH hcR hmono)
 rw [← he]at h3
 have hle2:cle (qg cA cB) (qg c' cR):=yJ h2 h4
 refine ⟨qg cA cB,InvD.next h hL hd (hmono.le fun _=>Nat.zero_le _) ?_ h1 h3 (hgood.le hle2) ((ZG (Kc cR hA) hle).le hle2) hkn ?_⟩
 ·intro d x hdd hx
  obtain ⟨v,hv,hr⟩:=hF.σ d x hx
  subst hdd
  have hdN:=hd d rfl
  have:(a.put (some d) y).tmps[d]? =some y:=by simp [Act.put,h.sz,hdN]
  rw [this]at hv;cases hv
  exact hr
 ·intro d hd' j
  obtain ⟨h5,h6⟩:=hfr d hd'
  rw [hkp (d,j) h6]
  exact h.fr d h5 j
theorem qlX {d:Nat} {st:St}:qC (fun k=>decide (k.1=d)) (q9 d st).T=[]:=by
 have: ∀ T:Mem,(∀ k ob,(k,ob) ∈ T→k.1 ≠ d)→qC (fun k=>decide (k.1=d)) (kW d T)=[]:=by
  intro T hT
  induction T with
  |nil=>rfl
  |cons z r ih=>
   obtain ⟨k,e,xs⟩:=z
   have hk:=hT k _ (List.mem_cons_self)
   simp only [kW,qC]
   rw [if_neg (by simpa using hk)]
   exact ih fun k ob h=>hT k ob (List.mem_cons_of_mem _ h)
 exact this _ fun k ob hk=>Xa d hk
theorem qda(f:Key→Bool): ∀ A B:Mem,qC f (A++B)=qC f A++qC f B
 |[],B=>rfl
 |(k,x)::r,B=>by
  simp only [List.cons_append,qC,qda f r B]
  split<;>rfl
theorem qan {f:Key→Bool} {g:Key→Option Ob}: ∀ {ks:List Key},(∀ k ∈ ks,f k=false)→qC f (zC g ks)=[]
 |[],h=>rfl
 |k::ks,h=>by
  simp only [zC]
  split
  ·simp only [qC,h k (List.mem_cons_self),Bool.false_eq_true,if_false]
   exact qan fun u hu=>h u (List.mem_cons_of_mem _ hu)
  ·exact qan fun u hu=>h u (List.mem_cons_of_mem _ hu)
theorem InvD.ro(h:InvD N n E0 k0 a0 fr s a E c) (hL: ∀ k,qp L k=s.2 k) (hT:qn E L c) (hp:p.k=2) (hd: ∀ t,dst=some t→t < N) (hdf: ∀ d,dst=some d→fr d) (hfr: ∀ d,fr' d→fr d∧dst ≠ some d)
 (hnk: ∀ t,dst=some t→n≤t) (hks: ∀ k ∈ p.ks,dst ≠ some k.1) {σ0:Sl} {r:V} {c5:Cnt} (hst:st'=xi dst r {σ:=σ0,T:=zC s.2 p.ks}) (hσd: ∀ d,dst=some d→True)
 (hμ:E'.μ=E.μ) (hr:Rel E'.cl r y c5) (hg5:Good E' c5) (hA:Adv E c0 E' c5):
 ∃ E4 c4,E4.w=E'.w∧InvD N n E0 k0 a0 fr' (yj dst st'.σ s.1,yk p dst st'.T s.2) (a.put dst y) E4 c4:=by
 have hg':Good E (qg c0 c):=by rw [qV];exact h.g
 have hM:Mono E E' c:=Xp hg' hA (fun k l hk=>by rw [hμ];exact hk)
 have hgood:Good E' (qg c5 c):=Kw hg' hA hg5
 have hadv:Adv E c E' (qg c5 c):=by have:=Kc c hA;rwa [qV]at this
 have hown: ∀ k,p.own dst k=decide (dst=some k.1):=fun k=>by
  simp only [Dp.own,hp]
  rw [Bool.eq_iff_iff]
  cases dst<;>simp
 obtain ⟨cB,hB,hBle⟩:=Q2 (fun k=> !p.own dst k) (zH hT hM)
 cases dst with
 |none=>
  have e1: ∀ T,qC (p.own none) T=[]:=by
   intro T;induction T with
   |nil=>rfl
   |cons z t ih=>obtain ⟨k,x⟩:=z;simp only [qC,hown k];rw [if_neg (by simp)];exact ih
  refine ⟨E',qg c0 cB,rfl,InvD.next h hL hd (hM.le fun _=>Nat.zero_le _) (fun d x hdd=>by cases hdd) (by rw [e1];rfl) hB (hgood.le ?_) (hadv.le ?_) (fun k _=>by rw [hμ]) (fun d hd' j=>by rw [hμ];exact h.fr d (hfr d hd').1 j)⟩
  ·rw [qV];exact yc hBle (yx _ _)
  ·rw [qV];exact yc hBle (yx _ _)
 |some d=>
  have hdN:=hd d rfl
  have hfree: ∀ j,E'.μ (d,j)=none:=fun j=>by rw [hμ];exact h.fr d (hdf d rfl) j
  have hownd:p.own (some d)=fun k:Key=>decide (k.1=d):=funext fun k=>by rw [hown];simp [eq_comm]
  simp only [xi,jW]at hst
  split at hst
  ·
   obtain ⟨E4,c6,j',hn,h1,h2,h3⟩:=qaN (d:=d) hfree (zP hr (xY E' c5))
   subst hst
   have hA4:qC (p.own (some d)) ((zK d r).2++(q9 d {σ:=σ0,T:=zC s.2 p.ks}).T)=qC (p.own (some d)) (zK d r).2:=by
    rw [qda,hownd,qlX,List.append_nil]
   obtain ⟨cA,h4,h5⟩:=Q2 (p.own (some d)) h2
   have hle:cle (qg cA cB) (qg c5 c):=fun b=>by have:=h5 b;have:=h3 b;have:=hBle b;simp only [qg]at*;omega
   have hMn:=hn.mono (E:=E') (E':=E4)
   have hg4:Good E4 (qg cA cB):=jw hn.hw hn.hI hle hgood
   refine ⟨E4,qg cA cB,hn.hw,InvD.next h hL hd ?_ ?_ (by simp only [hA4];exact h4) (zH hB (hn.mono _)) hg4 ?_ ?_ ?_⟩
   ·exact ⟨fun τ b hb=>⟨by rw [hn.hI];exact (hM.hI τ b hb).1,by rw [hn.hw];exact (hM.hI τ b hb).2⟩,fun b hb=>absurd rfl hb,fun k l hk=>hn.hμ k l (by rw [hμ];exact hk)⟩
   ·intro d' x hdd hx
    cases hdd
    simp only [qw,if_pos,Option.some.injEq]at hx
    subst hx;exact h1
   ·exact hadv.trans (kM hn.hw hn.hI hle)
   ·intro k hk
    rw [hn.hout k (by have:=hnk d rfl;omega),hμ]
   ·intro d' hd' j
    obtain ⟨h6,h7⟩:=hfr d' hd'
    rw [hn.hout (d',j) (by rintro rfl;exact h7 rfl),hμ]
    exact h.fr d' h6 j
  ·rename_i hz
   have h0:=QU hr (by simpa using hz)
   subst h0
   subst hst
   have e1:qC (p.own (some d)) (St.put {σ:=σ0,T:=zC s.2 p.ks} d r).T=[]:=qan fun k hk=>by
    rw [hown];simpa using hks k hk
   rw [qV]at hgood hadv
   refine ⟨E',qg c0 cB,rfl,InvD.next h hL hd (hM.le fun _=>Nat.zero_le _) ?_ (by rw [e1];rfl) hB (hgood.le ?_) (hadv.le ?_) (fun k _=>by rw [hμ]) (fun d hd' j=>by rw [hμ];exact h.fr d (hfr d hd').1 j)⟩
   ·intro d' x hdd hx
    cases hdd
    simp only [St.put,qw,if_pos,Option.some.injEq]at hx
    subst hx
    exact zP hr (xY E' c0)
   ·rw [qV];exact hBle
   ·rw [qV];exact hBle
end
end Go.Vm
namespace Go.Vm
variable [Lay]
def qbZ(l:List Nat) (x:Nat):List Nat:=if l.contains x then l else x::l
def Ke(ops:Array Oper):List (List Nat):=
 ops.toList.foldl (fun acc o=>
  acc++[((o.after.toList.filter fun e=>Region.binds .any e).map (·.on)).foldl (fun l k=>(acc.getD k []).foldl qbZ (qbZ l k)) []]) []
def Xv(plan:List Dp) (is:List AI) (anc:List (List Nat)):Bool:=
 (List.range is.length).all fun i=>(List.range i).all fun j=>match plan[j]?,is[j]?,plan[i]?,is[i]? with
  |some pj,some aj,some pi,some ai=>((anc.getD i []).contains j||qby pj aj pi ai)&&(pj.k==0||pi.k==0||YA (qt aj) (qt ai))
  |_,_,_,_=>false
def KP:List Key→Bool
 |[]=>true
 |k::ks=> !ks.contains k&&KP ks
def KU(n:Nat) (p:Dp) (h ai:AI):Bool:=
 ((p.k==0&&qa1 (Kg h))||p.k==1||(p.k==2&&roI (Kg h)))&&KP p.ks&&
   (p.k==0||(match qt ai with|some d=>decide (n≤d)&&p.ks.all (fun k=>k.1 != d)|none=>true))
def xa(n:Nat):List Dp→List AI→List AI→Bool
 |[],[],[]=>true
 |p::ps,h::hs,i::is=>KU n p h i&&xa n ps hs is
 |_,_,_=>false
def dOk(P:Program) (n:Nat) (ops:Array Oper) (plan:List Dp) (hs is:List AI):Bool:=
 P.follows .mixedOrders&&KS ops (Ke ops)&&qaJ ops&&Xv plan is (Ke ops)&&xa n plan hs is
theorem qd7: ∀ {ks:List Key},KP ks=true→ks.Nodup
 |[],h=>List.nodup_nil
 |k::ks,h=>by
  simp only [KP,Bool.and_eq_true,Bool.not_eq_true',List.contains_eq_mem,decide_eq_false_iff_not]at h
  exact List.nodup_cons.2 ⟨h.1,qd7 h.2⟩
theorem qaO {n:Nat}: ∀ {plan:List Dp} {hs is:List AI},xa n plan hs is=true→plan.length=is.length∧hs.length=is.length∧
 ∀ (i:Nat) (p:Dp) (h ai:AI),plan[i]? =some p→hs[i]? =some h→is[i]? =some ai→KU n p h ai=true
 |[],[],[],h=>⟨rfl,rfl,fun i p h ai h1=>by simp at h1⟩
 |p::ps,h::hs,a::is,hk=>by
  simp only [xa,Bool.and_eq_true]at hk
  obtain ⟨h1,h2,h3⟩:=qaO hk.2
  refine ⟨by simp [h1],by simp [h2],fun i p' h' a' e1 e2 e3=> ?_⟩
  cases i with
  |zero=>simp at e1 e2 e3;subst e1;subst e2;subst e3;exact hk.1
  |succ i=>exact h3 i p' h' a' (by simpa using e1) (by simpa using e2) (by simpa using e3)
 |[],[],_::_,h=>by simp [xa]at h
 |[],_::_,_,h=>by simp [xa]at h
 |_::_,[],_,h=>by simp [xa]at h
 |_::_,_::_,[],h=>by simp [xa]at h
def Z3(call:qS) (plan:List Dp) (is:List AI) (i:Nat) (s:FS):Option FS:=
 match plan[i]?,is[i]? with
 |some p,some ai=>jD call p ai s
 |_,_=>none
theorem qb5 {call:qS} {plan:List Dp} {is:List AI}: ∀ (ps:List Dp) (as:List AI) (k:Nat) (st st1:St),plan.drop k=ps→is.drop k=as→zr call ps as st=some st1→
 kF (Z3 call plan is) (List.range' k as.length) (Qc st)=some (Qc st1)
 |[],[],k,st,st1,h1,h2,h=>by
  simp only [zr,Option.some.injEq]at h;subst h;rfl
 |p::ps,a::as,k,st,st1,h1,h2,h=>by
  simp only [zr]at h
  split at h
  case h_2=>cases h
  rename_i st2 hs
  have hp:plan[k]? =some p:=by
   have:(plan.drop k)[0]? =some p:=by rw [h1];rfl
   simpa using this
  have ha:is[k]? =some a:=by
   have:(is.drop k)[0]? =some a:=by rw [h2];rfl
   simpa using this
  simp only [List.length_cons,List.range'_succ,kF,Z3,hp,ha,qlC hs]
  exact qb5 ps as (k+1) st2 st1 (by rw [← List.drop_drop,h1];rfl) (by rw [← List.drop_drop,h2];rfl) h
 |[],_::_,k,st,st1,h1,h2,h=>by simp [zr]at h
 |_::_,[],k,st,st1,h1,h2,h=>by simp [zr]at h
section
variable {P:Program} {N n:Nat} {E:Env} {c:Cnt} {st:St} {tmps:Array Value}
theorem qfT: ∀ (ds:List Nat) {st:St} {E:Env} {c:Cnt},FRel N E st tmps c→(∀ d ∈ ds,n≤d)→
 ∃ E' c',E'.w=E.w∧E'.I=E.I∧KN n E E'∧FRel N E' (yV ds st) tmps c'∧cle c' c∧(∀ d ∈ ds,∀ j,E'.μ (d,j)=none)∧(∀ d,(∀ j,E.μ (d,j)=none)→ ∀ j,E'.μ (d,j)=none)
 |[],st,E,c,h,hd=>⟨E,c,rfl,rfl,kI,h,qH _,fun d hd=>(by cases hd),fun d h=>h⟩
 |d::ds,st,E,c,h,hd=>by
  obtain ⟨c1,h1,h2,h3⟩:=Qe d h.σ h.T
  obtain ⟨E',c',w1,i1,k1,f1,l1,m1,m2⟩:=qfT ds (st:=q9 d st) (E:=E.drop d) (c:=c1) ⟨h.sz,h1,h2,(h.g.drop d).le h3⟩ (fun e he=>hd e (List.mem_cons_of_mem _ he))
  have hdn:=hd d (List.mem_cons_self)
  refine ⟨E',c',w1,i1,fun k hk=> ?_,f1,yc l1 h3,fun e he=> ?_,fun e he=> ?_⟩
  ·rw [k1 k hk]
   simp only [Env.drop];rw [if_neg (by omega)]
  ·rcases List.mem_cons.1 he with rfl|he
   ·exact m2 e (fun j=>kz E e j)
   ·exact m1 e he
  ·exact m2 e fun j=>by
    simp only [Env.drop]
    split
    ·rfl
    ·exact he j
end
end Go.Vm
namespace Go.Vm
variable [Lay]
section
variable {P:Program} {N n:Nat} {ops:Array Oper} {o:Oper} {E:Env} {c:Cnt} {st st':St} {a:Act} {call:qS} {ai h:AI}
theorem qkD(hC:kj P call) (hq:roI h=true) (ht:yd P N o h=some ai) (hs:qh call st ai=some st') (hf:FRel N E st a.tmps c) {Q:Exit→Act→World→Prop} {K:Act→World→Prop}
 (hK: ∀ y E3 c5 r,E3.μ=E.μ→Rel E3.cl r y c5→Good E3 c5→Adv E c0 E3 c5→st'=xi o.dst r st→K (a.put o.dst y) E3.w):o.wp P a E.w K Q:=by
 unfold roI at hq
 split at hq
 case h_2=>cases hq
 rename_i d hh hs' fz
 simp only [yd]at ht
 split at ht
 case isFalse=>cases ht
 rename_i hd
 simp only [jz,Bool.and_eq_true,decide_eq_true_eq]at hd
 obtain ⟨hd,hn⟩:=hd
 unfold Q3 at ht
 split at ht
 case h_2=>cases ht
 rename_i cl ho
 split at ht
 case h_2=>cases ht
 rename_i f hfn
 obtain ⟨f',xs',h1,h2,rfl⟩:=jb ht
 simp only [qh]at hs
 split at hs
 case h_2=>cases hs
 rename_i fv hfv
 split at hs
 case h_2=>cases hs
 rename_i g first caps xs hcal hxs
 have hrf:=qB hf.σ h1 hfv
 have hrx:=ZL hf.σ h2 hxs
 unfold callee at hcal
 split at hcal
 case h_2=>cases hcal
 rename_i g0 fi0 ca0
 simp only [Option.some.injEq,Prod.mk.injEq]at hcal
 obtain ⟨rfl,rfl,rfl⟩:=hcal
 simp only [Rel]at hrf
 obtain ⟨fs,cs,c1,c2,hv,hr1,hr2,hcc⟩:=hrf
 obtain ⟨rfl,rfl⟩:=cz hcc.symm.symm rfl
 have hL:qk E (_++xs++_) (fs.toList++cl.args.toList.map a.eval++cs.toList) c0:=x5 (x5 hr1 hrx) hr2
 simp only [xk]at hs
 split at hs
 case h_2=>cases hs
 rename_i r outs hcall
 split at hs
 case isFalse=>cases hs
 rename_i hnt
 simp only [Option.some.injEq]at hs
 have hA:=qe6 hC (fz:=fz) hcall hnt hL hf.T hf.g
 have hrun:(execOp a.eval o).run P E.w=(callFunc g0 (fs.toList++cl.args.toList.map a.eval++cs.toList).toArray).run P E.w:=by
  rw [execOp];simp only [ho,resolve,hfn,hv,Deferred.ofValue,invoke,Sem.run_bind,Sem.run_pure,Result.andThen_ok]
  congr 2
  apply Array.ext'
  simp
 unfold Oper.wp
 rw [hrun]
 have hK': ∀ y w',(∃ E3 c5,E3.w=w'∧E3.μ=E.μ∧Rel E3.cl (fzV fz r) y c5∧Good E3 c5∧(∀ b,b < E.w.heap.size→w'.heap[b]? =E.w.heap[b]?)∧Adv E c0 E3 c5)→K (a.put o.dst y) w':=by
  rintro y w' ⟨E3,c5,rfl,k1,k2,k3,-,k4⟩
  exact hK y E3 c5 _ k1 k2 k3 k4 (by rw [hd];exact hs.symm)
 unfold jn at hA
 split at hA
 ·rename_i g' args w' he
  rw [he]
  obtain ⟨rfl,hc⟩:=hA
  refine hc.mono ?_
  rintro e w'' ⟨y,rfl,h3⟩
  exact hK' y w'' h3
 ·rename_i y w' he
  rw [he]
  exact hK' y w' hA
 ·exact hA.elim
theorem qbB {ops':Array Oper}: ∀ {os:List Oper} {hs is:List AI},xf P N n ops' os hs=some is→os.length=is.length∧ ∀ (i:Nat) (o:Oper),os[i]? =some o→
 ∃ h ai,hs[i]? =some h∧is[i]? =some ai∧trI P N n ops' o h=some ai
 |[],[],is,h=>by simp only [xf,Option.some.injEq]at h;subst h;exact ⟨rfl,fun i o h=>by simp at h⟩
 |[],_::_,is,h=>by simp [xf]at h
 |_::_,[],is,h=>by simp [xf]at h
 |o::os,x::hs,is,h=>by
  simp only [xf]at h
  split at h
  case h_2=>cases h
  rename_i i is' h1 h2
  simp only [Option.some.injEq]at h;subst h
  obtain ⟨h3,h4⟩:=qbB h2
  refine ⟨by simp [h3],fun j o' hj=> ?_⟩
  cases j with
  |zero=>simp at hj;subst hj;exact ⟨x,i,rfl,rfl,h1⟩
  |succ j=>simpa using h4 j o' (by simpa using hj)
end
end Go.Vm
namespace Go.Vm
variable [Lay]
section
variable {P:Program} {N n:Nat} {ops:Array Oper} {call:qS} {plan:List Dp} {hs is:List AI}
theorem qhc {listed:Array Bool} {i:Nat} {p:Dp} {ai:AI} (hl:listed.size=ops.size) (hi:i < ops.size) (hp:plan[i]? =some p) (ha:is[i]? =some ai) (hlen:is.length=ops.size)
 (hpairs:Xv plan is (Ke ops)=true) {d:Nat} (h:xl plan is (listed.setIfInBounds i true) d):xl plan is listed d∧(p.k ≠ 0→qt ai ≠ some d):=by
 obtain ⟨j,q,aj,h1,h2,h3,h4,h5⟩:=h
 have hne:j ≠ i:=by
  rintro rfl
  have:(listed.setIfInBounds j true).getD j true=true:=by simp [Array.getD_eq_getD_getElem?,hl,hi]
  rw [this]at h1;cases h1
 rw [getD_set_ne true (Ne.symm hne)]at h1
 refine ⟨⟨j,q,aj,h1,h2,h3,h4,h5⟩,fun hk hd=> ?_⟩
 simp only [Xv,List.all_eq_true,List.mem_range]at hpairs
 have hj:j < is.length:=(List.getElem?_eq_some_iff.1 h3).1
 rcases Nat.lt_or_gt_of_ne hne with hlt|hlt
 ·have:=hpairs i (by omega) j hlt
  simp only [h2,h3,hp,ha,Bool.and_eq_true,Bool.or_eq_true,beq_iff_eq]at this
  have h6:=this.2
  rcases h6 with (h6|h6)|h6
  ·exact h4 h6
  ·exact hk h6
  ·rw [h5,hd]at h6;simp [YA]at h6
 ·have:=hpairs j hj i hlt
  simp only [h2,h3,hp,ha,Bool.and_eq_true,Bool.or_eq_true,beq_iff_eq]at this
  have h6:=this.2
  rcases h6 with (h6|h6)|h6
  ·exact hk h6
  ·exact h4 h6
  ·rw [h5,hd]at h6;simp [YA]at h6
theorem qfM {o:Oper} {h ai:AI} (ht:yd P N o h=some ai): ∀ t,o.dst=some t→t < N:=by
 cases h<;>simp only [yd]at ht<;>(first|(cases ht;done)|skip)<;>(split at ht)<;>(first|(cases ht;done)|skip)<;>rename_i hd
 case st.isTrue=>
  intro t h;have hd':o.dst=none:=by simpa using hd
  rw [hd']at h;cases h
 case mset.isTrue=>
  intro t h;have hd':o.dst=none:=by simpa using hd
  rw [hd']at h;cases h
 case mes.isTrue=>
  intro t h;have hd':o.dst=none:=by simpa using hd
  rw [hd']at h;cases h
 case call.isTrue=>
  simp only [jz,Bool.and_eq_true,decide_eq_true_eq]at hd
  intro t h
  obtain ⟨h1,h2⟩:=hd
  rw [← h1,h]at h2;simpa using h2
 all_goals
  intro t h
  obtain ⟨h1,h2⟩:=zi hd
  rw [h1]at h;cases h;exact h2
theorem qlT {o:Oper} {h ai:AI} (ht:trI P N n ops o h=some ai): ∀ t,o.dst=some t→t < N:=by
 unfold trI at ht
 split at ht
 ·split at ht
  case h_2=>cases ht
  split at ht
  case isFalse=>cases ht
  rename_i hc
  rw [Option.map_eq_some_iff]at ht
  obtain ⟨i',hi',rfl⟩:=ht
  exact qfM hi'
 ·split at ht
  case isFalse=>cases ht
  rename_i hc
  simp only [Bool.and_eq_true]at hc
  intro t h
  obtain ⟨h1,h2⟩:=zi hc.2
  rw [h1]at h;cases h;exact h2
 ·split at ht
  case isFalse=>cases ht
  exact qfM ht
theorem qgR(hC:kj P call) (hlen:is.length=ops.size) (hpl:plan.length=is.length) (htr:xf P N n ops ops.toList hs=some is) (hops:xa n plan hs is=true) (hpairs:Xv plan is (Ke ops)=true)
 {E0:Env} {k0:Cnt} {a0:Act} {Q:Exit→Act→World→Prop} (listed:Array Bool) (i:Nat) (s s1:FS) (a:Act) (w:World) (K:Act→World→Prop) (hsz:listed.size=ops.size)
 (hi:i ∈ Region.ready .any ops listed) (hF:Z3 call plan is i s=some s1) (hI: ∃ E c,E.w=w∧InvD N n E0 k0 a0 (xl plan is listed) s a E c)
 (hK: ∀ a' w',(∃ E c,E.w=w'∧InvD N n E0 k0 a0 (xl plan is (listed.setIfInBounds i true)) s1 a' E c)→K a' w'):wpOp P ops Q i K a w:=by
 obtain ⟨E,c,rfl,hI⟩:=hI
 obtain ⟨h0,o,ho,-⟩:=mem_ready.1 hi
 have hin:i < ops.size:=(Array.getElem?_eq_some_iff.1 ho).1
 obtain ⟨h,ai,hh,hai,ht⟩:=(qbB htr).2 i o (by simpa using ho)
 unfold Z3 at hF
 split at hF
 case h_2=>cases hF
 rename_i p ai' hp hai'
 rw [hai]at hai';cases hai'
 have hop:=(qaO hops).2.2 i p h ai hp hh hai
 obtain ⟨st',hg,hsome,rfl⟩:=XL.1 hF
 simp only [KU,Bool.and_eq_true,Bool.or_eq_true,beq_iff_eq]at hop
 obtain ⟨⟨hkind,hnd⟩,hal⟩:=hop
 have hnd:=qd7 hnd
 obtain ⟨L,hL,hT⟩:=hI.T
 obtain ⟨cK,cR,hFR,hcR,hle⟩:=hI.sub hL hT (qK ai) hnd
 have hfs:=fun d=> @qhc _ ops plan is listed i p ai hsz hin hp hai hlen hpairs d
 obtain ⟨hdst,hcases⟩:=qlS ht hg hFR
 have hal':p.k ≠ 0→(∀ d,qt ai=some d→n≤d)∧(∀ k ∈ p.ks,qt ai ≠ some k.1)∧(∀ d,qt ai=some d→xl plan is listed d):=by
  intro hk
  have h1:=hal.resolve_left hk
  refine ⟨fun d hd=> ?_,fun k hk' hd=> ?_,fun d hd=>⟨i,p,ai,h0,hp,hai,hk,hd⟩⟩
  ·rw [hd]at h1;simp only [Bool.and_eq_true,decide_eq_true_eq]at h1;exact h1.1
  ·rw [hd]at h1
   simp only [Bool.and_eq_true,decide_eq_true_eq,List.all_eq_true,bne_iff_ne,ne_eq]at h1
   exact h1.2 k hk' rfl
 have hdN: ∀ t,qt ai=some t→t < N:=by rw [hdst];exact qlT ht
 have hstay:p.k=0→st'=st'→(∀ (x:V) (y:Value),(qt ai=none)→InvD N n E0 k0 a0 (xl plan is (listed.setIfInBounds i true)) (yj (qt ai) st'.σ s.1,yk p (qt ai) st'.T s.2) (a.put (qt ai) y) E c):=by
  intro hk _ x y hn
  have e1:yj none st'.σ s.1=s.1:=by funext t;simp [yj]
  have e2:yk p none st'.T s.2=s.2:=by funext k;simp [yk,qaQ hk]
  rw [hn,e1,e2]
  exact ⟨hI.sz,hI.df,hI.σ,hI.T,hI.g,hI.kn,hI.adv,fun d hd=>hI.fr d (hfs d hd).1⟩
 have hquiet:p.k=0→ ∀ d x y,qt ai=some d→st'=St.put {σ:=yh s.1 (qK ai),T:=zC s.2 p.ks} d x→Rel E x y c0→K (a.put o.dst y) E.w:=by
  intro hk d x y hd hst hx
  refine hK _ _ ⟨E,c,rfl, ?_⟩
  rw [← hdst,hd,hst]
  exact hI.quiet hk (hdN d hd) hx fun d' hd'=>(hfs d' hd').1
 have hro:p.k=2→ ∀ y E3 c5 r,E3.μ=E.μ→Rel E3.cl r y c5→Good E3 c5→Adv E c0 E3 c5→st'=xi o.dst r {σ:=yh s.1 (qK ai),T:=zC s.2 p.ks}→K (a.put o.dst y) E3.w:=by
  intro hk y E3 c5 r k1 k2 k3 k4 k5
  have hk0:p.k ≠ 0:=by omega
  obtain ⟨g1,g2,g3⟩:=hal' hk0
  rw [← hdst]at k5 ⊢
  obtain ⟨E4,c4,hw4,hI4⟩:=hI.ro (fr':=xl plan is (listed.setIfInBounds i true)) hL hT hk hdN g3 (fun d hd=>⟨(hfs d hd).1,(hfs d hd).2 hk0⟩) g1 g2 k5 (fun _ _=>trivial) k1 k2 k3 k4
  rw [← hw4]
  exact hK _ _ ⟨E4,c4,rfl,hI4⟩
 unfold wpOp
 rw [ho]
 simp only
 by_cases hk1:p.k=1
 ·refine qfP hC ht hg hFR ?_
  intro y E' c' hF' hkn hkp hA
  obtain ⟨g1,g2,g3⟩:=hal' (by omega)
  rw [← hdst]at hF' hkp ⊢
  obtain ⟨c'',hI'⟩:=hI.write (fr':=xl plan is (listed.setIfInBounds i true)) hL hcR hle hk1 hdN g3 (fun d hd=>⟨(hfs d hd).1,(hfs d hd).2 (by omega)⟩) hF' hkn hkp hA
  exact hK _ _ ⟨E',c'',rfl,hI'⟩
 rcases hkind with (⟨hk,hq⟩|hk)|⟨hk,hq⟩
 ·rcases hcases with ⟨hw,hn1,hn2⟩|⟨hw,ai1,h1,h2⟩
  ·rw [hw,if_neg (by simp)]
   cases hd:qt ai with
   |none=>
    have:=hstay hk rfl (.d) undef hd
    rw [hdst]at this
    exact hK _ _ ⟨E,c,rfl,by rw [hdst];exact this⟩
   |some d=>exact hquiet hk d zX undef hd (hn2 d (by rw [← hdst,hd])).2 qfS
  ·rw [if_pos hw]
   refine .inl (qgz (qlR hq h1 h2 hFR) ?_)
   intro d x y hd hdn hst hx
   exact hquiet hk d x y (by rw [hdst,hd]) hst hx
 ·exact absurd hk hk1
 ·rcases hcases with ⟨hw,hn1,hn2⟩|⟨hw,ai1,h1,h2⟩
  ·rw [hw,if_neg (by simp)]
   refine hro hk undef E c0 zX rfl (by simp [zX,undef,Rel,zM]) (hI.g.le fun _=>Nat.zero_le _) (jm _ _) ?_
   cases hd:o.dst with
   |none=>simp only [xi];exact hn1 hd
   |some d=>
    simp only [xi,jW,zX,qZ,Bool.not_true,Bool.false_eq_true,if_false]
    exact (hn2 d hd).2
  ·rw [if_pos hw]
   exact .inl (qkD hC hq h1 h2 hFR fun y E3 c5 r k1 k2 k3 k4 k5=>hro hk y E3 c5 r k1 k2 k3 k4 k5)
end
end Go.Vm
namespace Go.Vm
variable [Lay]
section
variable {P:Program} {N n:Nat} {ops:Array Oper} {call:qS} {plan:List Dp} {hs is:List AI}
theorem Kd: ∀ {plan:List Dp} {hs is:List AI},xa n plan hs is=true→ ∀ d ∈ zF plan is,n≤d
 |[],[],[],h,d,hd=>by simp [zF]at hd
 |p::ps,h::hs,a::is,hk,d,hd=>by
  simp only [xa,Bool.and_eq_true]at hk
  simp only [zF]at hd
  split at hd
  ·exact Kd hk.2 d hd
  ·rename_i hp
   split at hd
   ·rename_i e he
    rcases List.mem_cons.1 hd with rfl|hd
    ·have h1:=hk.1
     simp only [KU,Bool.and_eq_true,Bool.or_eq_true,beq_iff_eq,he,decide_eq_true_eq]at h1
     exact (h1.2.resolve_left hp).1
    ·exact Kd hk.2 d hd
   ·exact Kd hk.2 d hd
 |[],[],_::_,h,d,hd=>by simp [xa]at h
 |[],_::_,_,h,d,hd=>by simp [xa]at h
 |_::_,[],_,h,d,hd=>by simp [xa]at h
 |_::_,_::_,[],h,d,hd=>by simp [xa]at h
theorem qb2: ∀ {plan:List Dp} {is:List AI} {i:Nat} {p:Dp} {ai:AI} {d:Nat},plan[i]? =some p→is[i]? =some ai→p.k ≠ 0→qt ai=some d→d ∈ zF plan is
 |[],is,i,p,ai,d,h1,h2,h3,h4=>by simp at h1
 |q::ps,[],i,p,ai,d,h1,h2,h3,h4=>by simp at h2
 |q::ps,b::is,0,p,ai,d,h1,h2,h3,h4=>by
  simp at h1 h2;subst h1;subst h2
  simp only [zF,if_neg h3,h4];exact List.mem_cons_self
 |q::ps,b::is,i+1,p,ai,d,h1,h2,h3,h4=>by
  have:=qb2 (plan:=ps) (is:=is) (by simpa using h1) (by simpa using h2) h3 h4
  simp only [zF]
  split
  ·exact this
  ·split
   ·exact List.mem_cons_of_mem _ this
   ·exact this
theorem qgQ(hC:kj P call) (hchk:dOk P n ops plan hs is=true) (htr:xf P N n ops ops.toList hs=some is) {st st1:St} {a:Act} {E:Env} {c:Cnt}
 (hrun:zr call plan is (yV (zF plan is) st)=some st1) (hnd:j7 st1.T=true) (hf:FRel N E st a.tmps c) {Q:Exit→Act→World→Prop}
 (hQ: ∀ a' E' c',FRel N E' st1 a'.tmps c'→a'.defers=a.defers→KN n E E'→Adv E c E' c'→Q .normal a' E'.w) {id:Nat}:(Code.region id ops true).wp P Q a E.w:=by
 simp only [dOk,Bool.and_eq_true]at hchk
 obtain ⟨⟨⟨⟨hm,hanc⟩,hback⟩,hpairs⟩,hops⟩:=hchk
 obtain ⟨hl1,hl2,-⟩:=qaO hops
 have hlen:is.length=ops.size:=by have:=(qbB htr).1;rw [Array.length_toList]at this;exact this.symm
 let E1:Env:={E with w:={E.w with drawn:=E.w.drawn+1}}
 have hM: ∀ c,Mono E E1 c:=fun c=>⟨fun τ b hb=>⟨hb,rfl⟩,fun b _=>rfl,fun k l hk=>hk⟩
 have hf1:FRel N E1 st a.tmps c:=⟨hf.sz,xq hf.σ (hM _),zH hf.T (hM _),⟨hf.g.one,hf.g.imm,hf.g.sub,hf.g.bnd,hf.g.lay.next (fun b hb=>hb) (fun b hb=>rfl)⟩⟩
 have hA1:Adv E c E1 c:=⟨fun b n h=>h,rfl,rfl,rfl,Nat.le_refl _,fun _ _ _=>rfl,fun _ _ h=>h,fun _ h=> .inl h,fun _ _ h=> .inl h⟩
 obtain ⟨E2,c2,hw2,hI2,hk2,hf2,hle2,hfree,-⟩:=qfT (n:=n) (zF plan is) hf1 (Kd hops)
 have hA2:Adv E c E2 c2:=hA1.trans (kM hw2 hI2 hle2)
 have hK2:KN n E E2:=fun k hk=>hk2 k hk
 refine wp_region_any hm ?_
 have hsz:(Array.replicate ops.size false).size=ops.size:=by simp
 have hget: ∀ i,i < ops.size→(Array.replicate ops.size false).getD i true=false:=fun i hi=>by simp [Array.getD_eq_getD_getElem?,hi]
 have hrem:yQ ops.size (Array.replicate ops.size false)=List.range ops.size:=by
  unfold yQ
  rw [List.filter_eq_self]
  intro i hi
  rw [hget i (List.mem_range.1 hi)];rfl
 have hInv0:InvD N n E c a (xl plan is (Array.replicate ops.size false)) (Qc (yV (zF plan is) st)) a E2 c2:=
  ⟨hf2.sz,rfl,fun t x hx=>hf2.σ t x hx,⟨_,fun k=>rfl,hf2.T⟩,hf2.g,hK2,hA2,fun d ⟨i,p,ai,_,h2,h3,h4,h5⟩=>hfree d (qb2 h2 h3 h4 h5)⟩
 refine qlZ (F:=Z3 call plan is) hanc hback ?_ (fun listed s a' w'=> ∃ E' c',E'.w=w'∧InvD N n E c a (xl plan is listed) s a' E' c')
  (qgR hC hlen hl1 htr hops hpairs) (s':=Qc st1) ?_ ops.size _ (Qc (yV (zF plan is) st)) a _ hsz (by rw [hrem];simp) ?_ ?_ ⟨E2,c2,hw2,hInv0⟩
 ·intro j i hj hi hcon s s1 s2 h1 h2
  simp only [Xv,List.all_eq_true,List.mem_range]at hpairs
  have:=hpairs i (by omega) j hj
  unfold Z3 at h1 h2 ⊢
  split at h1
  case h_2=>cases h1
  rename_i pj aj e1 e2
  split at h2
  case h_2=>cases h2
  rename_i pi ai e3 e4
  simp only [e1,e2,e3,e4,Bool.and_eq_true,Bool.or_eq_true]at this
  rcases this.1 with h3|h3
  ·rw [hcon]at h3;cases h3
  ·obtain ⟨s1',g1,g2⟩:=qlF h3 h1 h2
   exact ⟨s1',g1,g2⟩
 ·rintro listed a' w' ⟨E',c',rfl,hI⟩
  obtain ⟨L,hL,hT⟩:=hI.T
  obtain ⟨c'',h1,h2⟩:=qfJ hnd hT (fun k x hk=>by rw [hL];exact hk)
  exact hQ a' E' c'' ⟨hI.sz,fun t x hx=>hI.σ t x hx,h1,hI.g.le h2⟩ hI.df hI.kn (hI.adv.le h2)
 ·intro k o hk hl
  rw [hget k (Array.getElem?_eq_some_iff.1 hk).1]at hl;cases hl
 ·rw [hrem,List.range_eq_range', ← hlen]
  exact qb5 plan is 0 _ _ rfl rfl hrun
end
end Go.Vm
namespace Go.Vm
variable [Lay]
section
variable {E E':Env}
end
def zu(E:Env):Env:={E with μ:=fun k=>if NB≤k.1 then some (.emp none)else E.μ k}
mutual
theorem Xt(E:Env) (d i:Nat) (nm:Bool) (hd:nm=true→NB≤d): ∀ (x:V) (y:Value) (c:Cnt),Rel E x y c→Rel (zu E) (qI d i nm x) y c
 | .v x,y,c,h=>by simpa only [Rel,qI]using h
 | .p k a b,y,c,h=>by
   simp only [qI]
   split
   ·simp only [Rel]at h ⊢;exact h.1
   ·rename_i hk
    simp only [Rel,zu,if_neg hk]at h ⊢;exact h
 | .s k a b,y,c,h=>by
   simp only [qI]
   split
   ·simp only [Rel]at h ⊢;exact h.1
   ·rename_i hk
    simp only [Rel,zu,if_neg hk]at h ⊢;exact h
 | .q τ xs a b,y,c,h=>by simp only [Rel,qI]at h ⊢;exact h
 | .i τ xs,y,c,h=>by simp only [Rel,qI]at h ⊢;exact h
 | .o e xs,y,c,h=>by simp only [Rel,qI]at h ⊢;exact h
 | .n e,y,c,h=>by
   simp only [qI]
   split
   ·rename_i hn
    simp only [Rel]at h ⊢
    obtain ⟨rfl,rfl⟩:=h
    refine ⟨by trivial,.inl ⟨none,by simp only [zu,if_pos (hd hn)], ?_⟩⟩
    simp
   ·simpa only [Rel]using h
 | .b x,y,c,h=>by simp only [Rel,qI]at h ⊢;exact h
 | .f fn xs ys,y,c,h=>by
   simp only [Rel,qI]at h ⊢
   obtain ⟨fs,cs,c1,c2,hy,h1,h2,h3⟩:=h
   exact ⟨fs,cs,c1,c2,hy,Xs E d i false (fun h=>by cases h) xs _ _ h1,Xs E d i false (fun h=>by cases h) ys _ _ h2,h3⟩
 | .a xs,y,c,h=>by
   simp only [Rel,qI]at h ⊢
   obtain ⟨vs,hy,h⟩:=h
   exact ⟨vs,hy,Xs E d i nm hd xs _ _ h⟩
 | .t xs,y,c,h=>by
   simp only [Rel,qI]at h ⊢
   obtain ⟨vs,hy,h⟩:=h
   exact ⟨vs,hy,Xs E d i false (fun h=>by cases h) xs _ _ h⟩
 | .m k,y,c,h=>by
   simp only [qI]
   split
   ·simp only [Rel]at h ⊢;exact h.1
   ·rename_i hk
    simp only [Rel,zu,if_neg hk]at h ⊢;exact h
 | .w none es,y,c,h=>by simp only [Rel,qI]at h ⊢;exact h
 | .w (some _) es,y,c,h=>by simp only [Rel,qI]at h ⊢;exact h
 | .d,y,c,h=>by simpa only [Rel,qI]using h
theorem Xs(E:Env) (d i:Nat) (nm:Bool) (hd:nm=true→NB≤d): ∀ (xs:List V) (ys:List Value) (c:Cnt),qk E xs ys c→qk (zu E) (zN d i nm xs) ys c
 |[],ys,c,h=>by simpa only [qk,zN]using h
 |x::xs,ys,c,h=>by
  simp only [qk,zN]at h ⊢
  obtain ⟨y,ys',c1,c2,hy,h1,h2,h3⟩:=h
  exact ⟨y,ys',c1,c2,hy,Xt E d i nm hd x _ _ h1,Xs E d (i+1) nm hd xs _ _ h2,h3⟩
end
theorem qaG(d:Nat) (nm:Bool): ∀ (xs:List V) (i:Nat),(zN d i nm xs).length=xs.length
 |[],_=>rfl
 |x::xs,i=>by simp only [zN,List.length_cons,qaG d nm xs (i+1)]
theorem qaH(d i:Nat) (nm:Bool) (x:V):(qI d i nm x).cells.length=x.cells.length:=by
 cases x<;>simp only [qI]<;>first
  |rfl
  |(split<;>rfl)
  |(simp only [V.cells,qaG])
theorem qdQ(E:Env) (d:Nat) {e:Nat}: ∀ (xs:List V) (i:Nat) (ys:List Value) (c:Cnt),ql E e xs ys c→ql (zu E) e (zN d i false xs) ys c
 |[],i,ys,c,h=>h
 |x::xs,i,ys,c,h=>by
  simp only [ql,zN]at h ⊢
  obtain ⟨y,ys',c1,c2,h1,h2,h3,h4,h5,h6,h7⟩:=h
  exact ⟨y,ys',c1,c2,h1,h2,by rw [qaH];exact h3,h4,Xt E d i false (fun h=>by cases h) _ _ _ h5,qdQ E d xs (i+1) _ _ h6,h7⟩
theorem qa4 {E E':Env} (hc:E'.cl=E.cl) {e:Nat} {xs:List V} {ys:List Value} {c:Cnt} (h:ql E e xs ys c) (hx:qu xs=true):ql E' e xs ys c:=
 zZ (by rw [hc];exact K2 h hx) (xY E' c)
theorem qi3(E:Env) (d i:Nat) (bx:Bool) (hd:NB≤d) {e:Nat} {xs:List V} {ys:List Value} {c:Cnt} (h:ql E e xs ys c):ql (zu E) e (xI d i bx xs) ys c:=by
 have hall: ∀ xs,ql E e xs ys c→ql (zu E) e (if qu xs then xs else zN 0 0 false xs) ys c:=by
  intro xs h
  split
  ·rename_i hc;exact qa4 (E:=E) (E':=zu E) rfl h hc
  ·exact qdQ E 0 xs 0 ys c h
 unfold xI
 split
 ·rename_i x
  have hone: ∀ g:V→V,(∀ y c,Rel E x y c→Rel (zu E) (g x) y c)→(g x).cells.length=x.cells.length→ql (zu E) e [g x] ys c:=by
   intro g hg hl
   simp only [ql]at h ⊢
   obtain ⟨y,ys',c1,c2,h1,h2,h3,h4,h5,h6,h7⟩:=h
   exact ⟨y,ys',c1,c2,h1,h2,by rw [hl];exact h3,h4,hg _ _ h5,h6,h7⟩
  split
  ·exact hone (qI d i true) (fun y c h=>Xt E d i true (fun _=>hd) x y c h) (qaH _ _ _ _)
  ·split
   ·rename_i hc;exact qa4 (E:=E) (E':=zu E) rfl h (by simp only [qu,hc,Bool.and_self])
   ·exact hone (qI 0 0 false) (fun y c h=>Xt E 0 0 false (fun h=>by cases h) x y c h) (qaH _ _ _ _)
 ·exact hall _ h
theorem qcY(E:Env) {k:Key} (hk:NB≤k.1) (e:Nat):yC (zu E) k (e,[]) c0:= .inr (.inl ⟨⟨none,by simp only [zu,if_pos hk]⟩,rfl,rfl⟩)
theorem qaF(E:Env) (d:Nat) (hd:NB≤d): ∀ (xs:List V) (i:Nat),qn (zu E) (k9 d i xs) c0
 |[],i=>by simp only [k9,qn]
 |x::xs,i=>by
  cases x<;>simp only [k9]<;>first
   |exact qaF E d hd xs (i+1)
   |exact ⟨c0,c0,qcY E hd _,qaF E d hd xs (i+1),rfl⟩
theorem qdT(E:Env) (d i:Nat) (hd:NB≤d) (x:V):qn (zu E) (zT d i x) c0:=by
 cases x<;>simp only [zT]<;>first
  |exact qaF E d hd _ i
  |exact ⟨c0,c0,qcY E hd _,rfl,rfl⟩
  |rfl
theorem qi4 {E:Env} {σ:Sl} {tmps:Array Value} (h:zo E σ tmps):zo (zu E) (y8 σ) tmps:=by
 have hget: ∀ (σ:Sl) t z,qw (y8 σ) t=some z→ ∃ x,qw σ t=some x∧z=qI (NB+t) 0 true x:=by
  intro σ
  induction σ with
  |nil=>intro t z h;simp [y8,qw]at h
  |cons p r ih=>
   obtain ⟨u,x⟩:=p
   intro t z h
   simp only [y8,qw]at h ⊢
   split at h
   ·rename_i hu;subst hu
    simp only [Option.some.injEq]at h
    rw [if_pos rfl];exact ⟨x,rfl,h.symm⟩
   ·rename_i hu;rw [if_neg hu];exact ih t z h
 intro t z hz
 obtain ⟨x,hx,rfl⟩:=hget σ t z hz
 obtain ⟨y,h1,h2⟩:=h t x hx
 exact ⟨y,h1,Xt E _ 0 true (fun _=>Nat.le_add_right _ _) x y c0 h2⟩
theorem qdR(E:Env): ∀ (σ:Sl),qn (zu E) (xJ σ) c0
 |[]=>rfl
 |(t,x)::r=>by
  simp only [xJ]
  have:=yT (qdT E (NB+t) 0 (Nat.le_add_right _ _) x) (qdR E r)
  rwa [qV]at this
theorem qdS {E:Env} (bx:List Key): ∀ {T:Mem} {c:Cnt},qn E T c→ ∃ c',qn (zu E) (yq bx T) c'∧cle c' c
 |[],c,h=>⟨c,h,qH _⟩
 |(k,e,xs)::r,c,h=>by
  obtain ⟨c1,c2,h1,h2,rfl⟩:=h
  obtain ⟨c3,h3,h4⟩:=qdS bx h2
  simp only [yq]
  split
  ·exact ⟨c3,h3,yc h4 (yx _ _)⟩
  ·rename_i hk
   have hom:qn (zu E) (QN (2*NB+k.1) (10*k.2) (yL k bx) xs) c0:=by
    unfold QN
    split
    ·split
     ·exact qdT E _ _ (by omega) _
     ·rfl
    ·rfl
   have hob:yC (zu E) k (e,xI (2*NB+k.1) (10*k.2) (yL k bx) xs) c1:=by
    rcases h1 with ⟨b,ents,clk,es,q1,q2,q3,q4,q5⟩|⟨⟨A,hA⟩,hn,hc⟩|⟨b,base,lim,cells,T,fz,c5,g1,g2,g3,g4,g5,g6,rfl⟩
    ·simp only at q4;subst q4
     refine .inl ⟨b,ents,clk,es,by simp only [zu,if_neg hk];exact q1,q2,q3, ?_,q5⟩
     simp [xI,qI,clE,clB]
    ·simp only at hn;subst hn
     refine .inr (.inl ⟨⟨A,by simp only [zu,if_neg hk];exact hA⟩, ?_,hc⟩)
     simp [xI,qu]
    ·have hlen:(xI (2*NB+k.1) (10*k.2) (yL k bx) xs).length=xs.length:=by
      unfold xI
      split
      ·split
       ·rfl
       ·split<;>rfl
      ·split
       ·rfl
       ·exact qaG _ _ _ _
     refine .inr (.inr ⟨b,base,lim,cells,T,fz,c5,by simp only [zu,if_neg hk];exact g1,g2,g3,g4, ?_, ?_,rfl⟩)
     ·simp only at g5 ⊢;rw [hlen];exact g5
     ·simp only at g6 ⊢;rw [hlen];exact qi3 E _ _ _ (by omega) g6
   refine ⟨qg c1 c3, ?_,yJ (qH _) h4⟩
   have:=yT hom (show qn (zu E) ((k,e,xI (2*NB+k.1) (10*k.2) (yL k bx) xs)::yq bx r) (qg c1 c3)from ⟨c1,c3,hob,h3,rfl⟩)
   rwa [qV]at this
def x8(tb:List Key) (E:Env):Env:={E with μ:=fun k=>if k.1=CN then (tb[k.2]?).bind E.μ else E.μ k}
theorem qdr {k:Key}: ∀ {tb:List Key} {i j:Nat},j3 k i tb=some j→i≤j∧tb[j - i]? =some k
 |[],i,j,h=>by simp [j3]at h
 |u::r,i,j,h=>by
  simp only [j3]at h
  split at h
  ·rename_i hu;simp only [Option.some.injEq]at h;subst h;subst hu;simp
  ·obtain ⟨h1,h2⟩:=qdr h
   refine ⟨by omega, ?_⟩
   rw [show j - i=(j - (i+1))+1 by omega]
   simpa using h2
theorem QV {tb:List Key} {E:Env} {k k':Key} {l:Loc} (h:yR tb k=some k') (hl:E.μ k=some l):(x8 tb E).μ k'=some l:=by
 unfold yR at h
 split at h
 ·rename_i i hi
  simp only [Option.some.injEq]at h;subst h
  obtain ⟨-,h2⟩:=qdr hi
  simp only [Nat.sub_zero]at h2
  simp only [x8,if_true,h2,Option.bind_some,hl]
 ·split at h
  ·cases h
  ·rename_i hk
   simp only [Option.some.injEq]at h;subst h
   simp only [x8,if_neg hk,hl]
mutual
theorem qbc(tb:List Key) (E:Env): ∀ (x:V) (y:Value) (c:Cnt),Rel E x y c→Rel (x8 tb E) (qR tb x) y c
 | .v x,y,c,h=>by simpa only [Rel,qR]using h
 | .p k a b,y,c,h=>by
   simp only [qR]
   simp only [Rel]at h
   obtain ⟨h0,b',base,e,lim,h1,h2⟩:=h
   split
   ·rename_i k' hk
    simp only [Rel]
    exact ⟨h0,b',base,e,lim,QV hk h1,h2⟩
   ·simp only [Rel];exact h0
 | .s k a b,y,c,h=>by
   simp only [qR]
   simp only [Rel]at h
   obtain ⟨h0,h⟩:=h
   split
   ·rename_i k' hk
    simp only [Rel]
    refine ⟨h0, ?_⟩
    rcases h with ⟨A,h1,h2⟩|⟨b',base,e,lim,cap,A,h1,h2⟩
    ·exact .inl ⟨A,QV hk h1,h2⟩
    ·exact .inr ⟨b',base,e,lim,cap,A,QV hk h1,h2⟩
   ·simp only [Rel];exact h0
 | .q τ xs a b,y,c,h=>by simp only [Rel,qR]at h ⊢;exact h
 | .i τ xs,y,c,h=>by simp only [Rel,qR]at h ⊢;exact h
 | .o e xs,y,c,h=>by simp only [Rel,qR]at h ⊢;exact h
 | .n e,y,c,h=>by simpa only [Rel,qR]using h
 | .b x,y,c,h=>by simp only [Rel,qR]at h ⊢;exact h
 | .f fn xs ys,y,c,h=>by
   simp only [Rel,qR]at h ⊢
   obtain ⟨fs,cs,c1,c2,hy,h1,h2,h3⟩:=h
   exact ⟨fs,cs,c1,c2,hy,XF tb E xs _ _ h1,XF tb E ys _ _ h2,h3⟩
 | .a xs,y,c,h=>by
   simp only [Rel,qR]at h ⊢
   obtain ⟨vs,hy,h⟩:=h
   exact ⟨vs,hy,XF tb E xs _ _ h⟩
 | .t xs,y,c,h=>by
   simp only [Rel,qR]at h ⊢
   obtain ⟨vs,hy,h⟩:=h
   exact ⟨vs,hy,XF tb E xs _ _ h⟩
 | .m k,y,c,h=>by
   simp only [qR]
   simp only [Rel]at h
   obtain ⟨h0,b',h1,h2⟩:=h
   split
   ·rename_i k' hk
    simp only [Rel]
    exact ⟨h0,b',QV hk h1,h2⟩
   ·simp only [Rel];exact h0
 | .w none es,y,c,h=>by simp only [Rel,qR]at h ⊢;exact h
 | .w (some _) es,y,c,h=>by simp only [Rel,qR]at h ⊢;exact h
 | .d,y,c,h=>by simpa only [Rel,qR]using h
theorem XF(tb:List Key) (E:Env): ∀ (xs:List V) (ys:List Value) (c:Cnt),qk E xs ys c→qk (x8 tb E) (zV tb xs) ys c
 |[],ys,c,h=>by simpa only [qk,zV]using h
 |x::xs,ys,c,h=>by
  simp only [qk,zV]at h ⊢
  obtain ⟨y,ys',c1,c2,hy,h1,h2,h3⟩:=h
  exact ⟨y,ys',c1,c2,hy,qbc tb E x _ _ h1,XF tb E xs _ _ h2,h3⟩
end
theorem qbb(tb:List Key): ∀ (xs:List V),(zV tb xs).length=xs.length
 |[]=>rfl
 |x::xs=>by simp only [zV,List.length_cons,qbb tb xs]
theorem qkv(tb:List Key) (x:V):(qR tb x).cells.length=x.cells.length:=by
 cases x<;>simp only [qR]<;>first
  |rfl
  |(split<;>rfl)
  |(simp only [V.cells,qbb])
theorem qe2(tb:List Key) (E:Env) {e:Nat}: ∀ (xs:List V) (ys:List Value) (c:Cnt),ql E e xs ys c→ql (x8 tb E) e (zV tb xs) ys c
 |[],ys,c,h=>h
 |x::xs,ys,c,h=>by
  simp only [ql,zV]at h ⊢
  obtain ⟨y,ys',c1,c2,h1,h2,h3,h4,h5,h6,h7⟩:=h
  exact ⟨y,ys',c1,c2,h1,h2,by rw [qkv];exact h3,h4,qbc tb E _ _ _ h5,qe2 tb E xs _ _ h6,h7⟩
theorem qku {E:Env} (tb:List Key) {σ:Sl} {tmps:Array Value} (h:zo E σ tmps):zo (x8 tb E) (jd tb σ) tmps:=by
 have hget: ∀ (σ:Sl) t z,qw (jd tb σ) t=some z→ ∃ x,qw σ t=some x∧z=qR tb x:=by
  intro σ
  induction σ with
  |nil=>intro t z h;simp [jd,qw]at h
  |cons p r ih=>
   obtain ⟨u,x⟩:=p
   intro t z h
   simp only [jd,qw]at h ⊢
   split at h
   ·rename_i hu;subst hu
    simp only [Option.some.injEq]at h
    rw [if_pos rfl];exact ⟨x,rfl,h.symm⟩
   ·rename_i hu;rw [if_neg hu];exact ih t z h
 intro t z hz
 obtain ⟨x,hx,rfl⟩:=hget σ t z hz
 obtain ⟨y,h1,h2⟩:=h t x hx
 exact ⟨y,h1,qbc tb E x y c0 h2⟩
theorem qe3 {E:Env} (tb:List Key): ∀ {T:Mem} {c:Cnt},qn E T c→ ∃ c',qn (x8 tb E) (x9 tb T) c'∧cle c' c
 |[],c,h=>⟨c,h,qH _⟩
 |(k,e,xs)::r,c,h=>by
  obtain ⟨c1,c2,h1,h2,rfl⟩:=h
  obtain ⟨c3,h3,h4⟩:=qe3 tb h2
  simp only [x9]
  split
  ·rename_i k' hk
   have hob:yC (x8 tb E) k' (e,if qu xs then xs else zV tb xs) c1:=by
    have hlen:(if qu xs then xs else zV tb xs).length=xs.length:=by
     split
     ·rfl
     ·exact qbb _ _
    rcases h1 with ⟨b,ents,clk,es,q1,q2,q3,q4,q5⟩|⟨⟨A,hA⟩,hn,hc⟩|⟨b,base,lim,cells,T,fz,c5,g1,g2,g3,g4,g5,g6,rfl⟩
    ·simp only at q4;subst q4
     exact .inl ⟨b,ents,clk,es,QV hk q1,q2,q3,by simp [qu,clE,clB],q5⟩
    ·simp only at hn;subst hn
     exact .inr (.inl ⟨⟨A,QV hk hA⟩,by simp [qu],hc⟩)
    ·refine .inr (.inr ⟨b,base,lim,cells,T,fz,c5,QV hk g1,g2,g3,g4, ?_, ?_,rfl⟩)
     ·simp only at g5 ⊢;rw [hlen];exact g5
     ·simp only at g6 ⊢;rw [hlen]
      split
      ·rename_i hc;exact qa4 (E:=E) (E':=x8 tb E) rfl g6 hc
      ·exact qe2 tb E xs _ _ g6
   exact ⟨qg c1 c3,⟨c1,c3,hob,h3,rfl⟩,yJ (qH _) h4⟩
  ·exact ⟨c3,h3,yc h4 (yx _ _)⟩
theorem qgx(n:Nat):YD (zt n):=by
 intro E T x y c1 c2 hT h
 unfold zt
 split
 ·rename_i hc;exact ⟨c1,c2,hT,K6 h hc,qH _,rfl⟩
 ·exact QB n E T x y c1 c2 hT h
theorem qgv {E:Env} {T:Mem} {c:Cnt} (k:Key) (h:qn E T c): ∃ c',qn E (QA T k) c'∧cle c' c:=by
 unfold QA
 split
 ·exact ⟨c,h,qH _⟩
 ·rename_i ob hg
  split
  ·exact ⟨c,h,qH _⟩
  ·obtain ⟨e,xs⟩:=ob
   obtain ⟨c1,c2,h1,h2,rfl⟩:=zW h hg
   rcases h1 with ⟨b,ents,clk,es,q1,q2,q3,q4,q5⟩|⟨⟨A,hA⟩,hn,rfl⟩|⟨b,base,lim,cells,Tt,fz,c5,g1,g2,g3,g4,g5,g6,rfl⟩
   ·rename_i hcl
    simp only at q4;subst q4
    simp [qu,clE,clB]at hcl
   ·simp only at hn;subst hn
    refine ⟨qg c0 c2,⟨c0,c2,.inr (.inl ⟨⟨A,hA⟩,by simp [qx],rfl⟩),by simpa [qx]using h2,rfl⟩,qH _⟩
   ·obtain ⟨d1,d2,k1,k2,k3⟩:=qa7 (qgx 30) h2 g6
    have hlen:=KL (zt 30) (qy T k) xs
    refine ⟨qg (qg (qv b) d2) d1,⟨qg (qv b) d2,d1,.inr (.inr ⟨b,base,lim,cells,Tt,fz,d2,g1,g2,g3,g4, ?_, ?_,rfl⟩),k1,rfl⟩, ?_⟩
    ·simp only at g5 ⊢;rw [hlen];exact g5
    ·simp only at g6 ⊢;rw [hlen];exact zZ k2 (xY E d2)
    ·intro z;have:=k3 z;simp only [qg]at*;omega
theorem qaa {E:Env} (bx:List Key): ∀ (ks:List Key) {T:Mem} {c:Cnt},qn E T c→ ∃ c',qn E (kR bx ks T) c'∧cle c' c
 |[],T,c,h=>⟨c,h,qH _⟩
 |k::ks,T,c,h=>by
  simp only [kR]
  split
  ·exact qaa bx ks h
  ·obtain ⟨c1,h1,h2⟩:=qgv k h
   obtain ⟨c3,h3,h4⟩:=qaa bx ks h1
   exact ⟨c3,h3,yc h4 h2⟩
theorem qll {E:Env} {T:Mem} {c:Cnt} (bx k0:List Key) (h:qn E T c): ∃ c',qn E (QZ bx k0 T) c'∧cle c' c:=by
 unfold QZ
 obtain ⟨c1,h1,h1'⟩:=qaa bx k0 h
 obtain ⟨c3,h3,h3'⟩:=Jm k0 h1
 exact ⟨c3,h3,yc h3' h1'⟩
theorem qgl {E:Env} {σ:Sl} {T:Mem} {tmps:Array Value} {c:Cnt} (n:Nat) (bx:List Key) (hσ:zo E σ tmps) (hT:qn E T c):
 ∃ E' c',E'.w=E.w∧E'.I=E.I∧(∀ k:Key,k.1 < CN→E'.μ k=E.μ k)∧zo E' (jX n bx σ T).σ tmps∧qn E' (jX n bx σ T).T c'∧cle c' c:=by
 obtain ⟨c1,h1,h1'⟩:=qdS bx hT
 have h2:=yT (qdR E σ) h1
 rw [qV]at h2
 obtain ⟨c4,h4,h4'⟩:=Jm (yK (y8 σ)++yH (xJ σ++yq bx T) bx) h2
 obtain ⟨c3,h3,h3'⟩:=qe3 (xG n (yK (y8 σ)++yH (xJ σ++yq bx T) bx)) h4
 refine ⟨x8 (xG n (yK (y8 σ)++yH (xJ σ++yq bx T) bx)) (zu E),c3,rfl,rfl, ?_,qku _ (qi4 hσ),h3,yc h3' (yc h4' h1')⟩
 intro k hk
 have e1: ¬ k.1=CN:=by omega
 have e2: ¬ NB≤k.1:=by unfold CN at hk;unfold NB;omega
 simp only [x8,if_neg e1,zu,if_neg e2]
theorem qen {N:Nat} {E:Env} {st:St} {tmps:Array Value} {c:Cnt} (ls:List Nat) (ks:List Key) (hf:FRel N E st tmps c):
 ∃ E' c',E'.w=E.w∧E'.I=E.I∧(∀ k:Key,k.1 < CN→E'.μ k=E.μ k)∧FRel N E' (xb ls ks st) tmps c'∧cle c' c:=by
 obtain ⟨c1,h1,h1'⟩:=qll (yo (zl st.σ ls)) (yK (zl st.σ ls)++yH st.T (yo (zl st.σ ls))) hf.T
 obtain ⟨E',c',hw,hI,hμ,hσ,hT,hle⟩:=qgl (Y5 ks) (yo (zl st.σ ls)) (qfe hf.σ ls) h1
 have hle':=yc hle h1'
 exact ⟨E',c',hw,hI,hμ,⟨hf.sz,hσ,hT,jw hw hI hle' hf.g⟩,hle'⟩
end Go.Vm
namespace Go.Vm
variable [Lay]
theorem qjf {N:Nat} {E:Env} {st:St} {tmps:Array Value} {c:Cnt} (d:Nat) (k:Key) (i:Nat) (hf:FRel N E st tmps c):
 ∃ E' c',E'.w=E.w∧E'.I=E.I∧(∀ k:Key,k.1 ≠ d→E'.μ k=E.μ k)∧FRel N E' (ZR d k i (q9 d st)) tmps c'∧cle c' c:=by
 obtain ⟨c1,hσ1,hT1,hle1⟩:=Qe d hf.σ hf.T
 have hself:FRel N (E.drop d) (q9 d st) tmps c1:=⟨hf.sz,hσ1,hT1,(hf.g.drop d).le hle1⟩
 have hdrop: ∀ k:Key,k.1 ≠ d→(E.drop d).μ k=E.μ k:=(XG E d).hμ
 have hnone: ∃ E' c',E'.w=E.w∧E'.I=E.I∧(∀ k:Key,k.1 ≠ d→E'.μ k=E.μ k)∧FRel N E' (q9 d st) tmps c'∧cle c' c:=
  ⟨E.drop d,c1,rfl,rfl,hdrop,hself,hle1⟩
 unfold ZR
 split
 case h_2=>exact hnone
 rename_i ob hg
 split
 case h_2=>exact hnone
 rename_i x hx
 obtain ⟨co,cr,hob,hrest,rfl⟩:=zW hT1 hg
 rcases hob with ⟨b,ents,clk,es,q1,q2,q3,q4,q5⟩|⟨⟨A0,hn1⟩,hn2,-⟩|⟨b,base,lim,cells,ty,fz,ce,hμ,hw,hl,hf',hs,hr,rfl⟩
 ·rw [q4]at hx
  have hi:i=0:=by
   cases i with
   |zero=>rfl
   |succ i=>simp at hx
  subst hi
  simp only [List.getElem?_cons_zero,Option.some.injEq]at hx
  subst hx
  have e1:(qG d 0 (.w (some true) es)).2.2=[]:=rfl
  have e2:(qG d 0 (.w (some true) es)).1= .w (some true) es:=rfl
  rw [e1,e2,q4]
  exact ⟨E.drop d,_,rfl,rfl,hdrop,⟨hf.sz,hσ1,⟨co,cr,.inl ⟨b,ents,clk,es,q1,q2,q3,rfl,q5⟩,hrest,rfl⟩,(hf.g.drop d).le hle1⟩,hle1⟩
 ·rw [hn2]at hx;simp at hx
 obtain ⟨yv,d0,d1,d2,e1,hs1,hl1,ho1,hr0,hr1,hr2,rfl⟩:=K5 hr hx
 obtain ⟨E2,cO,hn,hzz,hTO,hleO⟩:=KV (d:=d) (j:=0) (fun i _=>kz E d i) hr1
 have hcl:=qeb d 0 x
 have hidx:i < ob.2.length:=(List.getElem?_eq_some_iff.1 hx).1
 have hR:=qa5 hx (zZ hr0 (hn.mono _)) hs1 (by rw [hcl];exact hl1) ho1 hzz (zZ hr2 (hn.mono _))
 have hseg:(seg cells base (ob.2.length*ob.1)).take (i*ob.1)++yv.cells.toList++(seg cells base (ob.2.length*ob.1)).drop (i*ob.1+ob.1)=seg cells base (ob.2.length*ob.1):=by
  rw [← e1,List.append_assoc, ← List.drop_drop,List.take_append_drop,List.take_append_drop]
 rw [hseg]at hR
 have hO:yC E2 k (ob.1,ob.2.set i (qG d 0 x).1) (qg (qv b) (qg (qg d0 c0) d2)):=
  .inr (.inr ⟨b,base,lim,cells,ty,fz,_,hn.hμ _ _ hμ,by rw [hn.hw];exact hw,hl,hf',by simpa using hs,by simpa using hR,rfl⟩)
 have hTT:qn E2 ((qG d 0 x).2.2++((k,ob.1,ob.2.set i (qG d 0 x).1)::qy (q9 d st).T k)) (qg cO (qg (qg (qv b) (qg (qg d0 c0) d2)) cr)):=
  yT hTO ⟨_,_,hO,zH hrest (hn.mono _),rfl⟩
 have hcle:cle (qg cO (qg (qg (qv b) (qg (qg d0 c0) d2)) cr)) c:=by
  intro z
  have q1:=hle1 z;have q2:=hleO z
  simp only [qg,c0]at*;omega
 exact ⟨E2,_,hn.hw,hn.hI,fun k hk=>by rw [hn.hout k (fun h=>hk h)];exact hdrop k hk,⟨hf.sz,xq hσ1 (hn.mono _),hTT,jw hn.hw hn.hI hcle (hf.g.drop d)⟩,hcle⟩
theorem Xu {N n:Nat}: ∀ (os:List (Nat × Key × Nat)) {E:Env} {st:St} {tmps:Array Value} {c:Cnt},(os.all fun o=>decide (n≤o.1))=true→FRel N E st tmps c→
 ∃ E' c',E'.w=E.w∧E'.I=E.I∧KN n E E'∧FRel N E' (xo os st) tmps c'∧cle c' c
 |[],E,st,tmps,c,_,hf=>⟨E,c,rfl,rfl,kI,hf,qH _⟩
 |(d,k,i)::os,E,st,tmps,c,ho,hf=>by
  simp only [List.all_cons,Bool.and_eq_true,decide_eq_true_eq]at ho
  obtain ⟨E1,c1,h1,h2,h3,h4,h5⟩:=qjf d k i hf
  obtain ⟨E2,c2,g1,g2,g3,g4,g5⟩:=Xu os ho.2 h4
  exact ⟨E2,c2,g1.trans h1,g2.trans h2,KN.trans (fun k hk=>h3 k (by omega)) g3,g4,yc g5 h5⟩
theorem qcV(n:Nat) (σ:Sl) (d r:Nat) (i:Option Nat) (h:n≤d):((xU σ d r i).all fun o=>decide (n≤o.1))=true:=by
 unfold xU
 split
 ·split<;>simp [h]
 ·split
  ·split
   ·simp [h]
   ·rfl
  ·rfl
 ·rfl
theorem qgS(n:Nat) (st:St) (d r:Nat) (i:Option Nat) (h:n≤d):((QE st d r i).all fun o=>decide (n≤o.1))=true:=by
 unfold QE
 split
 ·rfl
 ·split
  ·split
   ·split
    ·simp [h]
    ·rfl
   ·rfl
  ·rfl
theorem qaM {N n:Nat}: ∀ (os:List (Nat × Nat × Option Nat)) {E:Env} {st:St} {tmps:Array Value} {c:Cnt},(os.all fun o=>decide (n≤o.1))=true→FRel N E st tmps c→
 ∃ E' c',E'.w=E.w∧E'.I=E.I∧KN n E E'∧FRel N E' (kE os st) tmps c'∧cle c' c
 |[],E,st,tmps,c,_,hf=>⟨E,c,rfl,rfl,kI,hf,qH _⟩
 |(d,r,none)::os,E,st,tmps,c,ho,hf=>by
  simp only [List.all_cons,Bool.and_eq_true,decide_eq_true_eq]at ho
  obtain ⟨E1,c1,h1,h2,h3,h4,h5⟩:=Xu (xU st.σ d r none) (qcV n st.σ d r none ho.1) hf
  obtain ⟨E2,c2,g1,g2,g3,g4,g5⟩:=qaM os ho.2 h4
  exact ⟨E2,c2,g1.trans h1,g2.trans h2,KN.trans h3 g3,g4,yc g5 h5⟩
 |(d,r,some i)::os,E,st,tmps,c,ho,hf=>by
  simp only [List.all_cons,Bool.and_eq_true,decide_eq_true_eq]at ho
  obtain ⟨E0,c0',f1,f2,f3,f4,f5⟩:=Xu (QE st d r (some i)) (qgS n st d r (some i) ho.1) hf
  obtain ⟨E1,c1,h1,h2,h3,h4,h5⟩:=Xu (xU st.σ d r (some i)) (qcV n st.σ d r (some i) ho.1) f4
  obtain ⟨E2,c2,g1,g2,g3,g4,g5⟩:=qaM os ho.2 h4
  exact ⟨E2,c2,g1.trans (h1.trans f1),g2.trans (h2.trans f2),KN.trans f3 (KN.trans h3 g3),g4,yc g5 (yc h5 f5)⟩
end Go.Vm
namespace Go.Vm
variable [Lay]
section
variable (P:Program) (N n:Nat)
def trC:Code→AC→Option AC
 |code,.opn os hx=>match trC code hx with
  |some x'=>if (os.all fun o=>decide (n≤o.1))=true then some (.opn os x')else none
  |none=>none
 |code,.opd os hx=>match trC code hx with
  |some x'=>if (os.all fun o=>decide (n≤o.1))=true then some (.opd os x')else none
  |none=>none
 |code,.nam ls ks hx=>match trC code hx with
  |some x'=>if n≤CN then some (.nam ls ks x')else none
  |none=>none
 |code,.keep ls hx=>match trC code hx with
  |some x'=>some (.keep ls x')
  |none=>none
 | .skip,.skip=>some .skip
 | .ret,.ret=>some .ret
 | .exit id,.exit _=>some (.exit id)
 | .region _ ops false,.reg hs=>(xf P N n ops ops.toList hs).map .reg
 | .region _ ops true,.dreg plan hs=>match xf P N n ops ops.toList hs with
   |some is=>if dOk P n ops plan hs is then some (.dreg plan is)else none
   |none=>none
 | .seq x y,.seq hx hy=>match trC x hx,trC y hy with
   |some x',some y'=>some (.seq x' y')
   |_,_=>none
 | .cond c x y,.cond hc hx hy=>match trO c hc,trC x hx,trC y hy with
   |some c',some x',some y'=>some (.cond c' x' y')
   |_,_,_=>none
 | .block id x,.block _ hx=>match trC x hx with
   |some x'=>some (.block id x')
   |none=>none
 | .loop x,.loop ls ks hx=>match trC x hx with
   |some x'=>if n≤CN then some (.loop ls ks x')else none
   |none=>none
 |_,_=>none
end
section
variable {P:Program} {N n:Nat} {E:Env} {c:Cnt} {st st':St} {a:Act} {call:qS}
theorem Adv.seq {E E' E'':Env} {c c' c'':Cnt} (h:Adv E c E' c') (h':Adv E' c' E'' c''):Adv E c E'' c'':=h.trans h'
theorem qb7(hC:kj P call) (ops:Array Oper) {Q:Exit→Act→World→Prop}: ∀ (os:List Oper) (k:Nat) (hs is:List AI) (st:St) (a:Act) (E:Env) (c:Cnt),
 ops.toList.drop k=os→xf P N n ops os hs=some is→ym call is st=some st'→FRel N E st a.tmps c→(∀ a' E' c',FRel N E' st' a'.tmps c'→a'.defers=a.defers→KN n E E'→Adv E c E' c'→Q .normal a' E'.w)→
 wpOps P ops Q (List.range' k os.length) a E.w
 |[],k,hs,is,st,a,E,c,hd,ht,hr,hf,hQ=>by
  cases hs with
  |cons=>simp [xf]at ht
  |nil=>
   simp only [xf,Option.some.injEq]at ht;subst ht
   simp only [ym,Option.some.injEq]at hr;subst hr
   simp only [List.length_nil,List.range'_zero,wpOps]
   exact hQ a E c hf rfl kI (jm _ _)
 |o::os,k,hs,is,st,a,E,c,hd,ht,hr,hf,hQ=>by
  cases hs with
  |nil=>simp [xf]at ht
  |cons h hs=>
   simp only [xf]at ht
   split at ht
   case h_2=>cases ht
   rename_i i is' h1 h2
   simp only [Option.some.injEq]at ht;subst ht
   simp only [ym]at hr
   split at hr
   case h_2=>cases hr
   rename_i st1 hst1
   have hk:ops[k]? =some o:=by
    have:(ops.toList.drop k)[0]? =some o:=by rw [hd];rfl
    simpa using this
   have hd':ops.toList.drop (k+1)=os:=by
    rw [← List.drop_drop,hd];rfl
   simp only [List.length_cons,List.range'_succ,wpOps,hk]
   refine qfP hC h1 hst1 hf ?_
   intro y E' c' hF hkn hkp hA
   refine qb7 hC ops os (k+1) hs is' st1 (a.put o.dst y) E' c' hd' h2 hr hF ?_
   intro a'' E'' c'' hF' hdf' hkn' hA'
   exact hQ a'' E'' c'' hF' (hdf'.trans (qeo _ _ _)) (hkn.trans hkn') (hA.seq hA')
def xOf:AX→Exit
 | .normal=> .normal
 | .exit id=> .exit id
 | .ret=> .ret
def km(n N:Nat) (E:Env) (c:Cnt) (st':St) (a:Act) (x:AX):Exit→Act→World→Prop:=
 fun e a' w'=>e=xOf x∧a'.defers=a.defers∧ ∃ E' c',E'.w=w'∧FRel N E' st' a'.tmps c'∧KN n E E'∧Adv E c E' c'
theorem km.then {E E':Env} {c c':Cnt} {a a':Act} {x:AX} {e:Exit} {a'':Act} {w:World} (h:km n N E' c' st' a' x e a'' w) (hd:a'.defers=a.defers) (hk:KN n E E') (hA:Adv E c E' c'):
 km n N E c st' a x e a'' w:=by
 obtain ⟨h1,h2,E'',c'',h3,h4,h5,h6⟩:=h
 exact ⟨h1,h2.trans hd,E'',c'',h3,h4,hk.trans h5,hA.seq h6⟩
theorem J1(hC:kj P call): ∀ (f:Nat),
 (∀ (code:Code) (h ac:AC) (st st':St) (x:AX),trC P N n code h=some ac→qr call f ac st=some (x,st')→
  ∀ (a:Act) (E:Env) (c:Cnt),FRel N E st a.tmps c→code.wp P (km n N E c st' a x) a E.w)∧
 (∀ (body:Code) (ls:List Nat) (ks:List Key) (h ac:AC) (st st':St) (x:AX),n≤CN→trC P N n body h=some ac→qr call f (.loop ls ks ac) st=some (x,st')→
  ∀ (a:Act) (E:Env) (c:Cnt),FRel N E st a.tmps c→Code.rounds P body (km n N E c st' a x) f a E.w)
 |0=>⟨fun code h ac st st' x ht hr=>by simp [qr]at hr,fun body ls ks h ac st st' x hn ht hr=>by simp [qr]at hr⟩
 |f+1=>by
  have IH:=J1 hC f
  have hloop: ∀ (body:Code) (ls:List Nat) (ks:List Key) (h ac:AC) (st st':St) (x:AX),n≤CN→trC P N n body h=some ac→qr call (f+1) (.loop ls ks ac) st=some (x,st')→
   ∀ (a:Act) (E:Env) (c:Cnt),FRel N E st a.tmps c→Code.rounds P body (km n N E c st' a x) (f+1) a E.w:=by
   intro body ls ks h ac st st' x hn ht hr a E0 c hf
   rw [rounds_succ]
   simp only [qr]at hr
   obtain ⟨E,c1,hw0,hI0,hμ0,hp,hle⟩:=qen (tmps:=a.tmps) ls ks hf
   have hA0:Adv E0 c E c1:=kM hw0 hI0 hle
   have hk0:KN n E0 E:=fun k hk=>hμ0 k (by omega)
   rw [← hw0]
   split at hr
   ·rename_i st1 h1
    refine wp_mono (IH.1 _ _ _ _ _ _ ht h1 a E c1 hp) ?_
    rintro e a' w' ⟨rfl,hdf,E',c',rfl,hF,hk,hA⟩
    simp only [xOf,Exit.then]
    have:=IH.2 body ls ks h ac st1 st' x hn ht hr a' E' c' hF
    have hmono: ∀ (m:Nat) (a1:Act) (w1:World),Code.rounds P body (km n N E' c' st' a' x) m a1 w1→Code.rounds P body (km n N E0 c st' a x) m a1 w1:=by
     intro m
     induction m with
     |zero=>intro a1 w1 h;exact h.elim
     |succ m ih=>
      intro a1 w1 h
      rw [rounds_succ]at h ⊢
      refine wp_mono h ?_
      intro e a2 w2 hq
      cases e<;>simp only [Exit.then]at hq ⊢ <;>(first|exact ih _ _ hq|exact hq.then hdf (hk0.trans hk) (hA0.seq hA))
    exact hmono _ _ _ this
   ·rename_i r hnn
    have hb:=IH.1 _ _ _ _ _ _ ht hr a E c1 hp
    refine wp_mono hb ?_
    rintro e a' w' ⟨rfl,hdf,E',c',rfl,hF,hk,hA⟩
    have hx:x ≠ .normal:=by rintro rfl;exact hnn _ hr
    cases x with
    |normal=>exact absurd rfl hx
    |exit id=>exact ⟨rfl,hdf,E',c',rfl,hF,hk0.trans hk,hA0.seq hA⟩
    |ret=>exact ⟨rfl,hdf,E',c',rfl,hF,hk0.trans hk,hA0.seq hA⟩
  refine ⟨?_,hloop⟩
  intro code h ac st st' x ht hr a E c hf
  have hself:km n N E c st a .normal .normal a E.w:=⟨rfl,rfl,E,c,rfl,hf,kI,jm _ _⟩
  unfold trC at ht
  split at ht
  ·rename_i os hx
   split at ht
   case h_2=>cases ht
   rename_i x' h1
   split at ht
   case isFalse=>cases ht
   rename_i ho
   simp only [Option.some.injEq]at ht;subst ht
   simp only [qr]at hr
   obtain ⟨E1,c1,hw0,hI0,hk0,hF,hle⟩:=Xu (n:=n) os ho hf
   rw [← hw0]
   refine wp_mono (IH.1 _ _ _ _ _ _ h1 hr a E1 c1 hF) ?_
   intro e a' w' hq
   exact hq.then rfl hk0 (kM hw0 hI0 hle)
  ·rename_i os hx
   split at ht
   case h_2=>cases ht
   rename_i x' h1
   split at ht
   case isFalse=>cases ht
   rename_i ho
   simp only [Option.some.injEq]at ht;subst ht
   simp only [qr]at hr
   obtain ⟨E1,c1,hw0,hI0,hk0,hF,hle⟩:=qaM (n:=n) os ho hf
   rw [← hw0]
   refine wp_mono (IH.1 _ _ _ _ _ _ h1 hr a E1 c1 hF) ?_
   intro e a' w' hq
   exact hq.then rfl hk0 (kM hw0 hI0 hle)
  ·rename_i ls ks hx
   split at ht
   case h_2=>cases ht
   rename_i x' h1
   split at ht
   case isFalse=>cases ht
   rename_i ho
   simp only [Option.some.injEq]at ht;subst ht
   simp only [qr]at hr
   obtain ⟨E1,c1,hw0,hI0,hk0,hF,hle⟩:=qen (tmps:=a.tmps) ls ks hf
   rw [← hw0]
   refine wp_mono (IH.1 _ _ _ _ _ _ h1 hr a E1 c1 hF) ?_
   intro e a' w' hq
   exact hq.then rfl (fun k hk=>hk0 k (by omega)) (kM hw0 hI0 hle)
  ·split at ht
   case h_2=>cases ht
   rename_i x' h1
   simp only [Option.some.injEq]at ht;subst ht
   simp only [qr]at hr
   exact IH.1 _ _ _ _ _ _ h1 hr a E c ⟨hf.sz,qfe hf.σ _,hf.T,hf.g⟩
  ·simp only [Option.some.injEq]at ht;subst ht
   simp only [qr,Option.some.injEq,Prod.mk.injEq]at hr
   obtain ⟨rfl,rfl⟩:=hr
   exact wp_skip hself
  ·simp only [Option.some.injEq]at ht;subst ht
   simp only [qr,Option.some.injEq,Prod.mk.injEq]at hr
   obtain ⟨rfl,rfl⟩:=hr
   exact wp_ret ⟨rfl,rfl,E,c,rfl,hf,kI,jm _ _⟩
  ·simp only [Option.some.injEq]at ht;subst ht
   simp only [qr,Option.some.injEq,Prod.mk.injEq]at hr
   obtain ⟨rfl,rfl⟩:=hr
   exact wp_exit ⟨rfl,rfl,E,c,rfl,hf,kI,jm _ _⟩
  ·rename_i id ops hs
   rw [Option.map_eq_some_iff]at ht
   obtain ⟨is,h1,rfl⟩:=ht
   simp only [qr,Option.map_eq_some_iff,Prod.mk.injEq]at hr
   obtain ⟨st1,h2,rfl,rfl⟩:=hr
   refine wp_region ?_
   have:=qb7 (Q:=km n N E c st1 a .normal) hC ops ops.toList 0 hs is st a E c rfl h1 h2 hf ?_
   ·rw [Array.length_toList, ← List.range_eq_range']at this
    exact this
   ·intro a' E' c' hF hdf hk hA
    exact ⟨rfl,hdf,E',c',rfl,hF,hk,hA⟩
  ·rename_i id ops plan hs
   split at ht
   case h_2=>cases ht
   rename_i is h1
   split at ht
   case isFalse=>cases ht
   rename_i hk
   simp only [Option.some.injEq]at ht;subst ht
   simp only [qr]at hr
   split at hr
   case h_2=>cases hr
   rename_i st1 h2
   split at hr
   case isFalse=>cases hr
   rename_i hnd
   simp only [Option.some.injEq,Prod.mk.injEq]at hr
   obtain ⟨rfl,rfl⟩:=hr
   exact qgQ hC hk h1 h2 hnd hf fun a' E' c' hF hdf hk hA=>⟨rfl,hdf,E',c',rfl,hF,hk,hA⟩
  ·rename_i cx cy hx hy
   split at ht
   case h_2=>cases ht
   rename_i x' y' h1 h2
   simp only [Option.some.injEq]at ht;subst ht
   simp only [qr]at hr
   refine wp_seq ?_
   split at hr
   ·rename_i st1 h3
    refine wp_mono (IH.1 _ _ _ _ _ _ h1 h3 a E c hf) ?_
    rintro e a' w' ⟨rfl,hdf,E',c',rfl,hF,hk,hA⟩
    simp only [xOf,Exit.then]
    exact wp_mono (IH.1 _ _ _ _ _ _ h2 hr a' E' c' hF) fun e a2 w2 hq=>hq.then hdf hk hA
   ·rename_i r hnn
    refine wp_mono (IH.1 _ _ _ _ _ _ h1 hr a E c hf) ?_
    intro e a' w' hq
    have hx:x ≠ .normal:=by rintro rfl;exact hnn _ hr
    have he:=hq.1
    cases x with
    |normal=>exact absurd rfl hx
    |exit id=>subst he;exact hq
    |ret=>subst he;exact hq
  ·rename_i cc cx cy hc hx hy
   split at ht
   case h_2=>cases ht
   rename_i c' x' y' h0 h1 h2
   simp only [Option.some.injEq]at ht;subst ht
   simp only [qr]at hr
   split at hr
   ·rename_i hb
    have:=qB hf.σ h0 hb
    simp only [Rel]at this
    exact wp_cond_true this.1 (IH.1 _ _ _ _ _ _ h1 hr a E c hf)
   ·rename_i hb
    have:=qB hf.σ h0 hb
    simp only [Rel]at this
    exact wp_cond_false this.1 (IH.1 _ _ _ _ _ _ h2 hr a E c hf)
   ·cases hr
  ·rename_i id cx id' hx
   split at ht
   case h_2=>cases ht
   rename_i x' h1
   simp only [Option.some.injEq]at ht;subst ht
   simp only [qr]at hr
   refine wp_block ?_
   split at hr
   ·rename_i id2 st1 h3
    refine wp_mono (IH.1 _ _ _ _ _ _ h1 h3 a E c hf) ?_
    rintro e a' w' ⟨rfl,hdf,E',c',rfl,hF,hk,hA⟩
    simp only [xOf,Exit.inBlock]
    split at hr
    ·rename_i he
     simp only [Option.some.injEq,Prod.mk.injEq]at hr
     obtain ⟨rfl,rfl⟩:=hr
     rw [if_pos he]
     exact ⟨rfl,hdf,E',c',rfl,hF,hk,hA⟩
    ·rename_i he
     simp only [Option.some.injEq,Prod.mk.injEq]at hr
     obtain ⟨rfl,rfl⟩:=hr
     rw [if_neg he]
     exact ⟨rfl,hdf,E',c',rfl,hF,hk,hA⟩
   ·rename_i r hnn
    refine wp_mono (IH.1 _ _ _ _ _ _ h1 hr a E c hf) ?_
    intro e a' w' hq
    have he:=hq.1
    cases x with
    |normal=>subst he;exact hq
    |exit id=>exact absurd hr (hnn _ _)
    |ret=>subst he;exact hq
  ·rename_i cx ls ks hx
   split at ht
   case h_2=>cases ht
   rename_i x' h1
   split at ht
   case isFalse=>cases ht
   rename_i hn
   simp only [Option.some.injEq]at ht;subst ht
   exact wp_loop_rounds (f+1) (hloop cx ls ks hx x' st st' x hn h1 hr a E c hf)
  ·cases ht
end
end Go.Vm
namespace Go.Vm
variable [Lay]
def xt(P:Program):List ResultVar→Option (List AR)
 |[]=>some []
 | .tmp t::r=>(xt P r).map (.tmp t:: ·)
 | .cell a t::r=>xp (ke P t) (xt P r) fun q rs=> .cell a q.1 q.2::rs
def qD(P:Program) (fn:Func) (h:AF):Option AF:=
 match fn.body with
 |some code=>match trC P fn.ntmps h.nargs code h.body,xt P fn.results.toList with
  |some b,some rs=>if decide (h.nargs≤fn.ntmps)&&fn.name != "runtime.NumGoroutine" then some {nargs:=h.nargs,ntmps:=fn.ntmps,res:=rs,body:=b} else none
  |_,_=>none
 |none=>none
def jR(P:Program) (prog:Nat→Option AE):Prop:=
 ∀ f e,prog f=some e→match e with
  | .fn af=> ∃ fn h,P.funcs[f]? =some fn∧qD P fn h=some af
  | .prim g=> ∀ args r outs,g args=some (r,outs)→YC P f args r outs
section
variable {P:Program} {N n:Nat} {E:Env} {c:Cnt} {st st':St} {a:Act} {call:qS}
theorem qec: ∀ (xs:List V) (i:Nat) (E:Env) (vs:List Value) (c:Cnt),(∀ k:Key,i≤k.1→E.μ k=none)→qk E xs vs c→
 ∃ E' c',E'.w=E.w∧E'.I=E.I∧(∀ k l,E.μ k=some l→E'.μ k=some l)∧(∀ k:Key,i+xs.length≤k.1→E'.μ k=none)∧
  qk E' (q7 i xs).1 vs c0∧qn E' (q7 i xs).2 c'∧cle c' c
 |[],i,E,vs,c,hf,h=>by
  simp only [qk]at h
  exact ⟨E,c0,rfl,rfl,fun _ _ h=>h,fun k hk=>hf k (by simpa using hk),by simp only [q7,qk];exact ⟨h.1,trivial⟩,rfl,fun _=>Nat.zero_le _⟩
 |x::xs,i,E,vs,c,hf,h=>by
  simp only [qk]at h
  obtain ⟨y,t,c1,c2,rfl,h1,h2,rfl⟩:=h
  obtain ⟨E1,d1,j',hn,hr1,ht1,hl1⟩:=qaN (d:=i) (fun j=>hf (i,j) (Nat.le_refl _)) h1
  obtain ⟨E2,d2,hw2,hI2,hμ2,hfree2,hr2,ht2,hl2⟩:=qec xs (i+1) E1 t c2 (fun k hk=>by rw [hn.hout k (by omega)];exact hf k (by omega)) (yA h2 (hn.mono _))
  have hm: ∀ c,Mono E1 E2 c:=fun c=>⟨fun τ b hb=>⟨by rw [hI2];exact hb,by rw [hw2]⟩,fun b _=>by rw [hw2],hμ2⟩
  refine ⟨E2,qg d1 d2,hw2.trans hn.hw,hI2.trans hn.hI,fun k l hk=>hμ2 k l (hn.hμ k l hk),fun k hk=>hfree2 k (by simp only [List.length_cons]at hk;omega), ?_, ?_,yJ hl1 hl2⟩
  ·simp only [q7,qk]
   exact ⟨y,t,c0,c0,rfl,zP hr1 (hm _),hr2,rfl⟩
  ·simp only [q7]
   exact yT (zH ht1 (hm _)) ht2
theorem qdj: ∀ (xs:List V) (i t:Nat) (x:V),qw (yu i xs) t=some x→ ∃ j,t=i+j∧xs[j]? =some x
 |[],i,t,x,h=>by simp [yu,qw]at h
 |y::ys,i,t,x,h=>by
  simp only [yu,qw]at h
  split at h
  ·rename_i he;subst he
   exact ⟨0,rfl,by simpa using h⟩
  ·obtain ⟨j,h1,h2⟩:=qdj ys (i+1) t x h
   exact ⟨j+1,by omega,by simpa using h2⟩
theorem qff {xs:List V} {vs:List Value} {rest:Array Value} (h:qk E xs vs c0):zo E (yu 0 xs) (vs.toArray++rest):=by
 intro t x hx
 obtain ⟨j,rfl,hj⟩:=qdj xs 0 t x hx
 obtain ⟨y,c1,c2,hy,hr,hc,-⟩:=K0 h hj
 have h0:c1=c0:=funext fun b=>by have:=congrFun hc b;simp only [c0,qg]at this ⊢;omega
 subst h0
 have hlt:j < vs.length:=(List.getElem?_eq_some_iff.1 hy).1
 refine ⟨y, ?_,hr⟩
 rw [Nat.zero_add,Array.getElem?_append_left (by simpa using hlt)]
 simpa using hy
theorem qkz {r:ResultVar} {x:V} {T T':Mem} {tmps:Array Value} {ar:AR} {cT:Cnt} (hr:xt P [r]=some [ar]) (hσ:zo E st.σ tmps) (hT:qn E T cT) (h:je {σ:=st.σ,T:=T} ar=some (x,T')):
 ∃ v d1 d2,((match r with
  | .tmp t=>pure (tmps.getD t undef)
  | .cell a t=>do loadVar t (← asAddr (tmps.getD a undef))):Sem Value).run P E.w= .ok v E.w∧Rel E x v d1∧qn E T' d2∧cle (qg d1 d2) cT:=by
 cases r with
 |tmp t=>
  simp only [xt,Option.map_some,Option.some.injEq,List.cons.injEq,and_true]at hr
  subst hr
  simp only [je,Option.map_eq_some_iff,Prod.mk.injEq]at h
  obtain ⟨y,hy,rfl,rfl⟩:=h
  obtain ⟨v,hv,hrv⟩:=hσ _ _ hy
  refine ⟨v,c0,cT, ?_,hrv,hT,by rw [qV];exact qH _⟩
  simp only [Sem.run_pure,Array.getD_eq_getD_getElem?,hv,Option.getD_some]
 |cell a t=>
  simp only [xt]at hr
  obtain ⟨q,rs,hq,hrs,he⟩:=jb hr
  simp only [Option.some.injEq]at hrs
  subst hrs
  simp only [List.cons.injEq,and_true]at he
  subst he
  simp only [je]at h
  split at h
  case h_2=>cases h
  rename_i k hk
  split at h
  case h_2=>cases h
  rename_i e0 xe hg
  rw [Option.bind_eq_some_iff]at h
  obtain ⟨y,hy,h⟩:=h
  split at h
  case isFalse=>cases h
  rename_i hlen
  simp only [Option.some.injEq,Prod.mk.injEq]at h
  obtain ⟨rfl,rfl⟩:=h
  obtain ⟨v,hv,hrv⟩:=hσ _ _ hk
  simp only [Rel]at hrv
  obtain ⟨-,b',base',e',y7,hμ',rfl⟩:=hrv
  obtain ⟨co,cr,hob,hrest,rfl⟩:=zW hT hg
  rcases hob with ⟨_,_,_,_,hn1,-⟩|⟨-,hn1,-⟩|⟨b,base,lim,cells,ty,fz,ce,hμ,hw,hl,hf,hs,hr',rfl⟩
  ·rw [hn1]at hμ';cases hμ'
  ·cases hn1
  rw [hμ]at hμ';cases hμ'
  simp only [List.length_singleton,Nat.one_mul]at hs hr'
  obtain ⟨u,hu,hus,hul,huo,hR⟩:=XD hr'
  obtain ⟨vz,f0,f1,f2,hz,hzl,hzle,hzc,hz0,hz2,rfl,hzT,hzF⟩:=qdG hR (by rw [hul,hus]) huo hy
  have haddr:tmps.getD a undef= .pointer (some ⟨b',base',none⟩):=by
   simp only [Array.getD_eq_getD_getElem?,hv,Option.getD_some]
   simp
  unfold ke at hq
  split at hq
  case h_2=>cases hq
  rename_i dd i hud hi
  simp only [Option.some.injEq]at hq;subst hq
  refine ⟨vz,f1,cr, ?_,hz,hrest,fun z=>by simp only [qg];omega⟩
  simp only [haddr,asAddr,Sem.run_bind,Sem.run_pure,Result.andThen_ok]
  have hrun:=qbh (P:=P) (w:=E.w) (t:=t) (o:=base') hud hi hw
  cases hag:jU dd with
  |true=>
   obtain ⟨q1,q2⟩:=hzT hag
   have hsz:u.cells.size=i.size:=by omega
   rw [q2]
   have e2:u.cells.toList.take i.size=seg cells base' i.size:=by
    rw [← hu,qfl];congr 1;omega
   simp only [List.drop_zero,e2]
   exact hrun.1 hag (by omega)
  |false=>
   have q1:=hzF hag
   have h8:(seg cells base' e0)[0]? =some vz:=by rw [hu];simpa using q1
   exact hrun.2 hag vz (by simpa using Qa h8)
theorem qbd {tmps:Array Value} (hσ:zo E st.σ tmps): ∀ {rs:List ResultVar} {ars:List AR} {T T':Mem} {xs:List V} {cT:Cnt},xt P rs=some ars→qn E T cT→yt st.σ T ars=some (xs,T')→
 ∃ vs d1 d2,(rs.mapM fun
  | .tmp t=>pure (tmps.getD t undef)
  | .cell a t=>do loadVar t (← asAddr (tmps.getD a undef)):Sem (List Value)).run P E.w= .ok vs E.w∧qk E xs vs d1∧qn E T' d2∧cle (qg d1 d2) cT
 |[],ars,T,T',xs,cT,hr,hT,h=>by
  simp only [xt,Option.some.injEq]at hr;subst hr
  simp only [yt,Option.some.injEq,Prod.mk.injEq]at h
  obtain ⟨rfl,rfl⟩:=h
  exact ⟨[],c0,cT,by simp,by simp [qk],hT,by rw [qV];exact qH _⟩
 |r::rs,ars,T,T',xs,cT,hr,hT,h=>by
  have hsplit: ∃ ar ars',ars=ar::ars'∧xt P [r]=some [ar]∧xt P rs=some ars':=by
   cases r with
   |tmp t=>
    simp only [xt,Option.map_eq_some_iff]at hr
    obtain ⟨q,h1,rfl⟩:=hr
    exact ⟨_,_,rfl,rfl,h1⟩
   |cell a t=>
    simp only [xt]at hr
    obtain ⟨q,qs,h1,h2,rfl⟩:=jb hr
    exact ⟨_,_,rfl,by simp [xt,xp,h1],h2⟩
  obtain ⟨ar,ars',rfl,h1,h2⟩:=hsplit
  simp only [yt]at h
  split at h
  case h_2=>cases h
  rename_i x T1 hx
  split at h
  case h_2=>cases h
  rename_i xs' T2 hxs
  simp only [Option.some.injEq,Prod.mk.injEq]at h
  obtain ⟨rfl,rfl⟩:=h
  obtain ⟨v,d1,d2,g1,g2,g3,g4⟩:=qkz h1 hσ hT hx
  obtain ⟨vs,e1,e2,k1,k2,k3,k4⟩:=qbd hσ h2 g3 hxs
  refine ⟨v::vs,qg d1 e1,e2, ?_, ?_,k3,fun b=>by have:=g4 b;have:=k4 b;simp only [qg]at*;omega⟩
  ·rw [List.mapM_cons,Sem.run_bind,g1,Result.andThen_ok,Sem.run_bind,k1,Result.andThen_ok]
   rfl
  ·simp only [qk];exact ⟨v,vs,d1,e1,rfl,g2,k2,rfl⟩
theorem qea {xs:List V} {vs:List Value} (h:qk E xs vs c):Rel E (xZ xs) (if h:vs.toArray.size=1 then vs.toArray[0]else .tuple vs.toArray) c:=by
 have hl:=yr h
 match xs,vs,hl,h with
 |[x],[v],_,h=>
  obtain ⟨y,h1,h2⟩:=XB h
  simp only [List.cons.injEq,and_true]at h1;subst h1
  simpa [xZ]using h2
 |[],[],_,h=>
  simp only [qk]at h
  simp [xZ,Rel,qk,h.2]
 |x::y::xs,v::u::vs,_,h=>
  simp only [xZ]
  rw [dif_neg (by simp)]
  simp only [Rel]
  exact ⟨_,rfl,by simpa using h⟩
theorem qfd {g:ResultVar→Sem Value} {l:Array ResultVar} {w:World} {vs:List Value} (h:(l.toList.mapM g).run P w= .ok vs w):(l.mapM g).run P w= .ok vs.toArray w:=by
 rw [Array.mapM_eq_mapM_toList]
 simp only [map_eq_pure_bind,Sem.run_bind,h,Result.andThen_ok,Sem.run_pure]
theorem J0 {prog:Nat→Option AE} (hK:jR P prog): ∀ n,kj P (qU prog n)
 |0=>fun f xs r outs h=>by simp [qU]at h
 |n+1=>by
  have IH:=J0 hK n
  intro f xs r outs h
  simp only [qU]at h
  split at h
  ·rename_i g hg
   have:=hK f _ hg
   exact this xs r outs h
  ·rename_i af haf
   obtain ⟨fn,hh,hfn,htr⟩:=hK f _ haf
   split at h
   case isFalse=>cases h
   rename_i hlen
   unfold qD at htr
   split at htr
   case h_2=>cases htr
   rename_i code hcode
   split at htr
   case h_2=>cases htr
   rename_i b rs hb hrs
   split at htr
   case isFalse=>cases htr
   rename_i hcond
   simp only [Bool.and_eq_true,decide_eq_true_eq,bne_iff_ne,ne_eq]at hcond
   obtain ⟨hnt,hname⟩:=hcond
   simp only [Option.some.injEq]at htr;subst htr
   simp only at hlen h
   intro E vs c hxs hg
   have hcf:(callFunc f vs.toArray).run P E.w= .ok (.enter f vs.toArray) E.w:=by
    have hne:(fn.name== "runtime.NumGoroutine")=false:=by simpa using hname
    simp [callFunc,hfn,hname,hcode]
   rw [hcf]
   refine ⟨rfl, ?_⟩
   obtain ⟨E0,c1,hw0,hI0,-,hfree,hxs0,hT0,hle0⟩:=qec xs 0 E.cl vs c (fun k _=>rfl) hxs
   rw [Nat.zero_add]at hfree
   have hvl:=yr hxs
   have hg0:Good E0 c1:=jw (E:=E) hw0 hI0 hle0 hg
   have hsz:(vs.toArray++Array.replicate (fn.ntmps - vs.toArray.size) undef).size=fn.ntmps:=by
    simp only [Array.size_append,List.size_toArray,Array.size_replicate];omega
   have hF:FRel fn.ntmps E0 {σ:=yu 0 (q7 0 xs).1,T:=(q7 0 xs).2} (vs.toArray++Array.replicate (fn.ntmps - vs.toArray.size) undef) c1:=
    ⟨hsz,qff hxs0,hT0,hg0⟩
   have hA0:Adv E c E0 c1:=kM hw0 hI0 hle0
   have hfin: ∀ (x:AX) (st:St),(x= .normal∨x= .ret)→qr (qU prog n) n b {σ:=yu 0 (q7 0 xs).1,T:=(q7 0 xs).2}=some (x,st)→
    z6 {nargs:=hh.nargs,ntmps:=fn.ntmps,res:=rs,body:=b} (q7 0 xs).1 st=some (r,outs)→
    Calls P f vs.toArray E.w (fun e w''=> ∃ y,e= .returned y∧ ∃ E' cr co,E'.w=w''∧Rel E'.cl r y cr∧qk E'.cl outs vs co∧Good E' (qg cr co)∧Adv E c E' (qg cr co)):=by
    intro x st hx he hfi
    refine calls_of_wp hfn hcode ?_
    rw [show E.w=E0.w from hw0.symm]
    refine wp_mono ((J1 IH n).1 code hh.body b _ st x hb he _ E0 c1 hF) ?_
    rintro e a' w' ⟨rfl,hdf,E',c',rfl,hF',hkn,hA⟩
    simp only [z6]at hfi
    split at hfi
    case h_2=>cases hfi
    rename_i vals T' hres
    simp only [Option.some.injEq,Prod.mk.injEq]at hfi
    obtain ⟨rfl,rfl⟩:=hfi
    obtain ⟨ws,d1,d2,k1,k2,k3,k4⟩:=qbd (P:=P) hF'.σ hrs hF'.T hres
    have hres':(results fn a'.tmps).run P E'.w= .ok (if h:ws.toArray.size=1 then ws.toArray[0]else .tuple ws.toArray) E'.w:=by
     unfold results
     rw [Sem.run_bind]
     refine Eq.trans (congrArg (fun r=>Result.andThen r _) (qfd (l:=fn.results) k1)) ?_
     rfl
    obtain ⟨e1,e2,g1,g2,g3,-⟩:=QB 30 E' T' _ _ d2 d1 k3 (qea k2)
    have hargs:qk E' (q7 0 xs).1 vs c0:=by
     refine yA hxs0 ⟨fun τ bb hb=>⟨hA.sub τ bb hb,hA.frame bb (hg0.imm τ bb hb).2 (hg0.imm τ bb hb).1⟩,fun bb hb=>absurd rfl hb,fun k l hk=> ?_⟩
     by_cases hkk:k.1 < hh.nargs
     ·rw [hkn k hkk];exact hk
     ·rw [hfree k (by omega)]at hk;cases hk
    obtain ⟨e3,e4,g4,g5,g6⟩:=QQ (QB 30) g1 hargs
    have hle:cle (qg e2 e4) c':=fun bb=>by
     have:=k4 bb;have:=g3 bb;have:=g6 bb;simp only [qg,c0]at*;omega
    have hpost:a'.defers=[]∧ ∃ v,(results fn a'.tmps).run P E'.w= .ok v E'.w∧(∃ y,Ending.returned v= .returned y∧ ∃ E'' cr co,E''.w=E'.w∧Rel E''.cl (qq 30 T' (xZ vals)).1 y cr∧
     qk E''.cl (qx (qq 30) (qq 30 T' (xZ vals)).2 (q7 0 xs).1).1 vs co∧Good E'' (qg cr co)∧Adv E c E'' (qg cr co)):=
     ⟨hdf,_,hres',_,rfl,E',e2,e4,rfl,g2,g5,hF'.g.le hle,(hA0.trans hA).le hle⟩
    rcases hx with rfl|rfl<;>exact hpost
   split at h
   ·rename_i st he
    exact hfin .normal st (.inl rfl) he h
   ·rename_i st he
    exact hfin .ret st (.inr rfl) he h
   ·cases h
  ·cases h
end
end Go.Vm
namespace Go.Vm
section lim
variable {α:Type}
open Classical in
noncomputable def y7(f:Nat→Option α):Option α:=if h: ∃ n,(f n).isSome then f h.choose else none
def qbH(f:Nat→Option α):Prop:= ∀ n m r,n≤m→f n=some r→f m=some r
theorem J7 {f:Nat→Option α} (h: ∀ n r,f n=some r→f (n+1)=some r):qbH f:=by
 intro n m r hnm
 induction hnm with
 |refl=>exact id
 |step _ ih=>exact fun h'=>h _ _ (ih h')
theorem qdF {f:Nat→Option α} (hc:qbH f) {r:α}:y7 f=some r↔ ∃ n,f n=some r:=by
 unfold y7
 constructor
 ·intro h
  split at h
  ·exact ⟨_,h⟩
  ·cases h
 ·rintro ⟨n,hn⟩
  have hex: ∃ n,(f n).isSome:=⟨n,by simp [hn]⟩
  rw [dif_pos hex]
  have hs:=hex.choose_spec
  obtain ⟨r',hr'⟩:=Option.isSome_iff_exists.1 hs
  have h1:=hc _ _ _ (Nat.le_max_left n hex.choose) hn
  have h2:=hc _ _ _ (Nat.le_max_right n hex.choose) hr'
  rw [h1]at h2
  rw [hr']
  exact h2.symm
theorem xW {x y:Option α} (h: ∀ r,x=some r↔y=some r):x=y:=by
 cases x with
 |none=>cases y with
  |none=>rfl
  |some b=>exact absurd ((h b).2 rfl) (by simp)
 |some a=>exact ((h a).1 rfl).symm
end lim
def CLe(c c':qS):Prop:= ∀ f xs r,c f xs=some r→c' f xs=some r
section
variable {c c':qS} {st st':St}
theorem qgO(h:CLe c c') {d:Option Nat} {g:Nat} {xs:List V} {m:Md} (hr:xk c d g xs m st=some st'):xk c' d g xs m st=some st':=by
 unfold xk at hr ⊢
 cases m with
 |ro fz=>
  simp only at hr ⊢
  cases he:c g (xr st.T xs)with
  |none=>rw [he]at hr;cases hr
  |some r=>rw [he]at hr;rw [h _ _ _ he];exact hr
 |io fz=>
  simp only at hr ⊢
  cases he:c g (qx (qq 30) st.T xs).1 with
  |none=>rw [he]at hr;cases hr
  |some r=>rw [he]at hr;rw [h _ _ _ he];exact hr
theorem qb9(h:CLe c c') {i:AI} (hr:qh c st i=some st'):qh c' st i=some st':=by
 cases i
 case call d f args m=>
  simp only [qh]at hr ⊢
  split at hr
  ·split at hr
   ·exact qgO h hr
   ·cases hr
  ·cases hr
 all_goals exact hr
theorem qav(h:CLe c c') {i:AI} (hr:qm c st i=some st'):qm c' st i=some st':=by
 cases i
 case gd j want d i=>
  simp only [qm]at hr ⊢
  split at hr
  ·split at hr
   ·rename_i hb;rw [if_pos hb];exact qb9 h hr
   ·rename_i hb;rw [if_neg hb];exact hr
  ·exact hr
  ·cases hr
 all_goals (simp only [qm]at hr ⊢;exact qb9 h hr)
theorem Y3(h:CLe c c'): ∀ {is:List AI} {st:St},ym c is st=some st'→ym c' is st=some st'
 |[],_,hr=>hr
 |i::is,st,hr=>by
  simp only [ym]at hr ⊢
  cases he:qm c st i with
  |none=>rw [he]at hr;cases hr
  |some s=>rw [he]at hr;rw [qav h he];exact Y3 h hr
theorem qfy(h:CLe c c') {p:Dp} {i:AI} (hr:yS c p i st=some st'):yS c' p i st=some st':=by
 unfold yS at hr ⊢
 cases he:qm c {σ:=zl st.σ (qK i),T:=yP st.T p.ks} i with
 |none=>rw [he]at hr;cases hr
 |some s=>rw [he]at hr;rw [qav h he];exact hr
theorem Y2(h:CLe c c'): ∀ {ps:List Dp} {is:List AI} {st:St},zr c ps is st=some st'→zr c' ps is st=some st'
 |[],[],_,hr=>hr
 |[],_::_,_,hr=>by simp [zr]at hr
 |_::_,[],_,hr=>by simp [zr]at hr
 |p::ps,i::is,st,hr=>by
  simp only [zr]at hr ⊢
  cases he:yS c p i st with
  |none=>rw [he]at hr;cases hr
  |some s=>rw [he]at hr;rw [qfy h he];exact Y2 h hr
theorem zq(h:CLe c c'): ∀ (n m:Nat) (code:AC) (st:St) (r:AX × St),n≤m→qr c n code st=some r→qr c' m code st=some r
 |0,_,_,_,_,_,hr=>by simp [qr]at hr
 |n+1,0,_,_,_,hle,_=>by omega
 |n+1,m+1,code,st,r,hle,hr=>by
  have hle':n≤m:=by omega
  have IH:=fun code st r=>zq h n m code st r hle'
  cases code with
  |skip=>simpa only [qr]using hr
  |ret=>simpa only [qr]using hr
  |exit id=>simpa only [qr]using hr
  |reg is=>
   simp only [qr,Option.map_eq_some_iff]at hr ⊢
   obtain ⟨s,hs,rfl⟩:=hr
   exact ⟨s,Y3 h hs,rfl⟩
  |dreg plan is=>
   simp only [qr]at hr ⊢
   cases he:zr c plan is (yV (zF plan is) st)with
   |none=>rw [he]at hr;cases hr
   |some s=>rw [he]at hr;rw [Y2 h he];exact hr
  |seq x y=>
   simp only [qr]at hr ⊢
   cases he:qr c n x st with
   |none=>rw [he]at hr;cases hr
   |some s=>
    rw [he]at hr;rw [IH _ _ _ he]
    obtain ⟨e,s⟩:=s
    cases e<;>first|exact IH _ _ _ hr|exact hr
  |cond a x y=>
   simp only [qr]at hr ⊢
   split at hr
   ·exact IH _ _ _ hr
   ·exact IH _ _ _ hr
   ·cases hr
  |block id x=>
   simp only [qr]at hr ⊢
   cases he:qr c n x st with
   |none=>rw [he]at hr;cases hr
   |some s=>rw [he]at hr;rw [IH _ _ _ he];exact hr
  |opn os x=>
   simp only [qr]at hr ⊢
   exact IH _ _ _ hr
  |opd os x=>
   simp only [qr]at hr ⊢
   exact IH _ _ _ hr
  |nam ls ks x=>
   simp only [qr]at hr ⊢
   exact IH _ _ _ hr
  |keep ls x=>
   simp only [qr]at hr ⊢
   exact IH _ _ _ hr
  |loop ls ks x=>
   simp only [qr]at hr ⊢
   cases he:qr c n x (xb ls ks st)with
   |none=>rw [he]at hr;cases hr
   |some s=>
    rw [he]at hr;rw [IH _ _ _ he]
    obtain ⟨e,s⟩:=s
    cases e<;>first|exact IH _ _ _ hr|exact hr
end
theorem xz(prog:Nat→Option AE): ∀ (n:Nat),CLe (qU prog n) (qU prog (n+1))
 |0=>fun f xs r h=>by simp [qU]at h
 |n+1=>by
  have IH:=xz prog n
  intro f xs r h
  rw [qU]at h ⊢
  split at h
  ·rename_i g hg;exact h
  ·rename_i af haf
   split at h
   case isFalse=>cases h
   rename_i hlen
   rw [if_pos hlen]
   cases he:qr (qU prog n) n af.body {σ:=yu 0 (q7 0 xs).1,T:=(q7 0 xs).2} with
   |none=>rw [he]at h;cases h
   |some s=>rw [he]at h;rw [zq IH n (n+1) _ _ _ (by omega) he];exact h
  ·cases h
theorem kK(prog:Nat→Option AE) {n m:Nat} (h:n≤m):CLe (qU prog n) (qU prog m):=by
 intro f xs r
 exact J7 (f:=fun n=>qU prog n f xs) (fun n r=>xz prog n f xs r) n m r h
section
variable (prog:Nat→Option AE)
noncomputable def cw:qS:=fun f xs=>y7 fun n=>qU prog n f xs
noncomputable def xw(c:AC) (st:St):Option (AX × St):=y7 fun n=>qr (qU prog n) n c st
variable {prog}
theorem j0 {f:Nat} {xs:List V} {r:V × List V}:cw prog f xs=some r↔ ∃ n,qU prog n f xs=some r:=
 qdF (J7 fun n r=>xz prog n f xs r)
theorem zh {c:AC} {st:St} {r:AX × St}:xw prog c st=some r↔ ∃ n,qr (qU prog n) n c st=some r:=
 qdF (J7 fun n r=>zq (xz prog n) n (n+1) c st r (by omega))
theorem qbX(n:Nat):CLe (qU prog n) (cw prog):=fun _ _ _ h=>j0.2 ⟨n,h⟩
variable {st st':St}
theorem qgN {d:Option Nat} {g:Nat} {xs:List V} {m:Md} (h:xk (cw prog) d g xs m st=some st'): ∃ n,xk (qU prog n) d g xs m st=some st':=by
 unfold xk at h
 cases m with
 |ro fz=>
  simp only at h
  cases he:cw prog g (xr st.T xs)with
  |none=>rw [he]at h;cases h
  |some r=>rw [he]at h;obtain ⟨n,hn⟩:=j0.1 he;exact ⟨n,by unfold xk;simp only [hn];exact h⟩
 |io fz=>
  simp only at h
  cases he:cw prog g (qx (qq 30) st.T xs).1 with
  |none=>rw [he]at h;cases h
  |some r=>rw [he]at h;obtain ⟨n,hn⟩:=j0.1 he;exact ⟨n,by unfold xk;simp only [hn];exact h⟩
theorem qb8 {i:AI} (h:qh (cw prog) st i=some st'): ∃ n,qh (qU prog n) st i=some st':=by
 cases i
 case call d f args m=>
  simp only [qh]at h ⊢
  split at h
  ·rename_i f' hf
   split at h
   ·rename_i hc ha
    obtain ⟨n,hn⟩:=qgN h
    exact ⟨n,by rw [hn]⟩
   ·cases h
  ·cases h
 all_goals exact ⟨0,h⟩
theorem qdn {i:AI} (h:qm (cw prog) st i=some st'): ∃ n,qm (qU prog n) st i=some st':=by
 cases i
 case gd j want d i=>
  simp only [qm]at h ⊢
  split at h
  ·split at h
   ·rename_i hb;obtain ⟨n,hn⟩:=qb8 h;exact ⟨n,by rw [if_pos hb];exact hn⟩
   ·rename_i hb;exact ⟨0,by rw [if_neg hb];exact h⟩
  ·exact ⟨0,h⟩
  ·cases h
 all_goals (simp only [qm]at h ⊢;exact qb8 h)
theorem qb6: ∀ {is:List AI} {st:St},ym (cw prog) is st=some st'→ ∃ n,ym (qU prog n) is st=some st'
 |[],_,h=>⟨0,h⟩
 |i::is,st,h=>by
  simp only [ym]at h ⊢
  cases he:qm (cw prog) st i with
  |none=>rw [he]at h;cases h
  |some s=>
   rw [he]at h
   obtain ⟨n,hn⟩:=qdn he
   obtain ⟨m,hm⟩:=qb6 h
   refine ⟨max n m, ?_⟩
   rw [qav (kK prog (Nat.le_max_left n m)) hn]
   exact Y3 (kK prog (Nat.le_max_right n m)) hm
theorem qlD {p:Dp} {i:AI} (h:yS (cw prog) p i st=some st'): ∃ n,yS (qU prog n) p i st=some st':=by
 unfold yS at h
 cases he:qm (cw prog) {σ:=zl st.σ (qK i),T:=yP st.T p.ks} i with
 |none=>rw [he]at h;cases h
 |some s=>
  rw [he]at h
  obtain ⟨n,hn⟩:=qdn he
  exact ⟨n,by unfold yS;rw [hn];exact h⟩
theorem qb4: ∀ {ps:List Dp} {is:List AI} {st:St},zr (cw prog) ps is st=some st'→ ∃ n,zr (qU prog n) ps is st=some st'
 |[],[],_,h=>⟨0,h⟩
 |[],_::_,_,h=>by simp [zr]at h
 |_::_,[],_,h=>by simp [zr]at h
 |p::ps,i::is,st,h=>by
  simp only [zr]at h ⊢
  cases he:yS (cw prog) p i st with
  |none=>rw [he]at h;cases h
  |some s=>
   rw [he]at h
   obtain ⟨n,hn⟩:=qlD he
   obtain ⟨m,hm⟩:=qb4 h
   refine ⟨max n m, ?_⟩
   rw [qfy (kK prog (Nat.le_max_left n m)) hn]
   exact Y2 (kK prog (Nat.le_max_right n m)) hm
theorem qme:xw prog .skip st=some (.normal,st):=zh.2 ⟨1,rfl⟩
theorem qmc:xw prog .ret st=some (.ret,st):=zh.2 ⟨1,rfl⟩
theorem ql5 {id:Nat}:xw prog (.exit id) st=some (.exit id,st):=zh.2 ⟨1,rfl⟩
theorem qmb {is:List AI}:xw prog (.reg is) st=(ym (cw prog) is st).map fun st=>(.normal,st):=by
 apply xW
 intro r
 rw [zh]
 constructor
 ·rintro ⟨n,h⟩
  cases n with
  |zero=>simp [qr]at h
  |succ n=>
   simp only [qr,Option.map_eq_some_iff]at h ⊢
   obtain ⟨s,hs,rfl⟩:=h
   exact ⟨s,Y3 (qbX _) hs,rfl⟩
 ·intro h
  simp only [Option.map_eq_some_iff]at h
  obtain ⟨s,hs,rfl⟩:=h
  obtain ⟨n,hn⟩:=qb6 hs
  refine ⟨n+1, ?_⟩
  simp only [qr,Option.map_eq_some_iff]
  exact ⟨s,Y3 (xz prog n) hn,rfl⟩
theorem ql4 {plan:List Dp} {is:List AI}:xw prog (.dreg plan is) st=match zr (cw prog) plan is (yV (zF plan is) st)with
 |some st=>if j7 st.T then some (.normal,st)else none
 |none=>none:=by
 apply xW
 intro r
 rw [zh]
 constructor
 ·rintro ⟨n,h⟩
  cases n with
  |zero=>simp [qr]at h
  |succ n=>
   simp only [qr]at h
   cases he:zr (qU prog (n+1)) plan is (yV (zF plan is) st)with
   |none=>rw [he]at h;cases h
   |some s=>rw [he]at h;rw [Y2 (qbX _) he];exact h
 ·intro h
  cases he:zr (cw prog) plan is (yV (zF plan is) st)with
  |none=>rw [he]at h;cases h
  |some s=>
   rw [he]at h
   obtain ⟨n,hn⟩:=qb4 he
   refine ⟨n+1, ?_⟩
   simp only [qr]
   rw [Y2 (xz prog n) hn];exact h
theorem qmd {x y:AC}:xw prog (.seq x y) st=match xw prog x st with
 |some (.normal,st')=>xw prog y st'
 |r=>r:=by
 apply xW
 intro r
 rw [zh]
 constructor
 ·rintro ⟨n,h⟩
  cases n with
  |zero=>simp [qr]at h
  |succ n=>
   simp only [qr]at h
   cases he:qr (qU prog (n+1)) n x st with
   |none=>rw [he]at h;cases h
   |some s=>
    rw [he]at h
    have hx:xw prog x st=some s:=zh.2 ⟨n+1,zq (fun _ _ _ h=>h) n (n+1) _ _ _ (by omega) he⟩
    rw [hx]
    obtain ⟨e,s⟩:=s
    cases e
    ·exact zh.2 ⟨n+1,zq (fun _ _ _ h=>h) n (n+1) _ _ _ (by omega) h⟩
    ·exact h
    ·exact h
 ·intro h
  cases he:xw prog x st with
  |none=>rw [he]at h;cases h
  |some s=>
   rw [he]at h
   obtain ⟨n,hn⟩:=zh.1 he
   obtain ⟨e,s⟩:=s
   cases e
   ·obtain ⟨m,hm⟩:=zh.1 h
    refine ⟨max n m+1, ?_⟩
    simp only [qr]
    rw [zq (kK prog (by omega)) n (max n m) _ _ _ (by omega) hn]
    exact zq (kK prog (by omega)) m (max n m) _ _ _ (by omega) hm
   all_goals
    refine ⟨n+1, ?_⟩
    simp only [qr]
    rw [zq (kK prog (by omega)) n n _ _ _ (by omega) hn]
    exact h
theorem ql3 {a:AO} {x y:AC}:xw prog (.cond a x y) st=match ev st.σ a with
 |some (.v (.bool true))=>xw prog x st
 |some (.v (.bool false))=>xw prog y st
 |_=>none:=by
 apply xW
 intro r
 rw [zh]
 constructor
 ·rintro ⟨n,h⟩
  cases n with
  |zero=>simp [qr]at h
  |succ n=>
   simp only [qr]at h
   split at h
   ·rename_i hv;rw [hv];exact zh.2 ⟨n+1,zq (fun _ _ _ h=>h) n (n+1) _ _ _ (by omega) h⟩
   ·rename_i hv;rw [hv];exact zh.2 ⟨n+1,zq (fun _ _ _ h=>h) n (n+1) _ _ _ (by omega) h⟩
   ·cases h
 ·intro h
  split at h
  ·rename_i hv
   obtain ⟨n,hn⟩:=zh.1 h
   exact ⟨n+1,by simp only [qr,hv];exact zq (xz prog n) n n _ _ _ (by omega) hn⟩
  ·rename_i hv
   obtain ⟨n,hn⟩:=zh.1 h
   exact ⟨n+1,by simp only [qr,hv];exact zq (xz prog n) n n _ _ _ (by omega) hn⟩
  ·cases h
theorem ql2 {id:Nat} {x:AC}:xw prog (.block id x) st=match xw prog x st with
 |some (.exit id',st')=>if id'=id then some (.normal,st')else some (.exit id',st')
 |r=>r:=by
 apply xW
 intro r
 rw [zh]
 constructor
 ·rintro ⟨n,h⟩
  cases n with
  |zero=>simp [qr]at h
  |succ n=>
   simp only [qr]at h
   cases he:qr (qU prog (n+1)) n x st with
   |none=>rw [he]at h;cases h
   |some s=>
    rw [he]at h
    rw [zh.2 ⟨n+1,zq (fun _ _ _ h=>h) n (n+1) _ _ _ (by omega) he⟩]
    exact h
 ·intro h
  cases he:xw prog x st with
  |none=>rw [he]at h;cases h
  |some s=>
   rw [he]at h
   obtain ⟨n,hn⟩:=zh.1 he
   refine ⟨n+1, ?_⟩
   simp only [qr]
   rw [zq (xz prog n) n n _ _ _ (by omega) hn]
   exact h
theorem ql6 {ls:List Nat} {x:AC}:xw prog (.keep ls x) st=xw prog x {σ:=zl st.σ ls,T:=st.T}:=by
 apply xW
 intro r
 rw [zh,zh]
 constructor
 ·rintro ⟨n,h⟩
  cases n with
  |zero=>simp [qr]at h
  |succ n=>
   simp only [qr]at h
   exact ⟨n+1,zq (fun _ _ _ h=>h) n (n+1) _ _ _ (by omega) h⟩
 ·rintro ⟨n,h⟩
  exact ⟨n+1,by simp only [qr];exact zq (xz prog n) n n _ _ _ (by omega) h⟩
theorem qma {os:List (Nat × Key × Nat)} {x:AC}:xw prog (.opn os x) st=xw prog x (xo os st):=by
 apply xW
 intro r
 rw [zh,zh]
 constructor
 ·rintro ⟨n,h⟩
  cases n with
  |zero=>simp [qr]at h
  |succ n=>
   simp only [qr]at h
   exact ⟨n+1,zq (fun _ _ _ h=>h) n (n+1) _ _ _ (by omega) h⟩
 ·rintro ⟨n,h⟩
  exact ⟨n+1,by simp only [qr];exact zq (xz prog n) n n _ _ _ (by omega) h⟩
theorem ql8 {ls:List Nat} {ks:List Key} {x:AC}:xw prog (.nam ls ks x) st=xw prog x (xb ls ks st):=by
 apply xW
 intro r
 rw [zh,zh]
 constructor
 ·rintro ⟨n,h⟩
  cases n with
  |zero=>simp [qr]at h
  |succ n=>
   simp only [qr]at h
   exact ⟨n+1,zq (fun _ _ _ h=>h) n (n+1) _ _ _ (by omega) h⟩
 ·rintro ⟨n,h⟩
  exact ⟨n+1,by simp only [qr];exact zq (xz prog n) n n _ _ _ (by omega) h⟩
theorem ql9 {os:List (Nat × Nat × Option Nat)} {x:AC}:xw prog (.opd os x) st=xw prog x (kE os st):=by
 apply xW
 intro r
 rw [zh,zh]
 constructor
 ·rintro ⟨n,h⟩
  cases n with
  |zero=>simp [qr]at h
  |succ n=>
   simp only [qr]at h
   exact ⟨n+1,zq (fun _ _ _ h=>h) n (n+1) _ _ _ (by omega) h⟩
 ·rintro ⟨n,h⟩
  exact ⟨n+1,by simp only [qr];exact zq (xz prog n) n n _ _ _ (by omega) h⟩
theorem ql7 {ls:List Nat} {ks:List Key} {x:AC}:xw prog (.loop ls ks x) st=match xw prog x (xb ls ks st)with
 |some (.normal,st')=>xw prog (.loop ls ks x) st'
 |r=>r:=by
 apply xW
 intro r
 rw [zh]
 constructor
 ·rintro ⟨n,h⟩
  cases n with
  |zero=>simp [qr]at h
  |succ n=>
   rw [qr]at h
   cases he:qr (qU prog (n+1)) n x (xb ls ks st)with
   |none=>rw [he]at h;cases h
   |some s=>
    rw [he]at h
    have hx:xw prog x (xb ls ks st)=some s:=zh.2 ⟨n+1,zq (fun _ _ _ h=>h) n (n+1) _ _ _ (by omega) he⟩
    rw [hx]
    obtain ⟨e,s⟩:=s
    cases e
    ·exact zh.2 ⟨n+1,zq (fun _ _ _ h=>h) n (n+1) _ _ _ (by omega) h⟩
    ·exact h
    ·exact h
 ·intro h
  cases he:xw prog x (xb ls ks st)with
  |none=>rw [he]at h;cases h
  |some s=>
   rw [he]at h
   obtain ⟨n,hn⟩:=zh.1 he
   obtain ⟨e,s⟩:=s
   cases e
   ·obtain ⟨m,hm⟩:=zh.1 h
    refine ⟨max n m+1, ?_⟩
    rw [qr]
    rw [zq (kK prog (by omega)) n (max n m) _ _ _ (by omega) hn]
    exact zq (kK prog (by omega)) m (max n m) _ _ _ (by omega) hm
   all_goals
    refine ⟨n+1, ?_⟩
    rw [qr]
    rw [zq (kK prog (by omega)) n n _ _ _ (by omega) hn]
    exact h
theorem qcQ {f:Nat} {args:List V}:cw prog f args=match prog f with
 |some (.prim g)=>g args
 |some (.fn af)=>
  if args.length=af.nargs then
   match xw prog af.body {σ:=yu 0 (q7 0 args).1,T:=(q7 0 args).2} with
   |some (.normal,st)|some (.ret,st)=>z6 af (q7 0 args).1 st
   |_=>none
  else none
 |none=>none:=by
 apply xW
 intro r
 rw [j0]
 constructor
 ·rintro ⟨n,h⟩
  cases n with
  |zero=>simp [qU]at h
  |succ n=>
   rw [qU]at h
   split at h
   ·rename_i hp;rw [hp];exact h
   ·rename_i af hp
    rw [hp]
    split at h
    case isFalse=>cases h
    rename_i hlen
    show (if args.length=af.nargs then _ else _)=_
    rw [if_pos hlen]
    cases he:qr (qU prog n) n af.body {σ:=yu 0 (q7 0 args).1,T:=(q7 0 args).2} with
    |none=>rw [he]at h;cases h
    |some s=>
     rw [he]at h
     rw [zh.2 ⟨n,he⟩];exact h
   ·cases h
 ·intro h
  split at h
  ·rename_i hp;exact ⟨1,by rw [qU,hp];exact h⟩
  ·rename_i af hp
   split at h
   case isFalse=>cases h
   rename_i hlen
   cases he:xw prog af.body {σ:=yu 0 (q7 0 args).1,T:=(q7 0 args).2} with
   |none=>rw [he]at h;cases h
   |some s=>
    obtain ⟨n,hn⟩:=zh.1 he
    refine ⟨n+1, ?_⟩
    rw [qU,hp]
    simp only [if_pos hlen]
    rw [he]at h
    rw [hn];exact h
  ·cases h
end
end Go.Vm
namespace Go.Vm
def I(n:Int):V:= .v (.int .i64 n)
def U8(n:Int):V:= .v (.int .u8 n)
def U32(n:Int):V:= .v (.int .u32 n)
def B(b:Bool):V:= .v (.bool b)
def S(l:List UInt8):V:= .v (.string ⟨l.toArray⟩)
def Fc(g:Nat):V:= .f (.func g) [] []
def w64(n:Int):Int:=IntKind.i64.wrap n
theorem zn {n:Int} (h1: -9223372036854775808≤n) (h2:n < 9223372036854775808):w64 n=n:=by
 have h: ∀ m:Int,m=n % 18446744073709551616→(if (true&&decide (m ≥ 9223372036854775808))=true then m - 18446744073709551616 else m)=n:=by
  intro m hm
  simp only [Bool.true_and,decide_eq_true_eq]
  split<;>omega
 exact h _ rfl
def xA(r:Option (AX × St)) (k:St→Option (AX × St)):Option (AX × St):=
 match r with
 |some (.normal,st)=>k st
 |r=>r
def xB {α:Type} (r:Option St) (k:St→Option α):Option α:=
 match r with
 |some st=>k st
 |none=>none
def qo {α:Type} (r:Option V) (k:V→Option α):Option α:=
 match r with
 |some y=>k y
 |none=>none
def jr {α:Type} (r:Option Mem) (k:Mem→Option α):Option α:=
 match r with
 |some y=>k y
 |none=>none
def zQ {α:Type} (r:Option (List V)) (k:List V→Option α):Option α:=
 match r with
 |some y=>k y
 |none=>none
def Kl {α:Type} (r:Option V) (x y:α) (z:α):α:=
 match r with
 |some (.v (.bool true))=>x
 |some (.v (.bool false))=>y
 |_=>z
def j8(id:Nat) (r:Option (AX × St)):Option (AX × St):=
 match r with
 |some (.exit id',st')=>if id'=id then some (.normal,st')else some (.exit id',st')
 |r=>r
def kT {α:Type} (r:Option (AX × St)) (k:St→Option α):Option α:=
 match r with
 |some (.normal,st)|some (.ret,st)=>k st
 |_=>none
@[congr] theorem qpr {r r':Option (AX × St)} {k:St→Option (AX × St)} (h:r=r'):xA r k=xA r' k:=by rw [h]
@[congr] theorem qpD {α:Type} {r r':Option St} {k:St→Option α} (h:r=r'):xB r k=xB r' k:=by rw [h]
@[congr] theorem qpH {α:Type} {r r':Option V} {k:V→Option α} (h:r=r'):qo r k=qo r' k:=by rw [h]
@[congr] theorem qpo {α:Type} {r r':Option Mem} {k:Mem→Option α} (h:r=r'):jr r k=jr r' k:=by rw [h]
@[congr] theorem qpl {α:Type} {r r':Option (List V)} {k:List V→Option α} (h:r=r'):zQ r k=zQ r' k:=by rw [h]
@[congr] theorem qrx {α:Type} {r r':Option V} {x y z:α} (h:r=r'):Kl r x y z=Kl r' x y z:=by rw [h]
@[congr] theorem qs5 {α:Type} {r r':Option (AX × St)} {k:St→Option α} (h:r=r'):kT r k=kT r' k:=by rw [h]
section
variable {α:Type} {k:St→Option (AX × St)} {st:St} {id id':Nat}
@[go_sem] theorem qpv:xA (some (.normal,st)) k=k st:=(rfl)
@[go_sem] theorem qpw:xA (some (.ret,st)) k=some (.ret,st):=(rfl)
@[go_sem] theorem qps:xA (some (.exit id,st)) k=some (.exit id,st):=(rfl)
@[go_sem] theorem qpu:xA none k=none:=(rfl)
@[go_sem] theorem qpt {p:Prop} [Decidable p] {a b:Option (AX × St)}:xA (if p then a else b) k=if p then xA a k else xA b k:=by split<;>rfl
@[go_sem] theorem qpG {k:St→Option α}:xB (some st) k=k st:=(rfl)
@[go_sem] theorem qpF {k:St→Option α}:xB none k=none:=(rfl)
@[go_sem] theorem qpE {k:St→Option α} {p:Prop} [Decidable p] {a b:Option St}:xB (if p then a else b) k=if p then xB a k else xB b k:=by split<;>rfl
@[go_sem] theorem qpK {x:V} {k:V→Option α}:qo (some x) k=k x:=(rfl)
@[go_sem] theorem qpJ {k:V→Option α}:qo none k=none:=(rfl)
@[go_sem] theorem qpI {k:V→Option α} {p:Prop} [Decidable p] {a b:Option V}:qo (if p then a else b) k=if p then qo a k else qo b k:=by split<;>rfl
@[go_sem] theorem qpq {x:Mem} {k:Mem→Option α}:jr (some x) k=k x:=(rfl)
@[go_sem] theorem qpp {k:Mem→Option α}:jr none k=none:=(rfl)
@[go_sem] theorem qpn {x:List V} {k:List V→Option α}:zQ (some x) k=k x:=(rfl)
@[go_sem] theorem qpm {k:List V→Option α}:zQ none k=none:=(rfl)
@[go_sem] theorem qrw {b:Bool} {x y z:α}:Kl (some (B b)) x y z=if b=true then x else y:=by cases b<;>rfl
@[go_sem] theorem qx7:j8 id (some (.exit id',st))=if id'=id then some (.normal,st)else some (.exit id',st):=(rfl)
@[go_sem] theorem qya:j8 id (some (.normal,st))=some (.normal,st):=(rfl)
@[go_sem] theorem qyb:j8 id (some (.ret,st))=some (.ret,st):=(rfl)
@[go_sem] theorem qx9:j8 id none=none:=(rfl)
@[go_sem] theorem qx8 {p:Prop} [Decidable p] {a b:Option (AX × St)}:j8 id (if p then a else b)=if p then j8 id a else j8 id b:=by split<;>rfl
@[go_sem] theorem qs8 {k:St→Option α}:kT (some (.normal,st)) k=k st:=(rfl)
@[go_sem] theorem qs9 {k:St→Option α}:kT (some (.ret,st)) k=k st:=(rfl)
@[go_sem] theorem qs7 {k:St→Option α}:kT none k=none:=(rfl)
@[go_sem] theorem qs6 {k:St→Option α} {p:Prop} [Decidable p] {a b:Option (AX × St)}:kT (if p then a else b) k=if p then kT a k else kT b k:=by split<;>rfl
end
noncomputable def cr(prog:Nat→Option AE) (f:Nat) (xs:List V):Option V:=(cw prog f xs).map Prod.fst
section
variable {prog:Nat→Option AE} {st:St}
theorem qF {f:Nat} {af:AF} {args:List V} (h:prog f=some (.fn af)) (hl:args.length=af.nargs):
 cr prog f args=kT (xw prog af.body {σ:=yu 0 (q7 0 args).1,T:=(q7 0 args).2}) fun st=>
  (yt st.σ st.T af.res).map fun r=>(qq 30 r.2 (xZ r.1)).1:=by
 unfold cr
 rw [qcQ,h]
 simp only [if_pos hl]
 cases he:xw prog af.body {σ:=yu 0 (q7 0 args).1,T:=(q7 0 args).2} with
 |none=>rfl
 |some s=>
  obtain ⟨e,s⟩:=s
  have hf:(z6 af (q7 0 args).1 s).map Prod.fst=(yt s.σ s.T af.res).map fun r=>(qq 30 r.2 (xZ r.1)).1:=by
   unfold z6
   cases yt s.σ s.T af.res<;>rfl
  cases e
  ·exact hf
  ·rfl
  ·exact hf
theorem jZ {f:Nat} {af:AF} {args:List V} (h:prog f=some (.fn af)) (hl:args.length=af.nargs):
 cw prog f args=kT (xw prog af.body {σ:=yu 0 (q7 0 args).1,T:=(q7 0 args).2}) fun st=>z6 af (q7 0 args).1 st:=by
 rw [qcQ,h]
 simp only [if_pos hl]
 cases he:xw prog af.body {σ:=yu 0 (q7 0 args).1,T:=(q7 0 args).2} with
 |none=>rfl
 |some s=>obtain ⟨e,s⟩:=s;cases e<;>rfl
@[go_sem] theorem qAV:xw prog .skip st=some (.normal,st):=qme
@[go_sem] theorem qAT:xw prog .ret st=some (.ret,st):=qmc
@[go_sem] theorem qAN {id:Nat}:xw prog (.exit id) st=some (.exit id,st):=ql5
@[go_sem] theorem qAS {is:List AI}:xw prog (.reg is) st=xB (ym (cw prog) is st) fun st=>some (.normal,st):=by
 rw [qmb];cases ym (cw prog) is st<;>rfl
@[go_sem] theorem qAM {plan:List Dp} {is:List AI}:xw prog (.dreg plan is) st=xB (zr (cw prog) plan is (yV (zF plan is) st)) fun st=>if j7 st.T=true then some (.normal,st)else none:=by
 rw [ql4];cases zr (cw prog) plan is (yV (zF plan is) st)<;>rfl
@[go_sem] theorem qAU {x y:AC}:xw prog (.seq x y) st=xA (xw prog x st) fun st'=>xw prog y st':=by
 rw [qmd]
 cases xw prog x st with
 |none=>rfl
 |some s=>obtain ⟨e,s⟩:=s;cases e<;>rfl
@[go_sem] theorem qAL {a:AO} {x y:AC}:xw prog (.cond a x y) st=Kl (ev st.σ a) (xw prog x st) (xw prog y st) none:=by
 rw [ql3];rfl
@[go_sem] theorem qAK {id:Nat} {x:AC}:xw prog (.block id x) st=j8 id (xw prog x st):=by
 rw [ql2]
 cases xw prog x st with
 |none=>rfl
 |some s=>obtain ⟨e,s⟩:=s;cases e<;>rfl
@[go_sem] theorem qAP {ls:List Nat} {ks:List Key} {x:AC}:xw prog (.nam ls ks x) st=xw prog x (xb ls ks st):=ql8
@[go_sem] theorem qAQ {os:List (Nat × Nat × Option Nat)} {x:AC}:xw prog (.opd os x) st=xw prog x (kE os st):=ql9
@[go_sem] theorem qAR {os:List (Nat × Key × Nat)} {x:AC}:xw prog (.opn os x) st=xw prog x (xo os st):=qma
@[go_sem] theorem qAO {ls:List Nat} {x:AC} {σ:Sl} {T:Mem}:xw prog (.keep ls x) ⟨σ,T⟩=xw prog x ⟨zl σ ls,T⟩:=ql6
theorem ql0 {ls:List Nat} {ks:List Key} {x:AC}:xw prog (.loop ls ks x) st=xA (xw prog x (xb ls ks st)) fun st'=>xw prog (.loop ls ks x) st':=by
 rw [ql7]
 cases xw prog x (xb ls ks st)with
 |none=>rfl
 |some s=>obtain ⟨e,s⟩:=s;cases e<;>rfl
variable {σ:Sl} {T:Mem} {call:qS}
@[go_sem] theorem qoH:ym call [] st=some st:=(rfl)
@[go_sem] theorem qoG {i:AI} {is:List AI}:ym call (i::is) st=xB (qm call st i) fun st=>ym call is st:=by
 simp only [ym];cases qm call st i<;>rfl
def gdK(b:Option V) (want:Bool) (x y:Option St):Option St:=
 match b with
 |some (.v (.bool b))=>if b=want then x else y
 |some (.v _)=>y
 |_=>none
@[congr] theorem qt5 {b b':Option V} {w:Bool} {x y:Option St} (h:b=b'):gdK b w x y=gdK b' w x y:=by rw [h]
@[go_sem] theorem qt4 {b w:Bool} {x y:Option St}:gdK (some (B b)) w x y=if b=w then x else y:=(rfl)
@[go_sem] theorem qt6 {w:Bool} {x y:Option St}:gdK (some zX) w x y=y:=(rfl)
@[go_sem] theorem qtE {j:Nat} {w:Bool} {d:Nat} {i:AI}:qm call ⟨σ,T⟩ (.gd j w (some d) i)=gdK (qw σ j) w (qh call ⟨σ,T⟩ i) (some ⟨(d,zX)::σ,T⟩):=by
 simp only [qm,gdK]
 cases qw σ j with
 |none=>rfl
 |some x=>cases x<;>first|rfl|(rename_i v;cases v<;>rfl)
@[go_sem] theorem qtF {j:Nat} {w:Bool} {i:AI}:qm call ⟨σ,T⟩ (.gd j w none i)=gdK (qw σ j) w (qh call ⟨σ,T⟩ i) (some ⟨σ,T⟩):=by
 simp only [qm,gdK]
 cases qw σ j with
 |none=>rfl
 |some x=>cases x<;>first|rfl|(rename_i v;cases v<;>rfl)
@[go_sem] theorem qtn {n:Nat}:ev σ (.t n)=qw σ n:=(rfl)
@[go_sem] theorem qtm {x:V}:ev σ (.c x)=some x:=(rfl)
@[go_sem] theorem qti:evL σ []=some []:=(rfl)
@[go_sem] theorem qth {x:AO} {xs:List AO}:evL σ (x::xs)=qo (ev σ x) fun y=>zQ (evL σ xs) fun ys=>some (y::ys):=by
 simp only [evL];cases ev σ x<;>cases evL σ xs<;>rfl
@[go_sem] theorem qtj:evO σ none=some none:=(rfl)
@[go_sem] theorem qtk {x:AO}:evO σ (some x)=qo (ev σ x) fun y=>some (some y):=by
 simp only [evO];cases ev σ x<;>rfl
attribute [go_sem] qw qp qy qfn qA qz yM kW ZO qaz kS XH yV
def pkS(o:Option V) (t:Nat) (r:Sl):Sl:=match o with|some x=>(t,x)::r|none=>r
@[congr] theorem qyq {o o':Option V} {t:Nat} {r:Sl} (h:o=o'):pkS o t r=pkS o' t r:=by rw [h]
@[go_sem] theorem qys {x:V} {t:Nat} {r:Sl}:pkS (some x) t r=(t,x)::r:=(rfl)
@[go_sem] theorem qyr {t:Nat} {r:Sl}:pkS none t r=r:=(rfl)
@[go_sem] theorem qyn {σ:Sl}:zl σ []=[]:=(rfl)
@[go_sem] theorem qj3: ∀ (ls:List Nat),zl [] ls=[]
 |[]=>rfl
 |t::r=>by simp only [zl,qw,qj3 r]
@[go_sem] theorem qym {q:Nat × V} {σ:Sl} {t:Nat} {r:List Nat}:zl (q::σ) (t::r)=pkS (qw (q::σ) t) t (zl (q::σ) r):=by
 simp only [zl,pkS]
 cases qw (q::σ) t<;>rfl
def pkT(o:Option Ob) (k:Key) (a b:Mem):Mem:=match o with|some x=>(k,x)::a|none=>b
@[congr] theorem qyt {o o':Option Ob} {k:Key} {a b:Mem} (h:o=o'):pkT o k a b=pkT o' k a b:=by rw [h]
@[go_sem] theorem qyv {x:Ob} {k:Key} {a b:Mem}:pkT (some x) k a b=(k,x)::a:=(rfl)
@[go_sem] theorem qyu {k:Key} {a b:Mem}:pkT none k a b=b:=(rfl)
@[go_sem] theorem qyp {T:Mem}:yi T []=[]:=by cases T<;>rfl
@[go_sem] theorem qj4: ∀ (ks:List Key),yi [] ks=[]
 |[]=>rfl
 |k::r=>by simp only [yi,qp,qj4 r]
@[go_sem] theorem qyo {q:Key × Ob} {T:Mem} {k:Key} {r:List Key}:yi (q::T) (k::r)=pkT (qp (q::T) k) k (yi (qy (q::T) k) r) (yi (q::T) r):=by
 simp only [yi,pkT]
 cases qp (q::T) k<;>rfl
@[go_sem] theorem qyl {T:Mem}:yP T []=[]:=(rfl)
@[go_sem] theorem qj2: ∀ (ks:List Key),yP [] ks=[]
 |[]=>rfl
 |k::r=>by simp only [yP,qp,qj2 r]
@[go_sem] theorem qyk {q:Key × Ob} {T:Mem} {k:Key} {r:List Key}:yP (q::T) (k::r)=pkT (qp (q::T) k) k (yP (q::T) r) (yP (q::T) r):=by
 simp only [yP,pkT]
 cases qp (q::T) k<;>rfl
def wT(d:Nat) (T:Mem):Mem:=kW d (kS d (XH (ZO d T) T))
@[go_sem] theorem qbD {d:Nat}:q9 d ⟨σ,T⟩=⟨yM d σ,wT d T⟩:=(rfl)
def xm {α:Type} (c:Bool) (x:Option α):Option α:=if c=true then x else none
@[congr] theorem qt7 {α:Type} {b b':Bool} {x:Option α} (h:b=b'):xm b x=xm b' x:=by rw [h]
@[go_sem] theorem qt9 {α:Type} {x:Option α}:xm true x=x:=(rfl)
@[go_sem] theorem qt8 {α:Type} {x:Option α}:xm false x=none:=(rfl)
def zw {α:Type} (c:Bool) (x y:α):α:=if c=true then x else y
@[congr] theorem qyh {α:Type} {b b':Bool} {x y:α} (h:b=b'):zw b x y=zw b' x y:=by rw [h]
@[go_sem] theorem qyj {α:Type} {x y:α}:zw true x y=x:=(rfl)
@[go_sem] theorem qyi {α:Type} {x y:α}:zw false x y=y:=(rfl)
section vals
variable {n:Int} {b:Bool} {l:List UInt8} {g:Nat}
attribute [go_sem] qZ ya clB yI qu zB qM qO qP qW zb xn kO jq qw
@[go_sem] theorem qqb {d:Nat} {x:V} {st:St}:xi (some d) x st=jW d x st:=(rfl)
@[go_sem] theorem qqa {x:V} {st:St}:xi none x st=st:=(rfl)
@[go_sem] theorem qtt {x:V}:fzV true x=qM false x:=(rfl)
@[go_sem] theorem qts {x:V}:fzV false x=x:=(rfl)
section
variable {cs xs ys:List V} {τ:Bool} {i o e:Nat} {x:V} {k:Key} {fn:Fn}
@[go_sem] theorem qqq:(V.a cs).cells=cs:=(rfl)
@[go_sem] theorem qqD:(V.p k i o).cells=[V.p k i o]:=(rfl)
@[go_sem] theorem qqF:(V.s k i o).cells=[V.s k i o]:=(rfl)
@[go_sem] theorem qqE:(V.q τ xs i o).cells=[V.q τ xs i o]:=(rfl)
@[go_sem] theorem qqt:(V.i τ xs).cells=[V.i τ xs]:=(rfl)
@[go_sem] theorem qqB:(V.o e xs).cells=[V.o e xs]:=(rfl)
@[go_sem] theorem qqA:(V.n e).cells=[V.n e]:=(rfl)
@[go_sem] theorem qqr:(V.b x).cells=[V.b x]:=(rfl)
@[go_sem] theorem qqs:(V.f fn xs ys).cells=[V.f fn xs ys]:=(rfl)
@[go_sem] theorem qqG:(V.t xs).cells=[V.t xs]:=(rfl)
@[go_sem] theorem qul:(V.a cs).isA=true:=(rfl)
@[go_sem] theorem qum:(V.i τ xs).isA=false:=(rfl)
@[go_sem] theorem quv:(V.o e xs).isA=false:=(rfl)
@[go_sem] theorem quu:(V.n e).isA=false:=(rfl)
@[go_sem] theorem quw:(V.s k i o).isA=false:=(rfl)
@[go_sem] theorem qrR:(V.a cs).dead=false:=(rfl)
@[go_sem] theorem qrX:(V.p k i o).dead=false:=(rfl)
@[go_sem] theorem qrZ:(V.s k i o).dead=false:=(rfl)
@[go_sem] theorem qrY:(V.q τ xs i o).dead=false:=(rfl)
@[go_sem] theorem qrU:(V.i τ xs).dead=false:=(rfl)
@[go_sem] theorem qrW:(V.o e xs).dead=false:=(rfl)
@[go_sem] theorem qrV:(V.n e).dead=false:=(rfl)
@[go_sem] theorem qrS:(V.b x).dead=false:=(rfl)
@[go_sem] theorem qrT:(V.f fn xs ys).dead=false:=(rfl)
@[go_sem] theorem qqX:clE (V.a cs)=yI cs:=(rfl)
@[go_sem] theorem qq0:clE (V.i τ xs)=true:=(rfl)
@[go_sem] theorem qq2:clE (V.o e xs)=true:=(rfl)
@[go_sem] theorem qq1:clE (V.n e)=true:=(rfl)
@[go_sem] theorem qq4:clE (V.q τ xs i o)=true:=(rfl)
@[go_sem] theorem qqY:clE (V.b x)=true:=(rfl)
@[go_sem] theorem qq5:clE (V.s k i o)=false:=(rfl)
@[go_sem] theorem qq3:clE (V.p k i o)=false:=(rfl)
@[go_sem] theorem qqZ:clE (V.f fn xs ys)=(yI xs&&yI ys):=(rfl)
variable {d j:Nat}
@[go_sem] theorem qxY:zd d j (.o e xs)=(.s (d,j) 0 xs.length,j+1,[((d,j),e,xs)]):=(rfl)
@[go_sem] theorem qxU:zd d j (.b x)=(.p (d,j) 0 0,j+1,[((d,j),x.cells.length,[x])]):=(rfl)
@[go_sem] theorem qxV:zd d j (.i τ xs)=(.i τ xs,j,[]):=(rfl)
@[go_sem] theorem qje:zd d j (.q τ xs i o)=(.q τ xs i o,j,[]):=(rfl)
@[go_sem] theorem qxX:zd d j (.n e)=(.n e,j,[]):=(rfl)
@[go_sem] theorem qxQ:zd d j (I n)=(I n,j,[]):=(rfl)
@[go_sem] theorem qxO:zd d j (B b)=(B b,j,[]):=(rfl)
@[go_sem] theorem qxR:zd d j (S l)=(S l,j,[]):=(rfl)
@[go_sem] theorem qxT:zd d j (U8 n)=(U8 n,j,[]):=(rfl)
@[go_sem] theorem qxS:zd d j (U32 n)=(U32 n,j,[]):=(rfl)
@[go_sem] theorem qxP:zd d j (Fc g)=(Fc g,j,[]):=(rfl)
@[go_sem] theorem qxt:qG d j (.a cs)=(.a (zb d j cs).1,(zb d j cs).2):=(rfl)
@[go_sem] theorem qxv:qG d j (.f fn xs ys)=(.f fn (zb d j xs).1 (zb d (zb d j xs).2.1 ys).1,(zb d (zb d j xs).2.1 ys).2.1,(zb d j xs).2.2++(zb d (zb d j xs).2.1 ys).2.2):=(rfl)
@[go_sem] theorem qxy:qG d j (.o e xs)=(.s (d,j) 0 xs.length,j+1,[((d,j),e,xs)]):=(rfl)
@[go_sem] theorem qxu:qG d j (.b x)=(.p (d,j) 0 0,j+1,[((d,j),x.cells.length,[x])]):=(rfl)
@[go_sem] theorem qxw:qG d j (.i τ xs)=(.i τ xs,j,[]):=(rfl)
@[go_sem] theorem qxz:qG d j (.q τ xs i o)=(.q τ xs i o,j,[]):=(rfl)
@[go_sem] theorem qxx:qG d j (.n e)=(.n e,j,[]):=(rfl)
@[go_sem] theorem qxp:qG d j (I n)=(I n,j,[]):=(rfl)
@[go_sem] theorem qxo:qG d j (B b)=(B b,j,[]):=(rfl)
@[go_sem] theorem qxq:qG d j (S l)=(S l,j,[]):=(rfl)
@[go_sem] theorem qxs:qG d j (U8 n)=(U8 n,j,[]):=(rfl)
@[go_sem] theorem qxr:qG d j (U32 n)=(U32 n,j,[]):=(rfl)
@[go_sem] theorem qxN:zK d (.t xs)=(.t (xn d 0 xs).1,(xn d 0 xs).2.2):=(rfl)
@[go_sem] theorem qxG:zK d (.a cs)=(.a (zb d 0 cs).1,(zb d 0 cs).2.2):=(rfl)
@[go_sem] theorem qxI:zK d (.f fn xs ys)=((qG d 0 (.f fn xs ys)).1,(qG d 0 (.f fn xs ys)).2.2):=(rfl)
@[go_sem] theorem qxL:zK d (.o e xs)=(.s (d,0) 0 xs.length,[((d,0),e,xs)]):=(rfl)
@[go_sem] theorem qxH:zK d (.b x)=(.p (d,0) 0 0,[((d,0),x.cells.length,[x])]):=(rfl)
@[go_sem] theorem qxJ:zK d (.i τ xs)=(.i τ xs,[]):=(rfl)
@[go_sem] theorem qxM:zK d (.q τ xs i o)=(.q τ xs i o,[]):=(rfl)
@[go_sem] theorem qxK:zK d (.n e)=(.n e,[]):=(rfl)
@[go_sem] theorem qxC:zK d (I n)=(I n,[]):=(rfl)
@[go_sem] theorem qxA:zK d (B b)=(B b,[]):=(rfl)
@[go_sem] theorem qxD:zK d (S l)=(S l,[]):=(rfl)
@[go_sem] theorem qxF:zK d (U8 n)=(U8 n,[]):=(rfl)
@[go_sem] theorem qxE:zK d (U32 n)=(U32 n,[]):=(rfl)
@[go_sem] theorem qxB:zK d (Fc g)=(Fc g,[]):=(rfl)
end
@[go_sem] theorem quM {d:Nat}:qA d (I n)=I n:=(rfl)
@[go_sem] theorem quK {d:Nat}:qA d (B b)=B b:=(rfl)
@[go_sem] theorem quN {d:Nat}:qA d (S l)=S l:=(rfl)
@[go_sem] theorem quP {d:Nat}:qA d (U8 n)=U8 n:=(rfl)
@[go_sem] theorem quO {d:Nat}:qA d (U32 n)=U32 n:=(rfl)
@[go_sem] theorem quL {d:Nat}:qA d (Fc g)=Fc g:=(rfl)
@[go_sem] theorem quR {d:Nat}:qA d zX=zX:=(rfl)
@[go_sem] theorem qqm:(I n).cells=[I n]:=(rfl)
@[go_sem] theorem qqk:(B b).cells=[B b]:=(rfl)
@[go_sem] theorem qqn:(S l).cells=[S l]:=(rfl)
@[go_sem] theorem qqp:(U8 n).cells=[U8 n]:=(rfl)
@[go_sem] theorem qqo:(U32 n).cells=[U32 n]:=(rfl)
@[go_sem] theorem qql:(Fc g).cells=[Fc g]:=(rfl)
@[go_sem] theorem quj:(I n).isA=false:=(rfl)
@[go_sem] theorem qui:(B b).isA=false:=(rfl)
@[go_sem] theorem quk:(S l).isA=false:=(rfl)
@[go_sem] theorem qrO:(I n).dead=false:=(rfl)
@[go_sem] theorem qrN:(B b).dead=false:=(rfl)
@[go_sem] theorem qrP:(S l).dead=false:=(rfl)
@[go_sem] theorem qrQ:(U8 n).dead=false:=(rfl)
@[go_sem] theorem qw7:(I n).one=true:=(rfl)
@[go_sem] theorem qw5:(B b).one=true:=(rfl)
@[go_sem] theorem qw8:(S l).one=true:=(rfl)
@[go_sem] theorem qxa:(U8 n).one=true:=(rfl)
@[go_sem] theorem qw9:(U32 n).one=true:=(rfl)
@[go_sem] theorem qw6:(Fc g).one=true:=(rfl)
@[go_sem] theorem qxh {k:Key} {i o:Nat}:(V.p k i o).one=true:=(rfl)
@[go_sem] theorem qxj {k:Key} {i o:Nat}:(V.s k i o).one=true:=(rfl)
@[go_sem] theorem qxi {τ:Bool} {xs:List V} {i o:Nat}:(V.q τ xs i o).one=true:=(rfl)
@[go_sem] theorem qxd {τ:Bool} {xs:List V}:(V.i τ xs).one=true:=(rfl)
@[go_sem] theorem qxg {e:Nat} {xs:List V}:(V.o e xs).one=true:=(rfl)
@[go_sem] theorem qxf {e:Nat}:(V.n e).one=true:=(rfl)
@[go_sem] theorem qxb {x:V}:(V.b x).one=true:=(rfl)
@[go_sem] theorem qxc {fn:Fn} {xs ys:List V}:(V.f fn xs ys).one=true:=(rfl)
@[go_sem] theorem qAY:qZ (I n)=true:=(rfl)
@[go_sem] theorem qAW:qZ (B b)=true:=(rfl)
@[go_sem] theorem qAZ:qZ (S l)=true:=(rfl)
@[go_sem] theorem qA1:qZ (U8 n)=true:=(rfl)
@[go_sem] theorem qA0:qZ (U32 n)=true:=(rfl)
@[go_sem] theorem qAX:qZ (Fc g)=true:=(rfl)
@[go_sem] theorem qqP:clB (I n)=true:=(rfl)
@[go_sem] theorem qqN:clB (B b)=true:=(rfl)
@[go_sem] theorem qqQ:clB (S l)=true:=(rfl)
@[go_sem] theorem qqS:clB (U8 n)=true:=(rfl)
@[go_sem] theorem qqR:clB (U32 n)=true:=(rfl)
@[go_sem] theorem qqO:clB (Fc g)=true:=(rfl)
@[go_sem] theorem qqU:clE (I n)=true:=(rfl)
@[go_sem] theorem qqT:clE (B b)=true:=(rfl)
@[go_sem] theorem qqV:clE (S l)=true:=(rfl)
@[go_sem] theorem qqW:clE (U8 n)=true:=(rfl)
@[go_sem] theorem qag {τ:Bool}:qM τ (I n)=I n:=(rfl)
@[go_sem] theorem qrF {τ:Bool}:qM τ (B b)=B b:=(rfl)
@[go_sem] theorem qah {τ:Bool}:qM τ (S l)=S l:=(rfl)
@[go_sem] theorem qrI {τ:Bool}:qM τ (U8 n)=U8 n:=(rfl)
@[go_sem] theorem qrH {τ:Bool}:qM τ (U32 n)=U32 n:=(rfl)
@[go_sem] theorem qrG {τ:Bool}:qM τ (Fc g)=Fc g:=(rfl)
@[go_sem] theorem qdW:qP (I n)=true:=(rfl)
@[go_sem] theorem qwW:qP (B b)=true:=(rfl)
@[go_sem] theorem qdX:qP (S l)=true:=(rfl)
@[go_sem] theorem qwZ:qP (U8 n)=true:=(rfl)
@[go_sem] theorem qwY:qP (U32 n)=true:=(rfl)
@[go_sem] theorem qwX:qP (Fc g)=true:=(rfl)
@[go_sem] theorem qrc {m:Nat} {T:Mem}:qq (m+1) T (I n)=(I n,T):=(rfl)
@[go_sem] theorem qra {m:Nat} {T:Mem}:qq (m+1) T (B b)=(B b,T):=(rfl)
@[go_sem] theorem qrd {m:Nat} {T:Mem}:qq (m+1) T (S l)=(S l,T):=(rfl)
@[go_sem] theorem qrf {m:Nat} {T:Mem}:qq (m+1) T (U8 n)=(U8 n,T):=(rfl)
@[go_sem] theorem qre {m:Nat} {T:Mem}:qq (m+1) T (U32 n)=(U32 n,T):=(rfl)
@[go_sem] theorem qrb {m:Nat} {T:Mem}:qq (m+2) T (Fc g)=(Fc g,T):=(rfl)
@[go_sem] theorem qrj {m:Nat} {T:Mem} {τ:Bool} {xs:List V}:qq (m+1) T (.i τ xs)=(.i τ xs,T):=(rfl)
@[go_sem] theorem qrm {m:Nat} {T:Mem} {e:Nat} {xs:List V}:qq (m+1) T (.o e xs)=(.o e xs,T):=(rfl)
@[go_sem] theorem qcF {m:Nat} {T:Mem} {τ:Bool} {xs:List V} {i o:Nat}:qq (m+1) T (.q τ xs i o)=(.q τ xs i o,T):=(rfl)
@[go_sem] theorem qrh {m:Nat} {T:Mem} {x:V}:qq (m+1) T (.b x)=(.b x,T):=(rfl)
@[go_sem] theorem qrl {m:Nat} {T:Mem} {e:Nat}:qq (m+1) T (.n e)=(.o e [],T):=(rfl)
@[go_sem] theorem qrg {m:Nat} {T:Mem} {cs:List V}:qq (m+1) T (.a cs)=(.a (qx (qq m) T cs).1,(qx (qq m) T cs).2):=(rfl)
@[go_sem] theorem qrp {m:Nat} {T:Mem} {cs:List V}:qq (m+1) T (.t cs)=(.t (qx (qq m) T cs).1,(qx (qq m) T cs).2):=(rfl)
@[go_sem] theorem qri {m:Nat} {T:Mem} {fn:Fn} {xs ys:List V}:qq (m+1) T (.f fn xs ys)=(.f fn (qx (qq m) T xs).1 (qx (qq m) (qx (qq m) T xs).2 ys).1,(qx (qq m) (qx (qq m) T xs).2 ys).2):=(rfl)
def esV(m:Nat) (T:Mem) (xs:List V):List V × Mem:=zw (qu xs) (xs,T) (qx (qq m) T xs)
def sK(m:Nat) (T':Mem) (lo len:Nat) (ob:Option Ob) (T:Mem):V × Mem:=
 match ob with
 |none=>(.d,T)
 |some ob=>if lo+len≤ob.2.length then
  (if lo=0 then (.o ob.1 (((esV m T' ob.2).1.drop lo).take len),(esV m T' ob.2).2)
  else (.o ob.1 (esV m T' ((ob.2.drop lo).take len)).1,(esV m T' ((ob.2.drop lo).take len)).2))else (.d,T)
@[go_sem] theorem qro {m:Nat} {T:Mem} {k:Key} {lo len:Nat}:qq (m+1) T (.s k lo len)=sK m (qy T k) lo len (qp T k) T:=by
 simp only [qq,sK,esV,zw];cases qp T k<;>rfl
@[go_sem] theorem qzO {m:Nat} {T T':Mem} {lo len e:Nat} {xs:List V}:sK m T' lo len (some (e,xs)) T=if lo+len≤xs.length then (if lo=0 then (.o e (((esV m T' xs).1.drop lo).take len),(esV m T' xs).2)else (.o e (esV m T' ((xs.drop lo).take len)).1,(esV m T' ((xs.drop lo).take len)).2))else (.d,T):=(rfl)
@[go_sem] theorem qzN {m:Nat} {T T':Mem} {lo len:Nat}:sK m T' lo len none T=(.d,T):=(rfl)
@[go_sem] theorem qtg {m:Nat} {T:Mem} {xs:List V}:esV m T xs=zw (qu xs) (xs,T) (qx (qq m) T xs):=(rfl)
def pK(m:Nat) (T':Mem) (ob:Option Ob) (T:Mem):V × Mem:=
 match ob with
 |some (_,[x])=>(.b ((esV m T' [x]).1.headD .d),(esV m T' [x]).2)
 |_=>(.d,T)
@[go_sem] theorem qrn {m:Nat} {T:Mem} {k:Key}:qq (m+1) T (.p k 0 0)=pK m (qy T k) (qp T k) T:=by
 simp only [qq,pK,esV,zw]
 cases qp T k with
 |none=>rfl
 |some ob=>obtain ⟨e,xs⟩:=ob;rcases xs with _|⟨x,_|⟨y,r⟩⟩<;>rfl
@[go_sem] theorem qye {m:Nat} {T T':Mem} {e:Nat} {x:V}:pK m T' (some (e,[x])) T=(.b ((esV m T' [x]).1.headD .d),(esV m T' [x]).2):=(rfl)
@[go_sem] theorem qyd {m:Nat} {T T':Mem}:pK m T' none T=(.d,T):=(rfl)
attribute [go_sem] qx List.headD xr wT Je
def qzH(T:Mem) (k:Key) (ob:Option Ob):Mem:=
 match ob with
 |none=>T
 |some ob=>zw (qu ob.2) (xL k ob (qy T k)) (qy T k)
end vals
@[go_sem] theorem qtT {d:Nat} {x:AO}:qm call ⟨σ,T⟩ (.mv d x)=qo (ev σ x) fun y=>some ⟨(d,y)::σ,T⟩:=by
 simp only [qm,qh];cases ev σ x<;>rfl
def XK {α:Type} (c:Option V) (x y:α) (z:α):α:=
 match c with
 |some (.v (.bool true))=>x
 |some (.v (.bool false))=>y
 |_=>z
@[congr] theorem qzS {α:Type} {c c':Option V} {x y z:α} (h:c=c'):XK c x y z=XK c' x y z:=by rw [h]
@[go_sem] theorem qzR {α:Type} {b:Bool} {x y z:α}:XK (some (B b)) x y z=if b=true then x else y:=by cases b<;>rfl
end
end Go.Vm
namespace Go.Vm
section
variable {prog:Nat→Option AE} {st:St} {σ:Sl} {T:Mem} {call:qS}
@[go_sem] theorem qok {d:Nat} {x:AO}:qh call ⟨σ,T⟩ (.mv d x)=qm call ⟨σ,T⟩ (.mv d x):=(rfl)
@[go_sem] theorem qoo {d:Nat} {x:AO} {y:AO} {z:AO}:qh call ⟨σ,T⟩ (.pick d x y z)=qm call ⟨σ,T⟩ (.pick d x y z):=(rfl)
@[go_sem] theorem qom {d:Nat} {x:AO}:qh call ⟨σ,T⟩ (.new d x)=qm call ⟨σ,T⟩ (.new d x):=(rfl)
@[go_sem] theorem qnZ {d:Nat} {v:V} {bs:List (Nat × Nat × AO)}:qh call ⟨σ,T⟩ (.build d v bs)=qm call ⟨σ,T⟩ (.build d v bs):=(rfl)
@[go_sem] theorem qoi {d:Nat} {e:Nat} {xs:List AO}:qh call ⟨σ,T⟩ (.mks d e xs)=qm call ⟨σ,T⟩ (.mks d e xs):=(rfl)
@[go_sem] theorem qog {d:Nat} {e:Nat} {v:V} {n:Nat} {x:AO} {y:AO}:qh call ⟨σ,T⟩ (.mk d e v n x y)=qm call ⟨σ,T⟩ (.mk d e v n x y):=(rfl)
@[go_sem] theorem qoa {d:Nat} {p:Bool} {n:Nat} {x:AO}:qh call ⟨σ,T⟩ (.ld d p n x)=qm call ⟨σ,T⟩ (.ld d p n x):=(rfl)
@[go_sem] theorem qob {d:Nat} {p:Bool} {n:Nat} {x:AO}:qh call ⟨σ,T⟩ (.ldq d p n x)=qm call ⟨σ,T⟩ (.ldq d p n x):=(rfl)
@[go_sem] theorem qon {d:Nat} {x:AO}:qh call ⟨σ,T⟩ (.nilc d x)=qm call ⟨σ,T⟩ (.nilc d x):=(rfl)
@[go_sem] theorem qnY {d:Nat} {op:BinOp} {x:AO} {y:AO}:qh call ⟨σ,T⟩ (.bin d op x y)=qm call ⟨σ,T⟩ (.bin d op x y):=(rfl)
@[go_sem] theorem qn2 {d:Nat} {n:Nat} {p:Bool} {x:AO} {y:AO}:qh call ⟨σ,T⟩ (.eqs d n p x y)=qm call ⟨σ,T⟩ (.eqs d n p x y):=(rfl)
@[go_sem] theorem qou {d:Nat} {uo:UnOp} {x:AO}:qh call ⟨σ,T⟩ (.un d uo x)=qm call ⟨σ,T⟩ (.un d uo x):=(rfl)
@[go_sem] theorem qop {d:Nat} {e:Nat} {x:AO} {ox:Option AO} {oy:Option AO}:qh call ⟨σ,T⟩ (.sl d e x ox oy)=qm call ⟨σ,T⟩ (.sl d e x ox oy):=(rfl)
@[go_sem] theorem qor {d:Nat} {x:AO} {ox:Option AO} {oy:Option AO}:qh call ⟨σ,T⟩ (.ssl d x ox oy)=qm call ⟨σ,T⟩ (.ssl d x ox oy):=(rfl)
@[go_sem] theorem qoq {d:Nat} {x:AO}:qh call ⟨σ,T⟩ (.slen d x)=qm call ⟨σ,T⟩ (.slen d x):=(rfl)
@[go_sem] theorem qn4 {d:Nat} {x:AO} {n:Nat}:qh call ⟨σ,T⟩ (.fa d x n)=qm call ⟨σ,T⟩ (.fa d x n):=(rfl)
@[go_sem] theorem qn5 {d:Nat} {p:Bool} {n:Nat} {x:AO} {m:Nat}:qh call ⟨σ,T⟩ (.fld d p n x m)=qm call ⟨σ,T⟩ (.fld d p n x m):=(rfl)
@[go_sem] theorem qn7 {d:Nat} {e:Nat} {x:AO} {y:AO}:qh call ⟨σ,T⟩ (.ia d e x y)=qm call ⟨σ,T⟩ (.ia d e x y):=(rfl)
@[go_sem] theorem qn9 {d:Nat} {x:AO} {y:AO}:qh call ⟨σ,T⟩ (.ix d x y)=qm call ⟨σ,T⟩ (.ix d x y):=(rfl)
@[go_sem] theorem qn3 {d:Nat} {x:AO} {n:Nat}:qh call ⟨σ,T⟩ (.ext d x n)=qm call ⟨σ,T⟩ (.ext d x n):=(rfl)
@[go_sem] theorem qn6 {d:Nat} {fn:Fn} {xs:List AO} {ys:List AO}:qh call ⟨σ,T⟩ (.fun d fn xs ys)=qm call ⟨σ,T⟩ (.fun d fn xs ys):=(rfl)
@[go_sem] theorem qnX {d:Nat} {e:Nat} {n:Nat} {x:AO} {y:AO}:qh call ⟨σ,T⟩ (.app d e n x y)=qm call ⟨σ,T⟩ (.app d e n x y):=(rfl)
@[go_sem] theorem qoc {d:Nat} {x:AO}:qh call ⟨σ,T⟩ (.len d x)=qm call ⟨σ,T⟩ (.len d x):=(rfl)
@[go_sem] theorem qol {d:Nat} {p:Bool} {xs:List AO}:qh call ⟨σ,T⟩ (.mx d p xs)=qm call ⟨σ,T⟩ (.mx d p xs):=(rfl)
@[go_sem] theorem qn8 {d:Nat} {ik:IntKind} {x:AO}:qh call ⟨σ,T⟩ (.int d ik x)=qm call ⟨σ,T⟩ (.int d ik x):=(rfl)
@[go_sem] theorem qot {d:Nat} {x:AO}:qh call ⟨σ,T⟩ (.str d x)=qm call ⟨σ,T⟩ (.str d x):=(rfl)
@[go_sem] theorem qn0 {d:Nat} {x:AO}:qh call ⟨σ,T⟩ (.byt d x)=qm call ⟨σ,T⟩ (.byt d x):=(rfl)
@[go_sem] theorem qos {n:Nat} {x:AO} {y:AO}:qh call ⟨σ,T⟩ (.st n x y)=qm call ⟨σ,T⟩ (.st n x y):=(rfl)
@[go_sem] theorem qn1 {o:Option Nat} {x:AO} {xs:List AO} {md:Md}:qh call ⟨σ,T⟩ (.call o x xs md)=qm call ⟨σ,T⟩ (.call o x xs md):=(rfl)
@[go_sem] theorem qtX {d:Nat} {c x y:AO}:qm call ⟨σ,T⟩ (.pick d c x y)=XK (ev σ c) (qo (ev σ x) fun y=>some ⟨(d,y)::σ,T⟩) (qo (ev σ y) fun y=>some ⟨(d,y)::σ,T⟩) none:=by
 simp only [qm,qh,XK]
 split
 ·rename_i h;rw [h];cases ev σ x<;>rfl
 ·rename_i h;rw [h];cases ev σ y<;>rfl
 ·rename_i h1 h2;split
  ·rename_i h;exact absurd h h1
  ·rename_i h;exact absurd h h2
  ·rfl
@[go_sem] theorem qtV {d:Nat} {x:AO}:qm call ⟨σ,T⟩ (.new d x)=qo (ev σ x) fun y=>xm (zB y.cells) (some ⟨(d,.p (d,0) 0 0)::yM d σ,((d,0),y.cells.length,[qA d y])::wT d T⟩):=by
 simp only [qm,qh];cases ev σ x<;>rfl
def qgh:List V→List (Nat × Nat × V)→Option (List V)
 |z,[]=>some z
 |z,(off,size,y)::r=>xm (!y.dead&&decide (y.cells.length=size∧off+size≤z.length)) (qgh (z.take off++y.cells++z.drop (off+size)) r)
@[go_sem] theorem qqd {z:List V}:ku σ z []=some z:=(rfl)
@[go_sem] theorem qqc {z:List V} {off size:Nat} {x:AO} {r:List (Nat × Nat × AO)}:ku σ z ((off,size,x)::r)=
 qo (ev σ x) fun y=>xm (!y.dead&&decide (y.cells.length=size)&&decide (off+size≤z.length)) (ku σ (z.take off++y.cells++z.drop (off+size)) r):=by
 simp only [ku]
 cases ev σ x with
 |none=>rfl
 |some y=>
  simp only [qo,xm]
  congr 1
  simp [and_assoc]
@[go_sem] theorem qtw {d:Nat} {z:V} {parts:List (Nat × Nat × AO)}:qm call ⟨σ,T⟩ (.build d z parts)=zQ (ku σ z.cells parts) fun cs=>some ⟨(d,.a cs)::σ,T⟩:=by
 simp only [qm,qh];cases ku σ z.cells parts<;>rfl
def jp(e:Nat):List V→Bool
 |[]=>true
 |y::ys=>zB y.cells&&(y.cells.length==e)&&jp e ys
theorem J2(e:Nat): ∀ (ys:List V),jp e ys=ys.all fun y=>zB y.cells&&y.cells.length==e
 |[]=>rfl
 |y::ys=>by simp only [jp,List.all_cons,J2 e ys]
attribute [go_sem] jp
@[go_sem] theorem qtR {d e:Nat} {parts:List AO}:qm call ⟨σ,T⟩ (.mks d e parts)=zQ (evL σ parts) fun ys=>
 xm (jp e ys) (some ⟨(d,.s (d,0) 0 ys.length)::yM d σ,((d,0),e,qz d ys)::wT d T⟩):=by
 simp only [qm,qh,J2];cases evL σ parts<;>rfl
def mkK(e bytes:Nat) (z l c:V) (d:Nat) (σ:Sl) (T:Mem):Option St:=
 match l,c with
 | .v (.int _ l),.v (.int _ c)=>
  if 0≤l∧l=c∧l*bytes≤lim∧l≤lim∧z.cells.length=e∧zB z.cells∧clE z then
   some {σ:=(d,.s (d,0) 0 l.toNat)::(q9 d ⟨σ,T⟩).σ,T:=((d,0),e,List.replicate l.toNat z)::(q9 d ⟨σ,T⟩).T}
  else none
 |_,_=>none
@[go_sem] theorem qtP {d e bytes:Nat} {z:V} {l c:AO}:qm call ⟨σ,T⟩ (.mk d e z bytes l c)=qo (ev σ l) fun l=>qo (ev σ c) fun c=>mkK e bytes z l c d σ T:=by
 simp only [qm,qh,mkK]
 cases ev σ l with
 |none=>rfl
 |some l=>cases ev σ c with
  |none=>cases l<;>first|rfl|(rename_i v;cases v<;>rfl)
  |some c=>cases l<;>first|rfl|(rename_i v;cases v<;>first|rfl|(cases c<;>first|rfl|(rename_i v;cases v<;>rfl)))
theorem qiX {e bytes:Nat} {z:V} {n d:Nat} (h1:n*bytes≤lim) (h2:n≤lim) (hz:z.cells.length=e) (ho:zB z.cells=true) (hc:clE z=true):
 mkK e bytes z (I n) (I n) d σ T=some ⟨(d,.s (d,0) 0 n)::yM d σ,((d,0),e,List.replicate n z)::wT d T⟩:=by
 simp only [mkK,I]
 rw [if_pos ⟨by omega,trivial,by exact_mod_cast h1,by exact_mod_cast h2,hz,ho,hc⟩]
 simp [qbD]
@[go_sem] theorem qtJ {d size:Nat} {agg:Bool} {a:AO}:qm call ⟨σ,T⟩ (.ld d agg size a)=qo (ev σ a) fun p=>qo (yN T agg size p) fun y=>
 zw (qZ y) (some ⟨(d,y)::σ,T⟩) (qo (yN (wT d T) agg size p) fun y'=>jr (jF (wT d T) p (qG d 0 y').1) fun T'=>some ⟨(d,(qG d 0 y').1)::yM d σ,(qG d 0 y').2.2++T'⟩):=by
 simp only [qm,qh]
 cases ev σ a with
 |none=>rfl
 |some p=>
  simp only [qo]
  cases yN T agg size p with
  |none=>rfl
  |some y=>
   simp only [zw]
   cases h:qZ y
   ·simp only [Bool.not_false,Bool.false_eq_true,if_true,if_false,qbD]
    cases yN (wT d T) agg size p with
    |none=>rfl
    |some y'=>
     simp only
     cases jF (wT d T) p (qG d 0 y').1<;>rfl
   ·simp [St.put]
@[go_sem] theorem qtK {d size:Nat} {agg:Bool} {a:AO}:qm call ⟨σ,T⟩ (.ldq d agg size a)=qo (ev σ a) fun p=>qo (yN T agg size p) fun y=>xm (qZ y) (some ⟨(d,y)::σ,T⟩):=by
 simp only [qm,qh]
 cases ev σ a with
 |none=>rfl
 |some p=>simp only [qo];cases yN T agg size p<;>rfl
@[go_sem] theorem qt1 {size:Nat} {a x:AO}:qm call ⟨σ,T⟩ (.st size a x)=qo (ev σ a) fun p=>qo (ev σ x) fun y=>
 xm (decide (y.cells.length=size)&&zB y.cells) (jr (jF T p y) fun T'=>some ⟨σ,T'⟩):=by
 simp only [qm,qh]
 cases ev σ a with
 |none=>rfl
 |some p=>cases ev σ x with
  |none=>rfl
  |some y=>
   simp only [qo,xm,Bool.and_eq_true,decide_eq_true_eq]
   congr 1
   cases jF T p y<;>rfl
def Xr(d:Nat) (σ:Sl) (T:Mem):V→Option St
 | .p k idx off=>some ⟨(d,.p k idx off)::σ,T⟩
 | .q τ xs idx off=>some ⟨(d,.q τ xs idx off)::σ,T⟩
 | .f (.func g) first caps=>some ⟨(d,.f (.func g) first caps)::σ,T⟩
 |_=>none
@[go_sem] theorem qvM {d:Nat} {k:Key} {i o:Nat}:Xr d σ T (.p k i o)=some ⟨(d,.p k i o)::σ,T⟩:=(rfl)
@[go_sem] theorem qvN {d:Nat} {τ:Bool} {xs:List V} {i o:Nat}:Xr d σ T (.q τ xs i o)=some ⟨(d,.q τ xs i o)::σ,T⟩:=(rfl)
@[go_sem] theorem qvL {d g:Nat} {xs ys:List V}:Xr d σ T (.f (.func g) xs ys)=some ⟨(d,.f (.func g) xs ys)::σ,T⟩:=(rfl)
@[go_sem] theorem qvK {d g:Nat}:Xr d σ T (Fc g)=some ⟨(d,Fc g)::σ,T⟩:=(rfl)
@[go_sem] theorem qtW {d:Nat} {x:AO}:qm call ⟨σ,T⟩ (.nilc d x)=qo (ev σ x) fun y=>Xr d σ T y:=by
 simp only [qm,qh]
 cases ev σ x with
 |none=>rfl
 |some y=>cases y<;>first|rfl|(rename_i f _ _;cases f<;>rfl)
@[go_sem] theorem qtv {d:Nat} {op:BinOp} {x y:AO}:qm call ⟨σ,T⟩ (.bin d op x y)=qo (ev σ x) fun x=>qo (ev σ y) fun y=>qo (q6 op x y) fun z=>some ⟨(d,z)::σ,T⟩:=by
 simp only [qm,qh]
 cases ev σ x with
 |none=>rfl
 |some x=>cases ev σ y with
  |none=>rfl
  |some y=>simp only [qo];cases q6 op x y<;>rfl
def eqB(k:Nat) (x y:V):Option V:=(eqV k x y).map B
@[go_sem] theorem qtz {d k:Nat} {neg:Bool} {x y:AO}:qm call ⟨σ,T⟩ (.eqs d k neg x y)=qo (ev σ x) fun x=>qo (ev σ y) fun y=>qo ((eqV k x y).map fun r=>B (r != neg)) fun z=>some ⟨(d,z)::σ,T⟩:=by
 simp only [qm,qh]
 cases ev σ x with
 |none=>rfl
 |some x=>cases ev σ y with
  |none=>rfl
  |some y=>simp only [qo];cases eqV k x y<;>rfl
def unV(op:UnOp):V→Option V
 | .v x=>(Op.unary op x).val?.map .v
 |_=>none
@[go_sem] theorem qt3 {d:Nat} {op:UnOp} {x:AO}:qm call ⟨σ,T⟩ (.un d op x)=qo (ev σ x) fun x=>qo (unV op x) fun z=>some ⟨(d,z)::σ,T⟩:=by
 simp only [qm,qh]
 cases ev σ x with
 |none=>rfl
 |some x=>cases x<;>first|rfl|(simp only [qo,unV,Option.map_map];rename_i v;cases (Op.unary op v).val?<;>rfl)
@[go_sem] theorem qz9 {b:Bool}:unV .not (B b)=some (B (!b)):=(rfl)
@[go_sem] theorem qz8 {n:Int}:unV .neg (I n)=some (I (w64 (0 - n))):=(rfl)
def js {α:Type} (r:Option (Option V)) (k:Option V→Option α):Option α:=
 match r with
 |some y=>k y
 |none=>none
@[congr] theorem qpx {α:Type} {r r':Option (Option V)} {k:Option V→Option α} (h:r=r'):js r k=js r' k:=by rw [h]
@[go_sem] theorem qpy {α:Type} {x:Option V} {k:Option V→Option α}:js (some x) k=k x:=(rfl)
@[go_sem] theorem qtl {x:AO}:evO σ (some x)=qo (ev σ x) fun y=>some (some y):=by
 simp only [evO];cases ev σ x<;>rfl
@[go_sem] theorem qtY {d e:Nat} {x:AO} {lo hi:Option AO}:qm call ⟨σ,T⟩ (.sl d e x lo hi)=qo (ev σ x) fun x=>js (evO σ lo) fun lo=>js (evO σ hi) fun hi=>qo (Qb T e x lo hi) fun z=>some ⟨(d,z)::σ,T⟩:=by
 simp only [qm,qh]
 cases ev σ x with
 |none=>rfl
 |some x=>cases evO σ lo with
  |none=>rfl
  |some lo=>cases evO σ hi with
   |none=>rfl
   |some hi=>simp only [qo,js];cases Qb T e x lo hi<;>rfl
def qfx(x:V) (lo hi:Option V):Option V:=
 match x with
 | .v (.string s)=>match yZ 0 lo,yZ s.size hi with
  |some l,some h=>if l≤h∧h≤s.size then some (.v (.string (s.extract l h)))else none
  |_,_=>none
 |_=>none
@[go_sem] theorem qt0 {d:Nat} {x:AO} {lo hi:Option AO}:qm call ⟨σ,T⟩ (.ssl d x lo hi)=qo (ev σ x) fun x=>js (evO σ lo) fun lo=>js (evO σ hi) fun hi=>qo (qfx x lo hi) fun z=>some ⟨(d,z)::σ,T⟩:=by
 simp only [qm,qh]
 cases ev σ x with
 |none=>rfl
 |some x=>cases evO σ lo with
  |none=>cases x<;>first|rfl|(rename_i v;cases v<;>rfl)
  |some lo=>cases evO σ hi with
   |none=>cases x<;>first|rfl|(rename_i v;cases v<;>rfl)
   |some hi=>
    simp only [qo,js,qfx]
    cases x<;>first|rfl|(rename_i v;cases v<;>first|rfl|skip)
    rename_i s
    simp only
    cases yZ 0 lo with
    |none=>rfl
    |some l=>cases yZ s.size hi with
     |none=>rfl
     |some h=>simp only;split<;>rfl
def qch(d:Nat):Option V→Option Int
 |none=>some d
 |some (.v (.int _ i))=>some i
 |_=>none
@[go_sem] theorem qpQ {d:Nat}:qch d none=some d:=(rfl)
@[go_sem] theorem qpP {d:Nat} {i:Int}:qch d (some (I i))=some i:=(rfl)
def qbo:V→Option V
 | .v (.string s)=>some (.v (.int .i64 s.size))
 |_=>none
@[go_sem] theorem qtZ {d:Nat} {x:AO}:qm call ⟨σ,T⟩ (.slen d x)=qo (ev σ x) fun x=>qo (qbo x) fun z=>some ⟨(d,z)::σ,T⟩:=by
 simp only [qm,qh]
 cases ev σ x with
 |none=>rfl
 |some x=>cases x<;>first|rfl|(rename_i v;cases v<;>rfl)
@[go_sem] theorem qzY {l:List UInt8}:qbo (S l)=some (I l.length):=by simp [qbo,S,I,ByteArray.size]
def faV(off:Nat):V→Option V
 | .p k idx o=>some (.p k idx (o+off))
 | .q τ xs idx o=>some (.q τ xs idx (o+off))
 |_=>none
@[go_sem] theorem qtp {off:Nat} {k:Key} {i o:Nat}:faV off (.p k i o)=some (.p k i (o+off)):=(rfl)
@[go_sem] theorem qtq {off:Nat} {τ:Bool} {xs:List V} {i o:Nat}:faV off (.q τ xs i o)=some (.q τ xs i (o+off)):=(rfl)
@[go_sem] theorem qtB {d off:Nat} {x:AO}:qm call ⟨σ,T⟩ (.fa d x off)=qo (ev σ x) fun x=>qo (faV off x) fun z=>some ⟨(d,z)::σ,T⟩:=by
 simp only [qm,qh]
 cases ev σ x with
 |none=>rfl
 |some x=>cases x<;>rfl
def qao(agg:Bool) (size off:Nat):V→Option V
 | .a cs=>qT agg size (.a cs) off
 |_=>none
@[go_sem] theorem qtr {agg:Bool} {size off:Nat} {cs:List V}:qao agg size off (.a cs)=qT agg size (.a cs) off:=(rfl)
@[go_sem] theorem qtC {d size off:Nat} {agg:Bool} {x:AO}:qm call ⟨σ,T⟩ (.fld d agg size x off)=qo (ev σ x) fun x=>qo (qao agg size off x) fun z=>some ⟨(d,z)::σ,T⟩:=by
 simp only [qm,qh]
 cases ev σ x with
 |none=>rfl
 |some x=>cases x<;>first|rfl|(simp only [qo,qao];rename_i cs;cases qT agg size (.a cs) off<;>rfl)
def iaV(T:Mem) (e:Nat) (x i:V):Option V:=
 match i with
 | .v (.int _ i)=>yb T e x i
 |_=>none
@[go_sem] theorem qua {e:Nat} {x:V} {i:Int}:iaV T e x (I i)=yb T e x i:=(rfl)
@[go_sem] theorem qtG {d e:Nat} {x i:AO}:qm call ⟨σ,T⟩ (.ia d e x i)=qo (ev σ x) fun x=>qo (ev σ i) fun i=>qo (iaV T e x i) fun z=>some ⟨(d,z)::σ,T⟩:=by
 simp only [qm,qh]
 cases ev σ x with
 |none=>rfl
 |some x=>cases ev σ i with
  |none=>rfl
  |some i=>cases i<;>first|rfl|(rename_i v;cases v<;>first|rfl|(simp only [qo,iaV];rename_i j;cases yb T e x j<;>rfl))
def ixV:V→V→Option V
 | .v (.string s),.v (.int _ i)=>(zI i s.size).map fun j=>Kj (s.data[j]?.getD 0)
 |_,_=>none
@[go_sem] theorem qtI {d:Nat} {x i:AO}:qm call ⟨σ,T⟩ (.ix d x i)=qo (ev σ x) fun x=>qo (ev σ i) fun i=>qo (ixV x i) fun z=>some ⟨(d,z)::σ,T⟩:=by
 simp only [qm,qh]
 cases ev σ x with
 |none=>rfl
 |some x=>cases ev σ i with
  |none=>cases x<;>first|rfl|(rename_i v;cases v<;>rfl)
  |some i=>
   cases x<;>first|rfl|(rename_i v;cases v<;>first|rfl|skip)
   rename_i s
   cases i<;>first|rfl|(rename_i v;cases v<;>first|rfl|(simp only [qo,ixV];rename_i j;cases zI j s.size<;>rfl))
theorem qdv {l:List UInt8} {i:Int} {c:UInt8} (h0:0≤i) (h:l[i.toNat]? =some c):ixV (S l) (I i)=some (U8 c.toNat):=by
 have hl:i.toNat < l.length:=(List.getElem?_eq_some_iff.1 h).1
 have hs:(ByteArray.mk l.toArray).size=l.length:=by simp [ByteArray.size]
 simp only [ixV,S,I,hs,zI]
 rw [if_pos ⟨h0,by omega⟩]
 simp [h,Kj,U8]
def qal(i:Nat):V→Option V
 | .t vs=>vs[i]?
 |_=>none
@[go_sem] theorem qto {i:Nat} {vs:List V}:qal i (.t vs)=vs[i]? :=(rfl)
@[go_sem] theorem qtA {d i:Nat} {x:AO}:qm call ⟨σ,T⟩ (.ext d x i)=qo (ev σ x) fun x=>qo (qal i x) fun z=>some ⟨(d,z)::σ,T⟩:=by
 simp only [qm,qh]
 cases ev σ x with
 |none=>rfl
 |some x=>cases x<;>first|rfl|(simp only [qo,qal];rename_i vs;cases vs[i]? <;>rfl)
@[go_sem] theorem qtD {d:Nat} {fn:Fn} {first caps:List AO}:qm call ⟨σ,T⟩ (.fun d fn first caps)=zQ (evL σ first) fun a=>zQ (evL σ caps) fun b=>some ⟨(d,.f fn a b)::σ,T⟩:=by
 simp only [qm,qh]
 cases evL σ first with
 |none=>rfl
 |some a=>cases evL σ caps<;>rfl
def Xm(x:V):Option V:=(jy x).map fun n=>I n
@[go_sem] theorem qu1 {k:Key} {lo len:Nat}:Xm (.s k lo len)=some (I len):=(rfl)
@[go_sem] theorem quZ {τ:Bool} {xs:List V}:Xm (.i τ xs)=some (I xs.length):=(rfl)
@[go_sem] theorem qu0 {e:Nat}:Xm (.n e)=some (I 0):=(rfl)
@[go_sem] theorem qtL {d:Nat} {x:AO}:qm call ⟨σ,T⟩ (.len d x)=qo (ev σ x) fun x=>qo (Xm x) fun z=>some ⟨(d,z)::σ,T⟩:=by
 simp only [qm,qh]
 cases ev σ x with
 |none=>rfl
 |some x=>simp only [qo,Xm];cases jy x<;>rfl
def mxV(max:Bool):List V→Option V
 |[.v (.int k a),.v (.int _ b)]=>some (.v (.int k (if max then (if b > a then b else a)else (if b < a then b else a))))
 |_=>none
@[go_sem] theorem qtU {d:Nat} {max:Bool} {args:List AO}:qm call ⟨σ,T⟩ (.mx d max args)=zQ (evL σ args) fun xs=>qo (mxV max xs) fun z=>some ⟨(d,z)::σ,T⟩:=by
 simp only [qm,qh]
 cases evL σ args with
 |none=>rfl
 |some xs=>
  rcases xs with _|⟨x,_|⟨y,_|⟨z,r⟩⟩⟩
  ·rfl
  ·cases x<;>first|rfl|(rename_i v;cases v<;>rfl)
  ·cases x<;>first|rfl|(rename_i v;cases v<;>first|rfl|(cases y<;>first|rfl|(rename_i v;cases v<;>rfl)))
  ·cases x<;>first|rfl|(rename_i v;cases v<;>first|rfl|(cases y<;>first|rfl|(rename_i v;cases v<;>rfl)))
@[go_sem] theorem qvF {a b:Int}:mxV true [I a,I b]=some (I (if b > a then b else a)):=(rfl)
@[go_sem] theorem qvG {a b:Int}:mxV false [I a,I b]=some (I (if b < a then b else a)):=(rfl)
def qay(k:IntKind):V→Option V
 | .v (.int _ n)=>some (.v (.int k (k.wrap n)))
 |_=>none
@[go_sem] theorem qtH {d:Nat} {k:IntKind} {x:AO}:qm call ⟨σ,T⟩ (.int d k x)=qo (ev σ x) fun x=>qo (qay k x) fun z=>some ⟨(d,z)::σ,T⟩:=by
 simp only [qm,qh]
 cases ev σ x with
 |none=>rfl
 |some x=>cases x<;>first|rfl|(rename_i v;cases v<;>rfl)
@[go_sem] theorem que {n:Int}:qay .i64 (U8 n)=some (I (w64 n)):=(rfl)
@[go_sem] theorem qud {n:Int}:qay .u8 (I n)=some (U8 (IntKind.u8.wrap n)):=(rfl)
def qbx(xs:Option (List V)):Option V:=
 match xs with
 |some xs=>(xD xs).map fun l=>S l
 |none=>none
@[go_sem] theorem qt2 {d:Nat} {x:AO}:qm call ⟨σ,T⟩ (.str d x)=qo (ev σ x) fun x=>qo (qbx (xV T 1 x)) fun z=>some ⟨(d,z)::σ,T⟩:=by
 simp only [qm,qh]
 cases ev σ x with
 |none=>rfl
 |some x=>
  simp only [qo]
  cases xV T 1 x with
  |none=>rfl
  |some xs=>simp only [qbx];cases xD xs<;>rfl
@[go_sem] theorem qz3 {xs:List V}:qbx (some xs)=(xD xs).map fun l=>S l:=(rfl)
def Qy {α:Type} (f:V) (k:Nat→List V→List V→Option α):Option α:=
 match f with
 | .f (.func g) first caps=>k g first caps
 |_=>none
@[congr] theorem qqf {α:Type} {f f':V} {k:Nat→List V→List V→Option α} (h:f=f'):Qy f k=Qy f' k:=by rw [h]
@[go_sem] theorem qqe {α:Type} {g:Nat} {k:Nat→List V→List V→Option α}:Qy (Fc g) k=k g [] []:=(rfl)
@[go_sem] theorem qqg {α:Type} {g:Nat} {a b:List V} {k:Nat→List V→List V→Option α}:Qy (.f (.func g) a b) k=k g a b:=(rfl)
@[go_sem] theorem qty {d:Option Nat} {f:AO} {args:List AO} {fz:Bool}:qm (cw prog) ⟨σ,T⟩ (.call d f args (.ro fz))=qo (ev σ f) fun fv=>zQ (evL σ args) fun xs=>
 Qy fv fun g first caps=>qo (cr prog g (xr T (first++xs++caps))) fun r=>xm (qP r) (some (xi d (fzV fz r) ⟨σ,T⟩)):=by
 simp only [qm,qh]
 cases ev σ f with
 |none=>rfl
 |some fv=>
  cases evL σ args with
  |none=>simp only [qo,zQ];cases callee fv<;>rfl
  |some xs=>
   simp only [qo,zQ]
   cases fv with
   |f fn first caps=>
    cases fn<;>first|rfl|skip
    simp only [callee,Qy,xk]
    unfold cr
    rename_i g
    cases cw prog g (xr T (first++xs++caps))with
    |none=>rfl
    |some r=>obtain ⟨r,o⟩:=r;rfl
   |_=>rfl
def ioK {α:Type} (r:Option (V × List V)) (k:V→List V→Option α):Option α:=
 match r with
 |some (r,outs)=>k r outs
 |none=>none
@[congr] theorem qug {α:Type} {r r':Option (V × List V)} {k:V→List V→Option α} (h:r=r'):ioK r k=ioK r' k:=by rw [h]
@[go_sem] theorem quh {α:Type} {r:V} {outs:List V} {k:V→List V→Option α}:ioK (some (r,outs)) k=k r outs:=(rfl)
@[go_sem] theorem qtx {d:Option Nat} {f:AO} {args:List AO} {fz:Bool}:qm (cw prog) ⟨σ,T⟩ (.call d f args (.io fz))=qo (ev σ f) fun fv=>zQ (evL σ args) fun xs=>
 Qy fv fun g first caps=>ioK (cw prog g (qx (qq 30) T (first++xs++caps)).1) fun r outs=>some (xi d (fzV fz r) ⟨σ,jq T (first++xs++caps) outs++(qx (qq 30) T (first++xs++caps)).2⟩):=by
 simp only [qm,qh]
 cases ev σ f with
 |none=>rfl
 |some fv=>
  cases evL σ args with
  |none=>simp only [qo,zQ];cases callee fv<;>rfl
  |some xs=>
   simp only [qo,zQ]
   cases fv with
   |f fn first caps=>
    cases fn<;>first|rfl|skip
   |_=>rfl
def bkO(k:Key) (lo e:Nat) (xs:List V) (ob:Option Ob):Mem:=
 match ob with
 |some ob=>if lo=0∧ob.1=e then [(k,e,xs)]else []
 |none=>[]
section
variable {k:Key} {lo len e i o:Nat} {xs ys zs:List V} {x y:V} {τ:Bool} {n:Int} {b:Bool} {l:List UInt8} {fn fn':Fn} {cs ds:List V}
@[go_sem] theorem qoQ:yw T (.s k lo len) (.o e xs)=bkO k lo e xs (qp T k):=by simp only [yw,bkO];cases qp T k<;>rfl
@[go_sem] theorem qpL {e':Nat} {zs:List V}:bkO k lo e xs (some (e',zs))=if lo=0∧e'=e then [(k,e,xs)]else []:=(rfl)
@[go_sem] theorem qoP:yw T (.s k lo len) .d=[]:=(rfl)
@[go_sem] theorem qoL:yw T (.i τ xs) y=[]:=(rfl)
@[go_sem] theorem qoJ:yw T (I n) y=[]:=(rfl)
@[go_sem] theorem qoK:yw T (S l) y=[]:=(rfl)
@[go_sem] theorem qoI:yw T (B b) y=[]:=(rfl)
@[go_sem] theorem qoM:yw T (.n e) y=[]:=(rfl)
@[go_sem] theorem qoO:yw T (.q τ xs i o) y=[]:=(rfl)
@[go_sem] theorem qoU:kr T (.a cs) (.a ds)=kO T cs ds:=(rfl)
@[go_sem] theorem qoY:kr T (.s k lo len) y=yw T (.s k lo len) y:=(rfl)
@[go_sem] theorem qoV:kr T (.i τ xs) y=[]:=(rfl)
@[go_sem] theorem qoS:kr T (I n) y=[]:=(rfl)
@[go_sem] theorem qoT:kr T (S l) y=[]:=(rfl)
@[go_sem] theorem qoR:kr T (B b) y=[]:=(rfl)
@[go_sem] theorem qoW:kr T (.n e) y=[]:=(rfl)
@[go_sem] theorem qoX:kr T (.p k i o) y=yw T (.p k i o) y:=(rfl)
end
theorem qgf {d:Nat} {x:V}:jW d x ⟨σ,T⟩=zw (qZ x) ⟨(d,x)::σ,T⟩ ⟨(d,(zK d x).1)::yM d σ,(zK d x).2++wT d T⟩:=by
 unfold jW zw
 cases h:qZ x<;>simp [qbD,St.put]
end
end Go.Vm
