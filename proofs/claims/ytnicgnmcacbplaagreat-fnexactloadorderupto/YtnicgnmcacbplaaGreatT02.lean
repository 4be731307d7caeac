import Derived.Test.YtnicgnmcacbplaaGreatT01
import Derived.Attr
set_option autoImplicit false
set_option linter.unusedSectionVars false
set_option linter.unusedVariables false
set_option linter.unusedSimpArgs false
namespace Go.Vm
variable [Lay]
def qfz:AI→Bool
 | .mv .. | .pick .. | .build .. | .ldq .. | .nilc .. | .bin .. | .eqs .. | .un .. | .sl .. | .ssl .. | .slen .. | .fa .. | .fld .. | .ia .. | .ix .. | .ext .. | .fun .. | .len .. | .mx .. | .int .. | .str .. | .mget .. =>true
 |_=>false
def roI:AI→Bool
 | .call _ _ _ (.ro _)=>true
 |_=>false
def qb7:AI→AI
 | .gd _ _ _ i=>i
 |i=>i
section
variable {P:Program} {N n:Nat} {ops:Array Oper} {o:Oper} {E:Env} {c:Cnt} {st st':St} {a:Act} {call:Call} {ai h:AI}
theorem quM(hq:qfz h=true) (ht:yN P N o h=some ai) (hs:qi call st ai=some st') (hf:FRel N E st a.tmps c):
 qM N E st st' o.dst ((execOp a.eval o).run P E.w):=by
 cases h<;>simp only [qfz]at hq<;>(first|(cases hq;done)|skip)<;>simp only [yN]at ht<;>(split at ht)<;>(first|(cases ht;done)|skip)<;>rename_i hd
 case mv.isTrue=>exact qks hd ht hs hf
 case pick.isTrue=>exact qkv hd ht hs hf
 case build.isTrue=>exact qkg hd ht hs hf
 case ldq.isTrue=>exact qkp hd ht hs hf
 case nilc.isTrue=>exact qku hd ht hs hf
 case bin.isTrue=>exact qkf hd ht hs hf
 case eqs.isTrue=>exact qkh hd ht hs hf
 case un.isTrue=>exact qkA hd ht hs hf
 case sl.isTrue=>exact qkw hd ht hs hf
 case ssl.isTrue=>exact qky hd ht hs hf
 case slen.isTrue=>exact qkx hd ht hs hf
 case fa.isTrue=>exact qkj hd ht hs hf
 case fld.isTrue=>exact qkk hd ht hs hf
 case ia.isTrue=>exact qkm hd ht hs hf
 case ix.isTrue=>exact qko hd ht hs hf
 case ext.isTrue=>exact qki hd ht hs hf
 case fun.isTrue=>exact qkl hd ht hs hf
 case len.isTrue=>exact qkq hd ht hs hf
 case mx.isTrue=>exact qkt hd ht hs hf
 case int.isTrue=>exact qkn hd ht hs hf
 case str.isTrue=>exact qkz hd ht hs hf
 case mget.isTrue=>exact qkr hd ht hs hf
theorem qmD {Q:Exit→Act→World→Prop} {K:Act→World→Prop} (h:qM N E st st' o.dst ((execOp a.eval o).run P E.w))
 (hK: ∀ d x y,o.dst=some d→d < N→st'=st.put d x→Rel E x y c0→K (a.put o.dst y) E.w):o.wp P a E.w K Q:=by
 obtain ⟨d,x,y,hd,hn,hr,hs,hx⟩:=h
 unfold Oper.wp
 rw [hr]
 exact hK d x y hd hn hs hx
theorem qlL(ht:yN P N o h=some ai):qy ai=o.dst:=by
 cases h<;>simp only [yN]at ht<;>(first|(cases ht;done)|skip)<;>(split at ht)<;>(first|(cases ht;done)|skip)<;>rename_i hd
 case st.isTrue=>
  have hd':o.dst=none:=by simpa using hd
  unfold K8 at ht
  (repeat' (split at ht))<;>simp_all [qy]
  subst ht;simp [qy]
 case mset.isTrue=>
  have hd':o.dst=none:=by simpa using hd
  unfold KZ at ht
  (repeat' (split at ht))<;>simp_all [qy]<;>(subst ht;simp [qy])
 case mes.isTrue=>
  have hd':o.dst=none:=by simpa using hd
  unfold KU at ht
  (repeat' (split at ht))<;>simp_all [qy]
  subst ht;simp [qy]
 case call.isTrue=>
  simp only [QT,Bool.and_eq_true,decide_eq_true_eq]at hd
  unfold YX at ht
  split at ht
  case h_2=>cases ht
  split at ht
  case h_2=>cases ht
  obtain ⟨x,y,-,-,rfl⟩:=Qm ht
  simp only [qy];exact hd.1.symm
 all_goals
  rw [(zt hd).1]
  simp only [Qs,K4,K1,KF,KY,KW,KQ,KR,K2,KE,KG,Ja,K5,K7,K6,KI,KJ,KM,KP,KH,KK,KD,KS,K0,KO,K9,KX,KV,KT,km]at ht
  (repeat' (split at ht))<;>(first|(cases ht;done)|skip)<;>simp only [Option.map_eq_some_iff,Option.some.injEq]at ht<;>
   (first|(subst ht;rfl)|(obtain ⟨x,-,rfl⟩:=ht;rfl))
theorem quN(ht:trI P N n ops o h=some ai) (hs:qm call st ai=some st') (hf:FRel N E st a.tmps c):
 qy ai=o.dst∧((Region.wanted o (yielded ops a.tmps)=false∧(o.dst=none→st'=st)∧(∀ d,o.dst=some d→d < N∧st'=st.put d yo))∨
 (Region.wanted o (yielded ops a.tmps)=true∧ ∃ ai1,yN P N o (qb7 h)=some ai1∧qi call st ai1=some st')):=by
 have hwant:o.guard.isNone=true→Region.wanted o (yielded ops a.tmps)=true:=by
  intro hg
  unfold Region.wanted
  split
  ·rfl
  ·rename_i he;rw [he]at hg;cases hg
 have hplain: ∀ i,o.guard.isNone=true→yN P N o i=some ai→Region.wanted o (yielded ops a.tmps)=true∧ ∃ ai1,yN P N o i=some ai1∧qi call st ai1=some st':=by
  intro i hg hi
  refine ⟨hwant hg,ai,hi, ?_⟩
  have hng: ∀ j w d i',ai ≠ .gd j w d i':=by
   rintro j w d i' rfl
   cases i<;>simp only [yN]at hi<;>(first|(cases hi;done)|skip)<;>(split at hi)<;>(first|(cases hi;done)|skip)<;>
    simp only [Qs,K4,K1,KF,KY,KW,KQ,KR,K2,KE,KG,Ja,K5,K7,K6,KI,KJ,KM,KP,KH,KK,KD,KS,K0,KO,K9,K8,YX,KX,KZ,KV,KT,KU,km]at hi<;>
    (repeat' (split at hi))<;>simp_all
  rw [qhY call ai hng]at hs
  exact hs
 unfold trI at ht
 split at ht
 ·rename_i j want d i
  split at ht
  case h_2=>cases ht
  rename_i k w hg
  split at ht
  case isFalse=>cases ht
  rename_i hc
  simp only [Bool.and_eq_true,decide_eq_true_eq]at hc
  obtain ⟨⟨⟨rfl,hdn⟩,hdst⟩,hj⟩:=hc
  rw [Option.map_eq_some_iff]at ht
  obtain ⟨i',hi',rfl⟩:=ht
  simp only [QT,Bool.and_eq_true,decide_eq_true_eq]at hdst
  obtain ⟨hod,hdN⟩:=hdst
  refine ⟨by simp only [qy];exact hod.symm, ?_⟩
  simp only [qm]at hs
  have hno:(d=none→st'=st)→(∀ t,d=some t→st'=st.put t yo)→(o.dst=none→st'=st)∧(∀ d,o.dst=some d→d < N∧st'=st.put d yo):=by
   intro h1 h2
   rw [hod]
   refine ⟨h1,fun t e=>⟨?_,h2 t e⟩⟩
   subst e;simpa using hdN
  split at hs
  ·rename_i b hb
   obtain ⟨v,hv,hr⟩:=hf.σ _ _ hb
   simp only [Rel]at hr
   have hy:yielded ops a.tmps k=some b:=by simp only [yielded,hj,Option.bind_some,hv,hr.1]
   by_cases hbw:b=w
   ·subst hbw
    rw [if_pos rfl]at hs
    exact .inr ⟨by simp only [Region.wanted,hg,hy,beq_self_eq_true],i',hi',hs⟩
   ·rw [if_neg hbw]at hs
    refine .inl ⟨by simp only [Region.wanted,hg,hy];simp [hbw], ?_⟩
    exact hno (fun e=>by subst e;simpa using hs.symm) (fun t e=>by subst e;simpa using hs.symm)
  ·rename_i x hnb hx
   obtain ⟨v,hv,hr⟩:=hf.σ _ _ hx
   simp only [Rel]at hr
   have hy:yielded ops a.tmps k=none:=by
    simp only [yielded,hj,Option.bind_some,hv,hr.1]
    cases x<;>first|rfl|exact absurd rfl (hnb _)
   refine .inl ⟨by simp only [Region.wanted,hg,hy];rfl, ?_⟩
   exact hno (fun e=>by subst e;simpa using hs.symm) (fun t e=>by subst e;simpa using hs.symm)
  ·cases hs
 ·rename_i d h'
  split at ht
  case isFalse=>cases ht
  rename_i hc
  simp only [Bool.and_eq_true]at hc
  have hi:yN P N o (.mv d h')=some ai:=by simp only [yN,hc.2,if_true];exact ht
  exact ⟨qlL hi,.inr (hplain _ hc.1 hi)⟩
 ·rename_i i hn1 hn2
  split at ht
  case isFalse=>cases ht
  rename_i hc
  simp only [Bool.and_eq_true]at hc
  have hb:qb7 h=h:=by cases h<;>first|rfl|exact absurd rfl (hn1 _ _ _ _)
  rw [hb]
  exact ⟨qlL ht,.inr (hplain _ hc.1 ht)⟩
end
end Go.Vm
namespace Go.Vm
variable [Lay]
section
variable {E:Env}
theorem YW(f:Key→Bool): ∀ {T:Mem} {c:Cnt},qo E T c→ ∃ c',qo E (qL f T) c'∧cle c' c
 |[],c,h=>⟨c,h,qS _⟩
 |(k,ob)::r,c,h=>by
  obtain ⟨c1,c2,h1,h2,rfl⟩:=h
  obtain ⟨c3,h3,h4⟩:=YW f h2
  simp only [qL]
  split
  ·exact ⟨qh c1 c3,⟨c1,c3,h1,h3,rfl⟩,x7 (qS _) h4⟩
  ·exact ⟨c3,h3,y0 h4 (xh _ _)⟩
theorem qeH: ∀ {T:Mem} {k k':Key},k' ≠ k→qu (qB T k) k'=qu T k'
 |[],k,k',h=>rfl
 |(u,x)::r,k,k',h=>by
  simp only [qB]
  split
  ·rename_i e;subst e
   simp only [qu];rw [if_neg (Ne.symm h)]
  ·simp only [qu,qeH h]
theorem qaA(f g:Key→Bool): ∀ T:Mem,qL f (qL g T)=qL (fun u=>g u&&f u) T
 |[]=>rfl
 |(k,x)::r=>by
  by_cases hg:g k=true
  ·by_cases hf:f k=true
   ·simp [qL,hg,hf,qaA f g r]
   ·simp [qL,hg,hf,qaA f g r]
  ·simp [qL,hg,qaA f g r]
theorem qhU {f:Key→Bool} {k:Key} (h:f k=false): ∀ {T:Mem},qL f (qB T k)=qL f T
 |[]=>rfl
 |(u,x)::r=>by
  simp only [qB]
  split
  ·rename_i e;subst e
   simp only [qL,h,Bool.false_eq_true,if_false]
  ·simp only [qL,qhU h]
theorem qgn: ∀ (ks:List Key) {L:Mem} {c:Cnt},ks.Nodup→qo E L c→
 ∃ c1 c2,qo E (zR (qu L) ks) c1∧qo E (qL (fun k=> !ks.contains k) L) c2∧cle (qh c1 c2) c
 |[],L,c,hn,h=>by
  obtain ⟨c2,h2,h3⟩:=YW (fun k=> !([]:List Key).contains k) h
  exact ⟨c0,c2,rfl,h2,by rw [zc];exact h3⟩
 |k::ks,L,c,hn,h=>by
  obtain ⟨hk,hn⟩:=List.nodup_cons.1 hn
  cases hg:qu L k with
  |none=>
   obtain ⟨c1,c2,h1,h2,h3⟩:=qgn ks hn h
   refine ⟨c1,c2,by simp only [zR,hg];exact h1, ?_,h3⟩
   have:qL (fun u=> !(k::ks).contains u) L=qL (fun u=> !ks.contains u) L:=by
    clear h h1 h2
    induction L with
    |nil=>rfl
    |cons x r ih=>
     obtain ⟨u,y⟩:=x
     simp only [qu]at hg
     split at hg
     ·cases hg
     ·rename_i hu
      simp only [qL,ih hg]
      have:(k::ks).contains u=ks.contains u:=by
       simp only [List.contains_cons]
       have:(u==k)=false:=by simpa using hu
       rw [this,Bool.false_or]
      rw [this]
   rw [this];exact h2
  |some ob=>
   obtain ⟨d1,d2,ho,hr,rfl⟩:=yn h hg
   obtain ⟨c1,c2,h1,h2,h3⟩:=qgn ks hn hr
   obtain ⟨c3,h4,h5⟩:=YW (fun u=>u != k) h2
   refine ⟨qh d1 c1,c3, ?_, ?_,fun b=>by have:=h3 b;have:=h5 b;simp only [qh]at*;omega⟩
   ·simp only [zR,hg]
    refine ⟨d1,c1,ho, ?_,rfl⟩
    rw [qaX (g:=qu (qB L k)) (fun u hu=>(qeH (by rintro rfl;exact hk hu)).symm)]
    exact h1
   ·have:qL (fun u=> !(k::ks).contains u) L=qL (fun u=>u != k) (qL (fun u=> !ks.contains u) (qB L k)):=by
     rw [qaA,qhU (by simp)]
     congr 1
     funext u
     simp only [List.contains_cons,Bool.not_or,bne]
     exact Bool.and_comm _ _
    rw [this];exact h4
theorem qlI: ∀ {T:Mem} {L:Mem} {c:Cnt},ZH T=true→qo E L c→(∀ k x,qu T k=some x→qu L k=some x)→ ∃ c',qo E T c'∧cle c' c
 |[],L,c,hn,h,hs=>⟨c0,rfl,fun _=>Nat.zero_le _⟩
 |(k,ob)::r,L,c,hn,h,hs=>by
  simp only [ZH,Bool.and_eq_true,Option.isNone_iff_eq_none]at hn
  have hg:qu L k=some ob:=hs k ob (by simp [qu])
  obtain ⟨d1,d2,ho,hr,rfl⟩:=yn h hg
  obtain ⟨c',h1,h2⟩:=qlI (T:=r) hn.2 hr (fun u x hu=>by
   have hne:u ≠ k:=by rintro rfl;rw [hn.1]at hu;cases hu
   rw [qeH hne]
   exact hs u x (by simp only [qu];rw [if_neg (Ne.symm hne)];exact hu))
  exact ⟨qh d1 c',⟨d1,c',ho,h1,rfl⟩,x7 (qS _) h2⟩
end
end Go.Vm
namespace Go.Vm
variable [Lay]
def kb(plan:List Dp) (is:List AI) (listed:Array Bool) (d:Nat):Prop:=
 ∃ (i:Nat) (p:Dp) (ai:AI),listed.getD i true=false∧plan[i]? =some p∧is[i]? =some ai∧p.k ≠ 0∧qy ai=some d
structure InvD (N n:Nat) (E0:Env) (k0:Cnt) (a0:Act) (fr:Nat→Prop) (s:FS) (a:Act) (E:Env) (c:Cnt):Prop where
 sz:a.tmps.size=N
 df:a.defers=a0.defers
 σ: ∀ t x,s.1 t=some x→ ∃ y,a.tmps[t]? =some y∧Rel E x y c0
 T: ∃ L,(∀ k,qu L k=s.2 k)∧qo E L c
 g:Good E c
 kn:KN n E0 E
 adv:Adv E0 k0 E c
 fr: ∀ d,fr d→ ∀ j,E.μ (d,j)=none
section
variable {N n:Nat} {E0 E E':Env} {k0 c cA cB:Cnt} {a0 a:Act} {fr fr':Nat→Prop} {s:FS} {dst:Option Nat} {σ':Sl} {T' L:Mem} {y:Value} {p:Dp}
theorem InvD.next(h:InvD N n E0 k0 a0 fr s a E c) (hL: ∀ k,qu L k=s.2 k) (hd: ∀ t,dst=some t→t < N) (hm:Mono E E' c0) (hσ: ∀ d x,dst=some d→qC σ' d=some x→Rel E' x y c0)
 (hA:qo E' (qL (p.own dst) T') cA) (hB:qo E' (qL (fun k=> !p.own dst k) L) cB) (hg:Good E' (qh cA cB)) (hadv:Adv E c E' (qh cA cB)) (hkn:KN n E E')
 (hfr: ∀ d,fr' d→ ∀ j,E'.μ (d,j)=none):InvD N n E0 k0 a0 fr' (yT dst σ' s.1,yV p dst T' s.2) (a.put dst y) E' (qh cA cB):=by
 refine ⟨by cases dst<;>simp [Act.put,h.sz],(ZK _ _ _).trans h.df,fun t x hx=> ?_,⟨qL (p.own dst) T'++qL (fun k=> !p.own dst k) L,fun k=> ?_,xD hA hB⟩,hg,h.kn.trans hkn,h.adv.trans hadv,hfr⟩
 ·simp only [yT]at hx
  split at hx
  ·rename_i e
   subst e
   have ht:=hd t rfl
   refine ⟨y, ?_,hσ t x rfl hx⟩
   simp [Act.put,h.sz,ht]
  ·rename_i e
   obtain ⟨v,h1,h2⟩:=h.σ t x hx
   refine ⟨v, ?_,yF h2 hm⟩
   cases dst with
   |none=>exact h1
   |some d=>
    have:d ≠ t:=by rintro rfl;exact e rfl
    simp only [Act.put]
    rw [Array.getElem?_setIfInBounds_ne this];exact h1
 ·rw [qeG,X6,X6]
  simp only [yV,hL]
  cases p.own dst k<;>simp
theorem qeJ {f:Nat→Option V}: ∀ {us:List Nat} {t:Nat} {x:V},qC (yR f us) t=some x→f t=some x
 |[],t,x,h=>by cases h
 |u::us,t,x,h=>by
  simp only [yR]at h
  split at h
  ·rename_i z hz
   simp only [qC]at h
   split at h
   ·rename_i e;subst e;rw [hz];exact h
   ·exact qeJ h
  ·exact qeJ h
theorem InvD.sub(h:InvD N n E0 k0 a0 fr s a E c) (hL: ∀ k,qu L k=s.2 k) (hT:qo E L c) (us:List Nat) {ks:List Key} (hn:ks.Nodup):
 ∃ cK cR,FRel N E {σ:=yR s.1 us,T:=zR s.2 ks} a.tmps cK∧qo E (qL (fun k=> !ks.contains k) L) cR∧cle (qh cK cR) c:=by
 obtain ⟨c1,c2,h1,h2,h3⟩:=qgn ks hn hT
 have he:zR s.2 ks=zR (qu L) ks:=qaX fun k _=>(hL k).symm
 refine ⟨c1,c2,⟨h.sz,fun t x hx=>h.σ t x (qeJ hx),by rw [he];exact h1,h.g.le (y0 (ZB _ _) h3)⟩,h2,h3⟩
theorem InvD.quiet(h:InvD N n E0 k0 a0 fr s a E c) {d:Nat} {x:V} {st0:St} (hp:p.k=0) (hd:d < N) (hx:Rel E x y c0) (hfr: ∀ d,fr' d→fr d):
 InvD N n E0 k0 a0 fr' (yT (some d) (st0.put d x).σ s.1,yV p (some d) (st0.put d x).T s.2) (a.put (some d) y) E c:=by
 obtain ⟨L,hL,hT⟩:=h.T
 have hown: ∀ k,p.own (some d) k=false:=fun k=>qfm hp k
 have hf1: ∀ T:Mem,qL (p.own (some d)) T=[]:=by
  intro T;induction T with
  |nil=>rfl
  |cons z r ih=>obtain ⟨u,v⟩:=z;simp only [qL,hown,Bool.false_eq_true,if_false,ih]
 have hf2: ∀ T:Mem,qL (fun k=> !p.own (some d) k) T=T:=by
  intro T
  have e:(fun k=> !p.own (some d) k)=fun _=>true:=funext fun k=>by rw [hown k];rfl
  rw [e]
  induction T with
  |nil=>rfl
  |cons z r ih=>obtain ⟨u,v⟩:=z;simp only [qL,if_true,ih]
 have:=InvD.next (fr':=fr') (E':=E) (cA:=c0) (cB:=c) (dst:=some d) (σ':=(st0.put d x).σ) (T':=(st0.put d x).T) (y:=y) (p:=p) h hL (fun t ht=>by cases ht;exact hd) (qqE E c0)
  (fun d' x' hd' hx'=>by cases hd';simp only [St.put,qC,if_pos,Option.some.injEq]at hx';subst hx';exact hx) (by rw [hf1];rfl) (by rw [hf2];exact hT) (by rw [zc];exact h.g) (by rw [zc];exact Adv.refl _ _) KN.refl
  (fun d' hd'=>h.fr d' (hfr d' hd'))
 rw [zc]at this;exact this
end
end Go.Vm
namespace Go.Vm
variable [Lay]
section
variable {P:Program} {N n:Nat} {E0 E E':Env} {k0 c cK cR c':Cnt} {a0 a:Act} {fr fr':Nat→Prop} {s:FS} {dst:Option Nat} {st':St} {L:Mem} {y:Value} {p:Dp} {call:Call}
theorem qqG(h:InvD N n E0 k0 a0 fr s a E c) (hkp:yI dst E E') (hdf: ∀ d,dst=some d→fr d): ∀ k l,E.μ k=some l→E'.μ k=some l:=by
 intro k l hk
 by_cases hd:dst=some k.1
 ·have:=h.fr k.1 (hdf _ hd) k.2
  rw [hk]at this;cases this
 ·rw [hkp k hd];exact hk
theorem InvD.write(h:InvD N n E0 k0 a0 fr s a E c) (hL: ∀ k,qu L k=s.2 k) (hcR:qo E (qL (fun k=> !p.ks.contains k) L) cR) (hle:cle (qh cK cR) c)
 (hp:p.k=1) (hd: ∀ t,dst=some t→t < N) (hdf: ∀ d,dst=some d→fr d) (hfr: ∀ d,fr' d→fr d∧dst ≠ some d)
 (hF:FRel N E' st' (a.put dst y).tmps c') (hkn:KN n E E') (hkp:yI dst E E') (hA:Adv E cK E' c'):
 ∃ c'',InvD N n E0 k0 a0 fr' (yT dst st'.σ s.1,yV p dst st'.T s.2) (a.put dst y) E' c'':=by
 have hμ:=qqG h hkp hdf
 have hg:Good E (qh cK cR):=h.g.le hle
 have hmono:=qaN hg hA hμ
 have hgood:=qeK hg hA hF.g
 obtain ⟨cA,h1,h2⟩:=YW (p.own dst) hF.T
 have he:qL (fun k=> !p.own dst k) L=qL (fun k=> !p.own dst k) (qL (fun k=> !p.ks.contains k) L):=by
  rw [qaA]
  congr 1
  funext u
  cases hc:p.ks.contains u with
  |false=>simp
  |true=>
   have:p.own dst u=true:=by unfold Dp.own;rw [hp,hc];rfl
   rw [this];rfl
 obtain ⟨cB,h3,h4⟩:=YW (fun k=> !p.own dst k) (z4 hcR hmono)
 rw [← he]at h3
 have hle2:cle (qh cA cB) (qh c' cR):=x7 h2 h4
 refine ⟨qh cA cB,InvD.next h hL hd (hmono.le fun _=>Nat.zero_le _) ?_ h1 h3 (hgood.le hle2) ((XW (qee cR hA) hle).le hle2) hkn ?_⟩
 ·intro d x hdd hx
  obtain ⟨v,hv,hr⟩:=hF.σ d x hx
  subst hdd
  have hdN:=hd d rfl
  have:(a.put (some d) y).tmps[d]? =some y:=by simp [Act.put,h.sz,hdN]
  rw [this]at hv;cases hv
  exact hr
 ·intro d hd' j
  obtain ⟨h5,h6⟩:=hfr d hd'
  rw [hkp (d,j) h6]
  exact h.fr d h5 j
theorem quU {d:Nat} {st:St}:qL (fun k=>decide (k.1=d)) (zg d st).T=[]:=by
 have: ∀ T:Mem,(∀ k ob,(k,ob) ∈ T→k.1 ≠ d)→qL (fun k=>decide (k.1=d)) (Qi d T)=[]:=by
  intro T hT
  induction T with
  |nil=>rfl
  |cons z r ih=>
   obtain ⟨k,e,xs⟩:=z
   have hk:=hT k _ (List.mem_cons_self)
   simp only [Qi,qL]
   rw [if_neg (by simpa using hk)]
   exact ih fun k ob h=>hT k ob (List.mem_cons_of_mem _ h)
 exact this _ fun k ob hk=>qaw d hk
theorem qhT(f:Key→Bool): ∀ A B:Mem,qL f (A++B)=qL f A++qL f B
 |[],B=>rfl
 |(k,x)::r,B=>by
  simp only [List.cons_append,qL,qhT f r B]
  split<;>rfl
theorem qeB {f:Key→Bool} {g:Key→Option Ob}: ∀ {ks:List Key},(∀ k ∈ ks,f k=false)→qL f (zR g ks)=[]
 |[],h=>rfl
 |k::ks,h=>by
  simp only [zR]
  split
  ·simp only [qL,h k (List.mem_cons_self),Bool.false_eq_true,if_false]
   exact qeB fun u hu=>h u (List.mem_cons_of_mem _ hu)
  ·exact qeB fun u hu=>h u (List.mem_cons_of_mem _ hu)
theorem InvD.ro(h:InvD N n E0 k0 a0 fr s a E c) (hL: ∀ k,qu L k=s.2 k) (hT:qo E L c) (hp:p.k=2) (hd: ∀ t,dst=some t→t < N) (hdf: ∀ d,dst=some d→fr d) (hfr: ∀ d,fr' d→fr d∧dst ≠ some d)
 (hnk: ∀ t,dst=some t→n≤t) (hks: ∀ k ∈ p.ks,dst ≠ some k.1) {σ0:Sl} {r:V} {c5:Cnt} (hst:st'=x3 dst r {σ:=σ0,T:=zR s.2 p.ks}) (hσd: ∀ d,dst=some d→True)
 (hμ:E'.μ=E.μ) (hr:Rel E'.cl r y c5) (hg5:Good E' c5) (hA:Adv E c0 E' c5):
 ∃ E4 c4,E4.w=E'.w∧InvD N n E0 k0 a0 fr' (yT dst st'.σ s.1,yV p dst st'.T s.2) (a.put dst y) E4 c4:=by
 have hg':Good E (qh c0 c):=by rw [zc];exact h.g
 have hM:Mono E E' c:=qaN hg' hA (fun k l hk=>by rw [hμ];exact hk)
 have hgood:Good E' (qh c5 c):=qeK hg' hA hg5
 have hadv:Adv E c E' (qh c5 c):=by have:=qee c hA;rwa [zc]at this
 have hown: ∀ k,p.own dst k=decide (dst=some k.1):=fun k=>by
  simp only [Dp.own,hp]
  rw [Bool.eq_iff_iff]
  cases dst<;>simp
 obtain ⟨cB,hB,hBle⟩:=YW (fun k=> !p.own dst k) (z4 hT hM)
 cases dst with
 |none=>
  have e1: ∀ T,qL (p.own none) T=[]:=by
   intro T;induction T with
   |nil=>rfl
   |cons z t ih=>obtain ⟨k,x⟩:=z;simp only [qL,hown k];rw [if_neg (by simp)];exact ih
  refine ⟨E',qh c0 cB,rfl,InvD.next h hL hd (hM.le fun _=>Nat.zero_le _) (fun d x hdd=>by cases hdd) (by rw [e1];rfl) hB (hgood.le ?_) (hadv.le ?_) (fun k _=>by rw [hμ]) (fun d hd' j=>by rw [hμ];exact h.fr d (hfr d hd').1 j)⟩
  ·rw [zc];exact y0 hBle (xh _ _)
  ·rw [zc];exact y0 hBle (xh _ _)
 |some d=>
  have hdN:=hd d rfl
  have hfree: ∀ j,E'.μ (d,j)=none:=fun j=>by rw [hμ];exact h.fr d (hdf d rfl) j
  have hownd:p.own (some d)=fun k:Key=>decide (k.1=d):=funext fun k=>by rw [hown];simp [eq_comm]
  simp only [x3,Zy]at hst
  split at hst
  ·
   obtain ⟨E4,c6,j',hn,h1,h2,h3⟩:=qfi (d:=d) hfree (yF hr (jc E' c5))
   subst hst
   have hA4:qL (p.own (some d)) ((zX d r).2++(zg d {σ:=σ0,T:=zR s.2 p.ks}).T)=qL (p.own (some d)) (zX d r).2:=by
    rw [qhT,hownd,quU,List.append_nil]
   obtain ⟨cA,h4,h5⟩:=YW (p.own (some d)) h2
   have hle:cle (qh cA cB) (qh c5 c):=fun b=>by have:=h5 b;have:=h3 b;have:=hBle b;simp only [qh]at*;omega
   have hMn:=hn.mono (E:=E') (E':=E4)
   have hg4:Good E4 (qh cA cB):=QM hn.hw hn.hI hle hgood
   refine ⟨E4,qh cA cB,hn.hw,InvD.next h hL hd ?_ ?_ (by simp only [hA4];exact h4) (z4 hB (hn.mono _)) hg4 ?_ ?_ ?_⟩
   ·exact ⟨fun τ b hb=>⟨by rw [hn.hI];exact (hM.hI τ b hb).1,by rw [hn.hw];exact (hM.hI τ b hb).2⟩,fun b hb=>absurd rfl hb,fun k l hk=>hn.hμ k l (by rw [hμ];exact hk)⟩
   ·intro d' x hdd hx
    cases hdd
    simp only [qC,if_pos,Option.some.injEq]at hx
    subst hx;exact h1
   ·exact hadv.trans (jz hn.hw hn.hI hle)
   ·intro k hk
    rw [hn.hout k (by have:=hnk d rfl;omega),hμ]
   ·intro d' hd' j
    obtain ⟨h6,h7⟩:=hfr d' hd'
    rw [hn.hout (d',j) (by rintro rfl;exact h7 rfl),hμ]
    exact h.fr d' h6 j
  ·rename_i hz
   have h0:=YQ hr (by simpa using hz)
   subst h0
   subst hst
   have e1:qL (p.own (some d)) (St.put {σ:=σ0,T:=zR s.2 p.ks} d r).T=[]:=qeB fun k hk=>by
    rw [hown];simpa using hks k hk
   rw [zc]at hgood hadv
   refine ⟨E',qh c0 cB,rfl,InvD.next h hL hd (hM.le fun _=>Nat.zero_le _) ?_ (by rw [e1];rfl) hB (hgood.le ?_) (hadv.le ?_) (fun k _=>by rw [hμ]) (fun d hd' j=>by rw [hμ];exact h.fr d (hfr d hd').1 j)⟩
   ·intro d' x hdd hx
    cases hdd
    simp only [St.put,qC,if_pos,Option.some.injEq]at hx
    subst hx
    exact yF hr (jc E' c0)
   ·rw [zc];exact hBle
   ·rw [zc];exact hBle
end
end Go.Vm
namespace Go.Vm
variable [Lay]
def qgN(l:List Nat) (x:Nat):List Nat:=if l.contains x then l else x::l
def qb4(ops:Array Oper):List (List Nat):=
 ops.toList.foldl (fun acc o=>
  acc++[((o.after.toList.filter fun e=>Region.binds .any e).map (·.on)).foldl (fun l k=>(acc.getD k []).foldl qgN (qgN l k)) []]) []
def qaW(plan:List Dp) (is:List AI) (anc:List (List Nat)):Bool:=
 (List.range is.length).all fun i=>(List.range i).all fun j=>match plan[j]?,is[j]?,plan[i]?,is[i]? with
  |some pj,some aj,some pi,some ai=>((anc.getD i []).contains j||qgm pj aj pi ai)&&(pj.k==0||pi.k==0||Jb (qy aj) (qy ai))
  |_,_,_,_=>false
def qcJ:List Key→Bool
 |[]=>true
 |k::ks=> !ks.contains k&&qcJ ks
def qcO(n:Nat) (p:Dp) (h ai:AI):Bool:=
 ((p.k==0&&qfz (qb7 h))||p.k==1||(p.k==2&&roI (qb7 h)))&&qcJ p.ks&&
   (p.k==0||(match qy ai with|some d=>decide (n≤d)&&p.ks.all (fun k=>k.1 != d)|none=>true))
def xQ(n:Nat):List Dp→List AI→List AI→Bool
 |[],[],[]=>true
 |p::ps,h::hs,i::is=>qcO n p h i&&xQ n ps hs is
 |_,_,_=>false
def dOk(P:Program) (n:Nat) (ops:Array Oper) (plan:List Dp) (hs is:List AI):Bool:=
 P.follows .mixedOrders&&qcN ops (qb4 ops)&&qfg ops&&qaW plan is (qb4 ops)&&xQ n plan hs is
theorem qjB: ∀ {ks:List Key},qcJ ks=true→ks.Nodup
 |[],h=>List.nodup_nil
 |k::ks,h=>by
  simp only [qcJ,Bool.and_eq_true,Bool.not_eq_true',List.contains_eq_mem,decide_eq_false_iff_not]at h
  exact List.nodup_cons.2 ⟨h.1,qjB h.2⟩
theorem qfk {n:Nat}: ∀ {plan:List Dp} {hs is:List AI},xQ n plan hs is=true→plan.length=is.length∧hs.length=is.length∧
 ∀ (i:Nat) (p:Dp) (h ai:AI),plan[i]? =some p→hs[i]? =some h→is[i]? =some ai→qcO n p h ai=true
 |[],[],[],h=>⟨rfl,rfl,fun i p h ai h1=>by simp at h1⟩
 |p::ps,h::hs,a::is,hk=>by
  simp only [xQ,Bool.and_eq_true]at hk
  obtain ⟨h1,h2,h3⟩:=qfk hk.2
  refine ⟨by simp [h1],by simp [h2],fun i p' h' a' e1 e2 e3=> ?_⟩
  cases i with
  |zero=>simp at e1 e2 e3;subst e1;subst e2;subst e3;exact hk.1
  |succ i=>exact h3 i p' h' a' (by simpa using e1) (by simpa using e2) (by simpa using e3)
 |[],[],_::_,h=>by simp [xQ]at h
 |[],_::_,_,h=>by simp [xQ]at h
 |_::_,[],_,h=>by simp [xQ]at h
 |_::_,_::_,[],h=>by simp [xQ]at h
def KC(call:Call) (plan:List Dp) (is:List AI) (i:Nat) (s:FS):Option FS:=
 match plan[i]?,is[i]? with
 |some p,some ai=>QW call p ai s
 |_,_=>none
theorem qgT {call:Call} {plan:List Dp} {is:List AI}: ∀ (ps:List Dp) (as:List AI) (k:Nat) (st st1:St),plan.drop k=ps→is.drop k=as→zJ call ps as st=some st1→
 jL (KC call plan is) (List.range' k as.length) (ZP st)=some (ZP st1)
 |[],[],k,st,st1,h1,h2,h=>by
  simp only [zJ,Option.some.injEq]at h;subst h;rfl
 |p::ps,a::as,k,st,st1,h1,h2,h=>by
  simp only [zJ]at h
  split at h
  case h_2=>cases h
  rename_i st2 hs
  have hp:plan[k]? =some p:=by
   have:(plan.drop k)[0]? =some p:=by rw [h1];rfl
   simpa using this
  have ha:is[k]? =some a:=by
   have:(is.drop k)[0]? =some a:=by rw [h2];rfl
   simpa using this
  simp only [List.length_cons,List.range'_succ,jL,KC,hp,ha,quw hs]
  exact qgT ps as (k+1) st2 st1 (by rw [← List.drop_drop,h1];rfl) (by rw [← List.drop_drop,h2];rfl) h
 |[],_::_,k,st,st1,h1,h2,h=>by simp [zJ]at h
 |_::_,[],k,st,st1,h1,h2,h=>by simp [zJ]at h
section
variable {P:Program} {N n:Nat} {E:Env} {c:Cnt} {st:St} {tmps:Array Value}
theorem qlS: ∀ (ds:List Nat) {st:St} {E:Env} {c:Cnt},FRel N E st tmps c→(∀ d ∈ ds,n≤d)→
 ∃ E' c',E'.w=E.w∧E'.I=E.I∧KN n E E'∧FRel N E' (xE ds st) tmps c'∧cle c' c∧(∀ d ∈ ds,∀ j,E'.μ (d,j)=none)∧(∀ d,(∀ j,E.μ (d,j)=none)→ ∀ j,E'.μ (d,j)=none)
 |[],st,E,c,h,hd=>⟨E,c,rfl,rfl,KN.refl,h,qS _,fun d hd=>(by cases hd),fun d h=>h⟩
 |d::ds,st,E,c,h,hd=>by
  obtain ⟨c1,h1,h2,h3⟩:=ZR d h.σ h.T
  obtain ⟨E',c',w1,i1,k1,f1,l1,m1,m2⟩:=qlS ds (st:=zg d st) (E:=E.drop d) (c:=c1) ⟨h.sz,h1,h2,(h.g.drop d).le h3⟩ (fun e he=>hd e (List.mem_cons_of_mem _ he))
  have hdn:=hd d (List.mem_cons_self)
  refine ⟨E',c',w1,i1,fun k hk=> ?_,f1,y0 l1 h3,fun e he=> ?_,fun e he=> ?_⟩
  ·rw [k1 k hk]
   simp only [Env.drop];rw [if_neg (by omega)]
  ·rcases List.mem_cons.1 he with rfl|he
   ·exact m2 e (fun j=>jD E e j)
   ·exact m1 e he
  ·exact m2 e fun j=>by
    simp only [Env.drop]
    split
    ·rfl
    ·exact he j
end
end Go.Vm
namespace Go.Vm
variable [Lay]
section
variable {P:Program} {N n:Nat} {ops:Array Oper} {o:Oper} {E:Env} {c:Cnt} {st st':St} {a:Act} {call:Call} {ai h:AI}
theorem qs0(hC:jt P call) (hq:roI h=true) (ht:yN P N o h=some ai) (hs:qi call st ai=some st') (hf:FRel N E st a.tmps c) {Q:Exit→Act→World→Prop} {K:Act→World→Prop}
 (hK: ∀ y E3 c5 r,E3.μ=E.μ→Rel E3.cl r y c5→Good E3 c5→Adv E c0 E3 c5→st'=x3 o.dst r st→K (a.put o.dst y) E3.w):o.wp P a E.w K Q:=by
 unfold roI at hq
 split at hq
 case h_2=>cases hq
 rename_i d hh hs' fz
 simp only [yN]at ht
 split at ht
 case isFalse=>cases ht
 rename_i hd
 simp only [QT,Bool.and_eq_true,decide_eq_true_eq]at hd
 obtain ⟨hd,hn⟩:=hd
 unfold YX at ht
 split at ht
 case h_2=>cases ht
 rename_i cl ho
 split at ht
 case h_2=>cases ht
 rename_i f hfn
 obtain ⟨f',xs',h1,h2,rfl⟩:=Qm ht
 simp only [qi]at hs
 split at hs
 case h_2=>cases hs
 rename_i fv hfv
 split at hs
 case h_2=>cases hs
 rename_i g first caps xs hcal hxs
 have hrf:=qJ hf.σ h1 hfv
 have hrx:=X4 hf.σ h2 hxs
 unfold callee at hcal
 split at hcal
 case h_2=>cases hcal
 rename_i g0 fi0 ca0
 simp only [Option.some.injEq,Prod.mk.injEq]at hcal
 obtain ⟨rfl,rfl,rfl⟩:=hcal
 simp only [Rel]at hrf
 obtain ⟨fs,cs,c1,c2,hv,hr1,hr2,hcc⟩:=hrf
 obtain ⟨rfl,rfl⟩:=cz hcc.symm.symm rfl
 have hL:qk E (_++xs++_) (fs.toList++cl.args.toList.map a.eval++cs.toList) c0:=jg (jg hr1 hrx) hr2
 simp only [x9]at hs
 split at hs
 case h_2=>cases hs
 rename_i r outs hcall
 split at hs
 case isFalse=>cases hs
 rename_i hnt
 simp only [Option.some.injEq]at hs
 have hA:=qkW hC (fz:=fz) hcall hnt hL hf.T hf.g
 have hrun:(execOp a.eval o).run P E.w=(callFunc g0 (fs.toList++cl.args.toList.map a.eval++cs.toList).toArray).run P E.w:=by
  rw [execOp];simp only [ho,resolve,hfn,hv,Deferred.ofValue,invoke,Sem.run_bind,Sem.run_pure,Result.andThen_ok]
  congr 2
  apply Array.ext'
  simp
 unfold Oper.wp
 rw [hrun]
 have hK': ∀ y w',(∃ E3 c5,E3.w=w'∧E3.μ=E.μ∧Rel E3.cl (fzV fz r) y c5∧Good E3 c5∧(∀ b,b < E.w.heap.size→w'.heap[b]? =E.w.heap[b]?)∧Adv E c0 E3 c5)→K (a.put o.dst y) w':=by
  rintro y w' ⟨E3,c5,rfl,k1,k2,k3,-,k4⟩
  exact hK y E3 c5 _ k1 k2 k3 k4 (by rw [hd];exact hs.symm)
 unfold QC at hA
 split at hA
 ·rename_i g' args w' he
  rw [he]
  obtain ⟨rfl,hc⟩:=hA
  refine hc.mono ?_
  rintro e w'' ⟨y,rfl,h3⟩
  exact hK' y w'' h3
 ·rename_i y w' he
  rw [he]
  exact hK' y w' hA
 ·exact hA.elim
theorem qgo {ops':Array Oper}: ∀ {os:List Oper} {hs is:List AI},xW P N n ops' os hs=some is→os.length=is.length∧ ∀ (i:Nat) (o:Oper),os[i]? =some o→
 ∃ h ai,hs[i]? =some h∧is[i]? =some ai∧trI P N n ops' o h=some ai
 |[],[],is,h=>by simp only [xW,Option.some.injEq]at h;subst h;exact ⟨rfl,fun i o h=>by simp at h⟩
 |[],_::_,is,h=>by simp [xW]at h
 |_::_,[],is,h=>by simp [xW]at h
 |o::os,x::hs,is,h=>by
  simp only [xW]at h
  split at h
  case h_2=>cases h
  rename_i i is' h1 h2
  simp only [Option.some.injEq]at h;subst h
  obtain ⟨h3,h4⟩:=qgo h2
  refine ⟨by simp [h3],fun j o' hj=> ?_⟩
  cases j with
  |zero=>simp at hj;subst hj;exact ⟨x,i,rfl,rfl,h1⟩
  |succ j=>simpa using h4 j o' (by simpa using hj)
end
end Go.Vm
namespace Go.Vm
variable [Lay]
section
variable {P:Program} {N n:Nat} {ops:Array Oper} {call:Call} {plan:List Dp} {hs is:List AI}
theorem qm8 {listed:Array Bool} {i:Nat} {p:Dp} {ai:AI} (hl:listed.size=ops.size) (hi:i < ops.size) (hp:plan[i]? =some p) (ha:is[i]? =some ai) (hlen:is.length=ops.size)
 (hpairs:qaW plan is (qb4 ops)=true) {d:Nat} (h:kb plan is (listed.setIfInBounds i true) d):kb plan is listed d∧(p.k ≠ 0→qy ai ≠ some d):=by
 obtain ⟨j,q,aj,h1,h2,h3,h4,h5⟩:=h
 have hne:j ≠ i:=by
  rintro rfl
  have:(listed.setIfInBounds j true).getD j true=true:=by simp [Array.getD_eq_getD_getElem?,hl,hi]
  rw [this]at h1;cases h1
 rw [getD_set_ne true (Ne.symm hne)]at h1
 refine ⟨⟨j,q,aj,h1,h2,h3,h4,h5⟩,fun hk hd=> ?_⟩
 simp only [qaW,List.all_eq_true,List.mem_range]at hpairs
 have hj:j < is.length:=(List.getElem?_eq_some_iff.1 h3).1
 rcases Nat.lt_or_gt_of_ne hne with hlt|hlt
 ·have:=hpairs i (by omega) j hlt
  simp only [h2,h3,hp,ha,Bool.and_eq_true,Bool.or_eq_true,beq_iff_eq]at this
  have h6:=this.2
  rcases h6 with (h6|h6)|h6
  ·exact h4 h6
  ·exact hk h6
  ·rw [h5,hd]at h6;simp [Jb]at h6
 ·have:=hpairs j hj i hlt
  simp only [h2,h3,hp,ha,Bool.and_eq_true,Bool.or_eq_true,beq_iff_eq]at this
  have h6:=this.2
  rcases h6 with (h6|h6)|h6
  ·exact hk h6
  ·exact h4 h6
  ·rw [h5,hd]at h6;simp [Jb]at h6
theorem qlK {o:Oper} {h ai:AI} (ht:yN P N o h=some ai): ∀ t,o.dst=some t→t < N:=by
 cases h<;>simp only [yN]at ht<;>(first|(cases ht;done)|skip)<;>(split at ht)<;>(first|(cases ht;done)|skip)<;>rename_i hd
 case st.isTrue=>
  intro t h;have hd':o.dst=none:=by simpa using hd
  rw [hd']at h;cases h
 case mset.isTrue=>
  intro t h;have hd':o.dst=none:=by simpa using hd
  rw [hd']at h;cases h
 case mes.isTrue=>
  intro t h;have hd':o.dst=none:=by simpa using hd
  rw [hd']at h;cases h
 case call.isTrue=>
  simp only [QT,Bool.and_eq_true,decide_eq_true_eq]at hd
  intro t h
  obtain ⟨h1,h2⟩:=hd
  rw [← h1,h]at h2;simpa using h2
 all_goals
  intro t h
  obtain ⟨h1,h2⟩:=zt hd
  rw [h1]at h;cases h;exact h2
theorem quO {o:Oper} {h ai:AI} (ht:trI P N n ops o h=some ai): ∀ t,o.dst=some t→t < N:=by
 unfold trI at ht
 split at ht
 ·split at ht
  case h_2=>cases ht
  split at ht
  case isFalse=>cases ht
  rename_i hc
  rw [Option.map_eq_some_iff]at ht
  obtain ⟨i',hi',rfl⟩:=ht
  exact qlK hi'
 ·split at ht
  case isFalse=>cases ht
  rename_i hc
  simp only [Bool.and_eq_true]at hc
  intro t h
  obtain ⟨h1,h2⟩:=zt hc.2
  rw [h1]at h;cases h;exact h2
 ·split at ht
  case isFalse=>cases ht
  exact qlK ht
theorem qmS(hC:jt P call) (hlen:is.length=ops.size) (hpl:plan.length=is.length) (htr:xW P N n ops ops.toList hs=some is) (hops:xQ n plan hs is=true) (hpairs:qaW plan is (qb4 ops)=true)
 {E0:Env} {k0:Cnt} {a0:Act} {Q:Exit→Act→World→Prop} (listed:Array Bool) (i:Nat) (s s1:FS) (a:Act) (w:World) (K:Act→World→Prop) (hsz:listed.size=ops.size)
 (hi:i ∈ Region.ready .any ops listed) (hF:KC call plan is i s=some s1) (hI: ∃ E c,E.w=w∧InvD N n E0 k0 a0 (kb plan is listed) s a E c)
 (hK: ∀ a' w',(∃ E c,E.w=w'∧InvD N n E0 k0 a0 (kb plan is (listed.setIfInBounds i true)) s1 a' E c)→K a' w'):wpOp P ops Q i K a w:=by
 obtain ⟨E,c,rfl,hI⟩:=hI
 obtain ⟨h0,o,ho,-⟩:=mem_ready.1 hi
 have hin:i < ops.size:=(Array.getElem?_eq_some_iff.1 ho).1
 obtain ⟨h,ai,hh,hai,ht⟩:=(qgo htr).2 i o (by simpa using ho)
 unfold KC at hF
 split at hF
 case h_2=>cases hF
 rename_i p ai' hp hai'
 rw [hai]at hai';cases hai'
 have hop:=(qfk hops).2.2 i p h ai hp hh hai
 obtain ⟨st',hg,hsome,rfl⟩:=qbf.1 hF
 simp only [qcO,Bool.and_eq_true,Bool.or_eq_true,beq_iff_eq]at hop
 obtain ⟨⟨hkind,hnd⟩,hal⟩:=hop
 have hnd:=qjB hnd
 obtain ⟨L,hL,hT⟩:=hI.T
 obtain ⟨cK,cR,hFR,hcR,hle⟩:=hI.sub hL hT (qQ ai) hnd
 have hfs:=fun d=> @qm8 _ ops plan is listed i p ai hsz hin hp hai hlen hpairs d
 obtain ⟨hdst,hcases⟩:=quN ht hg hFR
 have hal':p.k ≠ 0→(∀ d,qy ai=some d→n≤d)∧(∀ k ∈ p.ks,qy ai ≠ some k.1)∧(∀ d,qy ai=some d→kb plan is listed d):=by
  intro hk
  have h1:=hal.resolve_left hk
  refine ⟨fun d hd=> ?_,fun k hk' hd=> ?_,fun d hd=>⟨i,p,ai,h0,hp,hai,hk,hd⟩⟩
  ·rw [hd]at h1;simp only [Bool.and_eq_true,decide_eq_true_eq]at h1;exact h1.1
  ·rw [hd]at h1
   simp only [Bool.and_eq_true,decide_eq_true_eq,List.all_eq_true,bne_iff_ne,ne_eq]at h1
   exact h1.2 k hk' rfl
 have hdN: ∀ t,qy ai=some t→t < N:=by rw [hdst];exact quO ht
 have hstay:p.k=0→st'=st'→(∀ (x:V) (y:Value),(qy ai=none)→InvD N n E0 k0 a0 (kb plan is (listed.setIfInBounds i true)) (yT (qy ai) st'.σ s.1,yV p (qy ai) st'.T s.2) (a.put (qy ai) y) E c):=by
  intro hk _ x y hn
  have e1:yT none st'.σ s.1=s.1:=by funext t;simp [yT]
  have e2:yV p none st'.T s.2=s.2:=by funext k;simp [yV,qfm hk]
  rw [hn,e1,e2]
  exact ⟨hI.sz,hI.df,hI.σ,hI.T,hI.g,hI.kn,hI.adv,fun d hd=>hI.fr d (hfs d hd).1⟩
 have hquiet:p.k=0→ ∀ d x y,qy ai=some d→st'=St.put {σ:=yR s.1 (qQ ai),T:=zR s.2 p.ks} d x→Rel E x y c0→K (a.put o.dst y) E.w:=by
  intro hk d x y hd hst hx
  refine hK _ _ ⟨E,c,rfl, ?_⟩
  rw [← hdst,hd,hst]
  exact hI.quiet hk (hdN d hd) hx fun d' hd'=>(hfs d' hd').1
 have hro:p.k=2→ ∀ y E3 c5 r,E3.μ=E.μ→Rel E3.cl r y c5→Good E3 c5→Adv E c0 E3 c5→st'=x3 o.dst r {σ:=yR s.1 (qQ ai),T:=zR s.2 p.ks}→K (a.put o.dst y) E3.w:=by
  intro hk y E3 c5 r k1 k2 k3 k4 k5
  have hk0:p.k ≠ 0:=by omega
  obtain ⟨g1,g2,g3⟩:=hal' hk0
  rw [← hdst]at k5 ⊢
  obtain ⟨E4,c4,hw4,hI4⟩:=hI.ro (fr':=kb plan is (listed.setIfInBounds i true)) hL hT hk hdN g3 (fun d hd=>⟨(hfs d hd).1,(hfs d hd).2 hk0⟩) g1 g2 k5 (fun _ _=>trivial) k1 k2 k3 k4
  rw [← hw4]
  exact hK _ _ ⟨E4,c4,rfl,hI4⟩
 unfold wpOp
 rw [ho]
 simp only
 by_cases hk1:p.k=1
 ·refine KL hC ht hg hFR ?_
  intro y E' c' hF' hkn hkp hA
  obtain ⟨g1,g2,g3⟩:=hal' (by omega)
  rw [← hdst]at hF' hkp ⊢
  obtain ⟨c'',hI'⟩:=hI.write (fr':=kb plan is (listed.setIfInBounds i true)) hL hcR hle hk1 hdN g3 (fun d hd=>⟨(hfs d hd).1,(hfs d hd).2 (by omega)⟩) hF' hkn hkp hA
  exact hK _ _ ⟨E',c'',rfl,hI'⟩
 rcases hkind with (⟨hk,hq⟩|hk)|⟨hk,hq⟩
 ·rcases hcases with ⟨hw,hn1,hn2⟩|⟨hw,ai1,h1,h2⟩
  ·rw [hw,if_neg (by simp)]
   cases hd:qy ai with
   |none=>
    have:=hstay hk rfl (.d) undef hd
    rw [hdst]at this
    exact hK _ _ ⟨E,c,rfl,by rw [hdst];exact this⟩
   |some d=>exact hquiet hk d yo undef hd (hn2 d (by rw [← hdst,hd])).2 qlP
  ·rw [if_pos hw]
   refine .inl (qmD (quM hq h1 h2 hFR) ?_)
   intro d x y hd hdn hst hx
   exact hquiet hk d x y (by rw [hdst,hd]) hst hx
 ·exact absurd hk hk1
 ·rcases hcases with ⟨hw,hn1,hn2⟩|⟨hw,ai1,h1,h2⟩
  ·rw [hw,if_neg (by simp)]
   refine hro hk undef E c0 yo rfl (by simp [yo,undef,Rel,yz]) (hI.g.le fun _=>Nat.zero_le _) (Adv.refl _ _) ?_
   cases hd:o.dst with
   |none=>simp only [x3];exact hn1 hd
   |some d=>
    simp only [x3,Zy,yo,zb,Bool.not_true,Bool.false_eq_true,if_false]
    exact (hn2 d hd).2
  ·rw [if_pos hw]
   exact .inl (qs0 hC hq h1 h2 hFR fun y E3 c5 r k1 k2 k3 k4 k5=>hro hk y E3 c5 r k1 k2 k3 k4 k5)
end
end Go.Vm
namespace Go.Vm
variable [Lay]
section
variable {P:Program} {N n:Nat} {ops:Array Oper} {call:Call} {plan:List Dp} {hs is:List AI}
theorem qb3: ∀ {plan:List Dp} {hs is:List AI},xQ n plan hs is=true→ ∀ d ∈ zS plan is,n≤d
 |[],[],[],h,d,hd=>by simp [zS]at hd
 |p::ps,h::hs,a::is,hk,d,hd=>by
  simp only [xQ,Bool.and_eq_true]at hk
  simp only [zS]at hd
  split at hd
  ·exact qb3 hk.2 d hd
  ·rename_i hp
   split at hd
   ·rename_i e he
    rcases List.mem_cons.1 hd with rfl|hd
    ·have h1:=hk.1
     simp only [qcO,Bool.and_eq_true,Bool.or_eq_true,beq_iff_eq,he,decide_eq_true_eq]at h1
     exact (h1.2.resolve_left hp).1
    ·exact qb3 hk.2 d hd
   ·exact qb3 hk.2 d hd
 |[],[],_::_,h,d,hd=>by simp [xQ]at h
 |[],_::_,_,h,d,hd=>by simp [xQ]at h
 |_::_,[],_,h,d,hd=>by simp [xQ]at h
 |_::_,_::_,[],h,d,hd=>by simp [xQ]at h
theorem qgP: ∀ {plan:List Dp} {is:List AI} {i:Nat} {p:Dp} {ai:AI} {d:Nat},plan[i]? =some p→is[i]? =some ai→p.k ≠ 0→qy ai=some d→d ∈ zS plan is
 |[],is,i,p,ai,d,h1,h2,h3,h4=>by simp at h1
 |q::ps,[],i,p,ai,d,h1,h2,h3,h4=>by simp at h2
 |q::ps,b::is,0,p,ai,d,h1,h2,h3,h4=>by
  simp at h1 h2;subst h1;subst h2
  simp only [zS,if_neg h3,h4];exact List.mem_cons_self
 |q::ps,b::is,i+1,p,ai,d,h1,h2,h3,h4=>by
  have:=qgP (plan:=ps) (is:=is) (by simpa using h1) (by simpa using h2) h3 h4
  simp only [zS]
  split
  ·exact this
  ·split
   ·exact List.mem_cons_of_mem _ this
   ·exact this
theorem qmR(hC:jt P call) (hchk:dOk P n ops plan hs is=true) (htr:xW P N n ops ops.toList hs=some is) {st st1:St} {a:Act} {E:Env} {c:Cnt}
 (hrun:zJ call plan is (xE (zS plan is) st)=some st1) (hnd:ZH st1.T=true) (hf:FRel N E st a.tmps c) {Q:Exit→Act→World→Prop}
 (hQ: ∀ a' E' c',FRel N E' st1 a'.tmps c'→a'.defers=a.defers→KN n E E'→Adv E c E' c'→Q .normal a' E'.w) {id:Nat}:(Code.region id ops true).wp P Q a E.w:=by
 simp only [dOk,Bool.and_eq_true]at hchk
 obtain ⟨⟨⟨⟨hm,hanc⟩,hback⟩,hpairs⟩,hops⟩:=hchk
 obtain ⟨hl1,hl2,-⟩:=qfk hops
 have hlen:is.length=ops.size:=by have:=(qgo htr).1;rw [Array.length_toList]at this;exact this.symm
 let E1:Env:={E with w:={E.w with drawn:=E.w.drawn+1}}
 have hM: ∀ c,Mono E E1 c:=fun c=>⟨fun τ b hb=>⟨hb,rfl⟩,fun b _=>rfl,fun k l hk=>hk⟩
 have hf1:FRel N E1 st a.tmps c:=⟨hf.sz,kr hf.σ (hM _),z4 hf.T (hM _),⟨hf.g.one,hf.g.imm,hf.g.sub,hf.g.bnd,hf.g.lay.next (fun b hb=>hb) (fun b hb=>rfl)⟩⟩
 have hA1:Adv E c E1 c:=⟨fun b n h=>h,rfl,rfl,rfl,Nat.le_refl _,fun _ _ _=>rfl,fun _ _ h=>h,fun _ h=> .inl h,fun _ _ h=> .inl h⟩
 obtain ⟨E2,c2,hw2,hI2,hk2,hf2,hle2,hfree,-⟩:=qlS (n:=n) (zS plan is) hf1 (qb3 hops)
 have hA2:Adv E c E2 c2:=hA1.trans (jz hw2 hI2 hle2)
 have hK2:KN n E E2:=fun k hk=>hk2 k hk
 refine wp_region_any hm ?_
 have hsz:(Array.replicate ops.size false).size=ops.size:=by simp
 have hget: ∀ i,i < ops.size→(Array.replicate ops.size false).getD i true=false:=fun i hi=>by simp [Array.getD_eq_getD_getElem?,hi]
 have hrem:xz ops.size (Array.replicate ops.size false)=List.range ops.size:=by
  unfold xz
  rw [List.filter_eq_self]
  intro i hi
  rw [hget i (List.mem_range.1 hi)];rfl
 have hInv0:InvD N n E c a (kb plan is (Array.replicate ops.size false)) (ZP (xE (zS plan is) st)) a E2 c2:=
  ⟨hf2.sz,rfl,fun t x hx=>hf2.σ t x hx,⟨_,fun k=>rfl,hf2.T⟩,hf2.g,hK2,hA2,fun d ⟨i,p,ai,_,h2,h3,h4,h5⟩=>hfree d (qgP h2 h3 h4 h5)⟩
 refine quW (F:=KC call plan is) hanc hback ?_ (fun listed s a' w'=> ∃ E' c',E'.w=w'∧InvD N n E c a (kb plan is listed) s a' E' c')
  (qmS hC hlen hl1 htr hops hpairs) (s':=ZP st1) ?_ ops.size _ (ZP (xE (zS plan is) st)) a _ hsz (by rw [hrem];simp) ?_ ?_ ⟨E2,c2,hw2,hInv0⟩
 ·intro j i hj hi hcon s s1 s2 h1 h2
  simp only [qaW,List.all_eq_true,List.mem_range]at hpairs
  have:=hpairs i (by omega) j hj
  unfold KC at h1 h2 ⊢
  split at h1
  case h_2=>cases h1
  rename_i pj aj e1 e2
  split at h2
  case h_2=>cases h2
  rename_i pi ai e3 e4
  simp only [e1,e2,e3,e4,Bool.and_eq_true,Bool.or_eq_true]at this
  rcases this.1 with h3|h3
  ·rw [hcon]at h3;cases h3
  ·obtain ⟨s1',g1,g2⟩:=quC h3 h1 h2
   exact ⟨s1',g1,g2⟩
 ·rintro listed a' w' ⟨E',c',rfl,hI⟩
  obtain ⟨L,hL,hT⟩:=hI.T
  obtain ⟨c'',h1,h2⟩:=qlI hnd hT (fun k x hk=>by rw [hL];exact hk)
  exact hQ a' E' c'' ⟨hI.sz,fun t x hx=>hI.σ t x hx,h1,hI.g.le h2⟩ hI.df hI.kn (hI.adv.le h2)
 ·intro k o hk hl
  rw [hget k (Array.getElem?_eq_some_iff.1 hk).1]at hl;cases hl
 ·rw [hrem,List.range_eq_range', ← hlen]
  exact qgT plan is 0 _ _ rfl rfl hrun
end
end Go.Vm
namespace Go.Vm
variable [Lay]
section
variable {E E':Env}
end
def zK(E:Env):Env:={E with μ:=fun k=>if NB≤k.1 then some (.emp none)else E.μ k}
mutual
theorem qaR(E:Env) (d i:Nat) (nm:Bool) (hd:nm=true→NB≤d): ∀ (x:V) (y:Value) (c:Cnt),Rel E x y c→Rel (zK E) (qO d i nm x) y c
 | .v x,y,c,h=>by simpa only [Rel,qO]using h
 | .p k a b,y,c,h=>by
   simp only [qO]
   split
   ·simp only [Rel]at h ⊢;exact h.1
   ·rename_i hk
    simp only [Rel,zK,if_neg hk]at h ⊢;exact h
 | .s k a b,y,c,h=>by
   simp only [qO]
   split
   ·simp only [Rel]at h ⊢;exact h.1
   ·rename_i hk
    simp only [Rel,zK,if_neg hk]at h ⊢;exact h
 | .q τ xs a b,y,c,h=>by simp only [Rel,qO]at h ⊢;exact h
 | .i τ xs,y,c,h=>by simp only [Rel,qO]at h ⊢;exact h
 | .o e xs,y,c,h=>by simp only [Rel,qO]at h ⊢;exact h
 | .n e,y,c,h=>by
   simp only [qO]
   split
   ·rename_i hn
    simp only [Rel]at h ⊢
    obtain ⟨rfl,rfl⟩:=h
    refine ⟨by trivial,.inl ⟨none,by simp only [zK,if_pos (hd hn)], ?_⟩⟩
    simp
   ·simpa only [Rel]using h
 | .b x,y,c,h=>by simp only [Rel,qO]at h ⊢;exact h
 | .f fn xs ys,y,c,h=>by
   simp only [Rel,qO]at h ⊢
   obtain ⟨fs,cs,c1,c2,hy,h1,h2,h3⟩:=h
   exact ⟨fs,cs,c1,c2,hy,qaQ E d i false (fun h=>by cases h) xs _ _ h1,qaQ E d i false (fun h=>by cases h) ys _ _ h2,h3⟩
 | .a xs,y,c,h=>by
   simp only [Rel,qO]at h ⊢
   obtain ⟨vs,hy,h⟩:=h
   exact ⟨vs,hy,qaQ E d i nm hd xs _ _ h⟩
 | .t xs,y,c,h=>by
   simp only [Rel,qO]at h ⊢
   obtain ⟨vs,hy,h⟩:=h
   exact ⟨vs,hy,qaQ E d i false (fun h=>by cases h) xs _ _ h⟩
 | .m k,y,c,h=>by
   simp only [qO]
   split
   ·simp only [Rel]at h ⊢;exact h.1
   ·rename_i hk
    simp only [Rel,zK,if_neg hk]at h ⊢;exact h
 | .w none es,y,c,h=>by simp only [Rel,qO]at h ⊢;exact h
 | .w (some _) es,y,c,h=>by simp only [Rel,qO]at h ⊢;exact h
 | .d,y,c,h=>by simpa only [Rel,qO]using h
theorem qaQ(E:Env) (d i:Nat) (nm:Bool) (hd:nm=true→NB≤d): ∀ (xs:List V) (ys:List Value) (c:Cnt),qk E xs ys c→qk (zK E) (zQ d i nm xs) ys c
 |[],ys,c,h=>by simpa only [qk,zQ]using h
 |x::xs,ys,c,h=>by
  simp only [qk,zQ]at h ⊢
  obtain ⟨y,ys',c1,c2,hy,h1,h2,h3⟩:=h
  exact ⟨y,ys',c1,c2,hy,qaR E d i nm hd x _ _ h1,qaQ E d (i+1) nm hd xs _ _ h2,h3⟩
end
theorem qfc(d:Nat) (nm:Bool): ∀ (xs:List V) (i:Nat),(zQ d i nm xs).length=xs.length
 |[],_=>rfl
 |x::xs,i=>by simp only [zQ,List.length_cons,qfc d nm xs (i+1)]
theorem qfd(d i:Nat) (nm:Bool) (x:V):(qO d i nm x).cells.length=x.cells.length:=by
 cases x<;>simp only [qO]<;>first
  |rfl
  |(split<;>rfl)
  |(simp only [V.cells,qfc])
theorem qjk(E:Env) (d:Nat) {e:Nat}: ∀ (xs:List V) (i:Nat) (ys:List Value) (c:Cnt),ql E e xs ys c→ql (zK E) e (zQ d i false xs) ys c
 |[],i,ys,c,h=>h
 |x::xs,i,ys,c,h=>by
  simp only [ql,zQ]at h ⊢
  obtain ⟨y,ys',c1,c2,h1,h2,h3,h4,h5,h6,h7⟩:=h
  exact ⟨y,ys',c1,c2,h1,h2,by rw [qfd];exact h3,h4,qaR E d i false (fun h=>by cases h) _ _ _ h5,qjk E d xs (i+1) _ _ h6,h7⟩
theorem qfH {E E':Env} (hc:E'.cl=E.cl) {e:Nat} {xs:List V} {ys:List Value} {c:Cnt} (h:ql E e xs ys c) (hx:qE xs=true):ql E' e xs ys c:=
 yE (by rw [hc];exact qcY h hx) (jc E' c)
theorem qqL(E:Env) (d i:Nat) (bx:Bool) (hd:NB≤d) {e:Nat} {xs:List V} {ys:List Value} {c:Cnt} (h:ql E e xs ys c):ql (zK E) e (kG d i bx xs) ys c:=by
 have hall: ∀ xs,ql E e xs ys c→ql (zK E) e (if qE xs then xs else zQ 0 0 false xs) ys c:=by
  intro xs h
  split
  ·rename_i hc;exact qfH (E:=E) (E':=zK E) rfl h hc
  ·exact qjk E 0 xs 0 ys c h
 unfold kG
 split
 ·rename_i x
  have hone: ∀ g:V→V,(∀ y c,Rel E x y c→Rel (zK E) (g x) y c)→(g x).cells.length=x.cells.length→ql (zK E) e [g x] ys c:=by
   intro g hg hl
   simp only [ql]at h ⊢
   obtain ⟨y,ys',c1,c2,h1,h2,h3,h4,h5,h6,h7⟩:=h
   exact ⟨y,ys',c1,c2,h1,h2,by rw [hl];exact h3,h4,hg _ _ h5,h6,h7⟩
  split
  ·exact hone (qO d i true) (fun y c h=>qaR E d i true (fun _=>hd) x y c h) (qfd _ _ _ _)
  ·split
   ·rename_i hc;exact qfH (E:=E) (E':=zK E) rfl h (by simp only [qE,hc,Bool.and_self])
   ·exact hone (qO 0 0 false) (fun y c h=>qaR E 0 0 false (fun h=>by cases h) x y c h) (qfd _ _ _ _)
 ·exact hall _ h
theorem qhK(E:Env) {k:Key} (hk:NB≤k.1) (e:Nat):z7 (zK E) k (e,[]) c0:= .inr (.inl ⟨⟨none,by simp only [zK,if_pos hk]⟩,rfl,rfl⟩)
theorem qe9(E:Env) (d:Nat) (hd:NB≤d): ∀ (xs:List V) (i:Nat),qo (zK E) (Qk d i xs) c0
 |[],i=>by simp only [Qk,qo]
 |x::xs,i=>by
  cases x<;>simp only [Qk]<;>first
   |exact qe9 E d hd xs (i+1)
   |exact ⟨c0,c0,qhK E hd _,qe9 E d hd xs (i+1),rfl⟩
theorem qjn(E:Env) (d i:Nat) (hd:NB≤d) (x:V):qo (zK E) (yl d i x) c0:=by
 cases x<;>simp only [yl]<;>first
  |exact qe9 E d hd _ i
  |exact ⟨c0,c0,qhK E hd _,rfl,rfl⟩
  |rfl
theorem qqM {E:Env} {σ:Sl} {tmps:Array Value} (h:zz E σ tmps):zz (zK E) (xM σ) tmps:=by
 have hget: ∀ (σ:Sl) t z,qC (xM σ) t=some z→ ∃ x,qC σ t=some x∧z=qO (NB+t) 0 true x:=by
  intro σ
  induction σ with
  |nil=>intro t z h;simp [xM,qC]at h
  |cons p r ih=>
   obtain ⟨u,x⟩:=p
   intro t z h
   simp only [xM,qC]at h ⊢
   split at h
   ·rename_i hu;subst hu
    simp only [Option.some.injEq]at h
    rw [if_pos rfl];exact ⟨x,rfl,h.symm⟩
   ·rename_i hu;rw [if_neg hu];exact ih t z h
 intro t z hz
 obtain ⟨x,hx,rfl⟩:=hget σ t z hz
 obtain ⟨y,h1,h2⟩:=h t x hx
 exact ⟨y,h1,qaR E _ 0 true (fun _=>Nat.le_add_right _ _) x y c0 h2⟩
theorem qjl(E:Env): ∀ (σ:Sl),qo (zK E) (kH σ) c0
 |[]=>rfl
 |(t,x)::r=>by
  simp only [kH]
  have:=xD (qjn E (NB+t) 0 (Nat.le_add_right _ _) x) (qjl E r)
  rwa [zc]at this
theorem qjm {E:Env} (bx:List Key): ∀ {T:Mem} {c:Cnt},qo E T c→ ∃ c',qo (zK E) (y5 bx T) c'∧cle c' c
 |[],c,h=>⟨c,h,qS _⟩
 |(k,e,xs)::r,c,h=>by
  obtain ⟨c1,c2,h1,h2,rfl⟩:=h
  obtain ⟨c3,h3,h4⟩:=qjm bx h2
  simp only [y5]
  split
  ·exact ⟨c3,h3,y0 h4 (xh _ _)⟩
  ·rename_i hk
   have hom:qo (zK E) (YK (2*NB+k.1) (10*k.2) (xr k bx) xs) c0:=by
    unfold YK
    split
    ·split
     ·exact qjn E _ _ (by omega) _
     ·rfl
    ·rfl
   have hob:z7 (zK E) k (e,kG (2*NB+k.1) (10*k.2) (xr k bx) xs) c1:=by
    rcases h1 with ⟨b,ents,clk,es,q1,q2,q3,q4,q5⟩|⟨⟨A,hA⟩,hn,hc⟩|⟨b,base,lim,cells,T,fz,c5,g1,g2,g3,g4,g5,g6,rfl⟩
    ·simp only at q4;subst q4
     refine .inl ⟨b,ents,clk,es,by simp only [zK,if_neg hk];exact q1,q2,q3, ?_,q5⟩
     simp [kG,qO,clE,clB]
    ·simp only at hn;subst hn
     refine .inr (.inl ⟨⟨A,by simp only [zK,if_neg hk];exact hA⟩, ?_,hc⟩)
     simp [kG,qE]
    ·have hlen:(kG (2*NB+k.1) (10*k.2) (xr k bx) xs).length=xs.length:=by
      unfold kG
      split
      ·split
       ·rfl
       ·split<;>rfl
      ·split
       ·rfl
       ·exact qfc _ _ _ _
     refine .inr (.inr ⟨b,base,lim,cells,T,fz,c5,by simp only [zK,if_neg hk];exact g1,g2,g3,g4, ?_, ?_,rfl⟩)
     ·simp only at g5 ⊢;rw [hlen];exact g5
     ·simp only at g6 ⊢;rw [hlen];exact qqL E _ _ _ (by omega) g6
   refine ⟨qh c1 c3, ?_,x7 (qS _) h4⟩
   have:=xD hom (show qo (zK E) ((k,e,kG (2*NB+k.1) (10*k.2) (xr k bx) xs)::y5 bx r) (qh c1 c3)from ⟨c1,c3,hob,h3,rfl⟩)
   rwa [zc]at this
def jj(tb:List Key) (E:Env):Env:={E with μ:=fun k=>if k.1=CN then (tb[k.2]?).bind E.μ else E.μ k}
theorem qic {k:Key}: ∀ {tb:List Key} {i j:Nat},ZE k i tb=some j→i≤j∧tb[j - i]? =some k
 |[],i,j,h=>by simp [ZE]at h
 |u::r,i,j,h=>by
  simp only [ZE]at h
  split at h
  ·rename_i hu;simp only [Option.some.injEq]at h;subst h;subst hu;simp
  ·obtain ⟨h1,h2⟩:=qic h
   refine ⟨by omega, ?_⟩
   rw [show j - i=(j - (i+1))+1 by omega]
   simpa using h2
theorem YR {tb:List Key} {E:Env} {k k':Key} {l:Loc} (h:xA tb k=some k') (hl:E.μ k=some l):(jj tb E).μ k'=some l:=by
 unfold xA at h
 split at h
 ·rename_i i hi
  simp only [Option.some.injEq]at h;subst h
  obtain ⟨-,h2⟩:=qic hi
  simp only [Nat.sub_zero]at h2
  simp only [jj,if_true,h2,Option.bind_some,hl]
 ·split at h
  ·cases h
  ·rename_i hk
   simp only [Option.some.injEq]at h;subst h
   simp only [jj,if_neg hk,hl]
mutual
theorem qfS(tb:List Key) (E:Env): ∀ (x:V) (y:Value) (c:Cnt),Rel E x y c→Rel (jj tb E) (qU tb x) y c
 | .v x,y,c,h=>by simpa only [Rel,qU]using h
 | .p k a b,y,c,h=>by
   simp only [qU]
   simp only [Rel]at h
   obtain ⟨h0,b',base,e,lim,h1,h2⟩:=h
   split
   ·rename_i k' hk
    simp only [Rel]
    exact ⟨h0,b',base,e,lim,YR hk h1,h2⟩
   ·simp only [Rel];exact h0
 | .s k a b,y,c,h=>by
   simp only [qU]
   simp only [Rel]at h
   obtain ⟨h0,h⟩:=h
   split
   ·rename_i k' hk
    simp only [Rel]
    refine ⟨h0, ?_⟩
    rcases h with ⟨A,h1,h2⟩|⟨b',base,e,lim,cap,A,h1,h2⟩
    ·exact .inl ⟨A,YR hk h1,h2⟩
    ·exact .inr ⟨b',base,e,lim,cap,A,YR hk h1,h2⟩
   ·simp only [Rel];exact h0
 | .q τ xs a b,y,c,h=>by simp only [Rel,qU]at h ⊢;exact h
 | .i τ xs,y,c,h=>by simp only [Rel,qU]at h ⊢;exact h
 | .o e xs,y,c,h=>by simp only [Rel,qU]at h ⊢;exact h
 | .n e,y,c,h=>by simpa only [Rel,qU]using h
 | .b x,y,c,h=>by simp only [Rel,qU]at h ⊢;exact h
 | .f fn xs ys,y,c,h=>by
   simp only [Rel,qU]at h ⊢
   obtain ⟨fs,cs,c1,c2,hy,h1,h2,h3⟩:=h
   exact ⟨fs,cs,c1,c2,hy,qa6 tb E xs _ _ h1,qa6 tb E ys _ _ h2,h3⟩
 | .a xs,y,c,h=>by
   simp only [Rel,qU]at h ⊢
   obtain ⟨vs,hy,h⟩:=h
   exact ⟨vs,hy,qa6 tb E xs _ _ h⟩
 | .t xs,y,c,h=>by
   simp only [Rel,qU]at h ⊢
   obtain ⟨vs,hy,h⟩:=h
   exact ⟨vs,hy,qa6 tb E xs _ _ h⟩
 | .m k,y,c,h=>by
   simp only [qU]
   simp only [Rel]at h
   obtain ⟨h0,b',h1,h2⟩:=h
   split
   ·rename_i k' hk
    simp only [Rel]
    exact ⟨h0,b',YR hk h1,h2⟩
   ·simp only [Rel];exact h0
 | .w none es,y,c,h=>by simp only [Rel,qU]at h ⊢;exact h
 | .w (some _) es,y,c,h=>by simp only [Rel,qU]at h ⊢;exact h
 | .d,y,c,h=>by simpa only [Rel,qU]using h
theorem qa6(tb:List Key) (E:Env): ∀ (xs:List V) (ys:List Value) (c:Cnt),qk E xs ys c→qk (jj tb E) (zT tb xs) ys c
 |[],ys,c,h=>by simpa only [qk,zT]using h
 |x::xs,ys,c,h=>by
  simp only [qk,zT]at h ⊢
  obtain ⟨y,ys',c1,c2,hy,h1,h2,h3⟩:=h
  exact ⟨y,ys',c1,c2,hy,qfS tb E x _ _ h1,qa6 tb E xs _ _ h2,h3⟩
end
theorem qfR(tb:List Key): ∀ (xs:List V),(zT tb xs).length=xs.length
 |[]=>rfl
 |x::xs=>by simp only [zT,List.length_cons,qfR tb xs]
theorem qsX(tb:List Key) (x:V):(qU tb x).cells.length=x.cells.length:=by
 cases x<;>simp only [qU]<;>first
  |rfl
  |(split<;>rfl)
  |(simp only [V.cells,qfR])
theorem qkS(tb:List Key) (E:Env) {e:Nat}: ∀ (xs:List V) (ys:List Value) (c:Cnt),ql E e xs ys c→ql (jj tb E) e (zT tb xs) ys c
 |[],ys,c,h=>h
 |x::xs,ys,c,h=>by
  simp only [ql,zT]at h ⊢
  obtain ⟨y,ys',c1,c2,h1,h2,h3,h4,h5,h6,h7⟩:=h
  exact ⟨y,ys',c1,c2,h1,h2,by rw [qsX];exact h3,h4,qfS tb E _ _ _ h5,qkS tb E xs _ _ h6,h7⟩
theorem qsW {E:Env} (tb:List Key) {σ:Sl} {tmps:Array Value} (h:zz E σ tmps):zz (jj tb E) (Qp tb σ) tmps:=by
 have hget: ∀ (σ:Sl) t z,qC (Qp tb σ) t=some z→ ∃ x,qC σ t=some x∧z=qU tb x:=by
  intro σ
  induction σ with
  |nil=>intro t z h;simp [Qp,qC]at h
  |cons p r ih=>
   obtain ⟨u,x⟩:=p
   intro t z h
   simp only [Qp,qC]at h ⊢
   split at h
   ·rename_i hu;subst hu
    simp only [Option.some.injEq]at h
    rw [if_pos rfl];exact ⟨x,rfl,h.symm⟩
   ·rename_i hu;rw [if_neg hu];exact ih t z h
 intro t z hz
 obtain ⟨x,hx,rfl⟩:=hget σ t z hz
 obtain ⟨y,h1,h2⟩:=h t x hx
 exact ⟨y,h1,qfS tb E x y c0 h2⟩
theorem qkT {E:Env} (tb:List Key): ∀ {T:Mem} {c:Cnt},qo E T c→ ∃ c',qo (jj tb E) (jk tb T) c'∧cle c' c
 |[],c,h=>⟨c,h,qS _⟩
 |(k,e,xs)::r,c,h=>by
  obtain ⟨c1,c2,h1,h2,rfl⟩:=h
  obtain ⟨c3,h3,h4⟩:=qkT tb h2
  simp only [jk]
  split
  ·rename_i k' hk
   have hob:z7 (jj tb E) k' (e,if qE xs then xs else zT tb xs) c1:=by
    have hlen:(if qE xs then xs else zT tb xs).length=xs.length:=by
     split
     ·rfl
     ·exact qfR _ _
    rcases h1 with ⟨b,ents,clk,es,q1,q2,q3,q4,q5⟩|⟨⟨A,hA⟩,hn,hc⟩|⟨b,base,lim,cells,T,fz,c5,g1,g2,g3,g4,g5,g6,rfl⟩
    ·simp only at q4;subst q4
     exact .inl ⟨b,ents,clk,es,YR hk q1,q2,q3,by simp [qE,clE,clB],q5⟩
    ·simp only at hn;subst hn
     exact .inr (.inl ⟨⟨A,YR hk hA⟩,by simp [qE],hc⟩)
    ·refine .inr (.inr ⟨b,base,lim,cells,T,fz,c5,YR hk g1,g2,g3,g4, ?_, ?_,rfl⟩)
     ·simp only at g5 ⊢;rw [hlen];exact g5
     ·simp only at g6 ⊢;rw [hlen]
      split
      ·rename_i hc;exact qfH (E:=E) (E':=jj tb E) rfl g6 hc
      ·exact qkS tb E xs _ _ g6
   exact ⟨qh c1 c3,⟨c1,c3,hob,h3,rfl⟩,x7 (qS _) h4⟩
  ·exact ⟨c3,h3,y0 h4 (xh _ _)⟩
theorem qmB(n:Nat):Jf (zh n):=by
 intro E T x y c1 c2 hT h
 unfold zh
 split
 ·rename_i hc;exact ⟨c1,c2,hT,qfN h hc,qS _,rfl⟩
 ·exact Yz n E T x y c1 c2 hT h
theorem qmz {E:Env} {T:Mem} {c:Cnt} (k:Key) (h:qo E T c): ∃ c',qo E (Yy T k) c'∧cle c' c:=by
 unfold Yy
 split
 ·exact ⟨c,h,qS _⟩
 ·rename_i ob hg
  split
  ·exact ⟨c,h,qS _⟩
  ·obtain ⟨e,xs⟩:=ob
   obtain ⟨c1,c2,h1,h2,rfl⟩:=yn h hg
   rcases h1 with ⟨b,ents,clk,es,q1,q2,q3,q4,q5⟩|⟨⟨A,hA⟩,hn,rfl⟩|⟨b,base,lim,cells,Tt,fz,c5,g1,g2,g3,g4,g5,g6,rfl⟩
   ·rename_i hcl
    simp only at q4;subst q4
    simp [qE,clE,clB]at hcl
   ·simp only at hn;subst hn
    refine ⟨qh c0 c2,⟨c0,c2,.inr (.inl ⟨⟨A,hA⟩,by simp [qA],rfl⟩),by simpa [qA]using h2,rfl⟩,qS _⟩
   ·obtain ⟨d1,d2,k1,k2,k3⟩:=qfK (qmB 30) h2 g6
    have hlen:=qcF (zh 30) (qB T k) xs
    refine ⟨qh (qh (qD b) d2) d1,⟨qh (qD b) d2,d1,.inr (.inr ⟨b,base,lim,cells,Tt,fz,d2,g1,g2,g3,g4, ?_, ?_,rfl⟩),k1,rfl⟩, ?_⟩
    ·simp only at g5 ⊢;rw [hlen];exact g5
    ·simp only at g6 ⊢;rw [hlen];exact yE k2 (jc E d2)
    ·intro z;have:=k3 z;simp only [qh]at*;omega
theorem qes {E:Env} (bx:List Key): ∀ (ks:List Key) {T:Mem} {c:Cnt},qo E T c→ ∃ c',qo E (Qd bx ks T) c'∧cle c' c
 |[],T,c,h=>⟨c,h,qS _⟩
 |k::ks,T,c,h=>by
  simp only [Qd]
  split
  ·exact qes bx ks h
  ·obtain ⟨c1,h1,h2⟩:=qmz k h
   obtain ⟨c3,h3,h4⟩:=qes bx ks h1
   exact ⟨c3,h3,y0 h4 h2⟩
theorem qtP {E:Env} {T:Mem} {c:Cnt} (bx k0:List Key) (h:qo E T c): ∃ c',qo E (YU bx k0 T) c'∧cle c' c:=by
 unfold YU
 obtain ⟨c1,h1,h1'⟩:=qes bx k0 h
 obtain ⟨c3,h3,h3'⟩:=qdo k0 h1
 exact ⟨c3,h3,y0 h3' h1'⟩
theorem qmu {E:Env} {σ:Sl} {T:Mem} {tmps:Array Value} {c:Cnt} (n:Nat) (bx:List Key) (hσ:zz E σ tmps) (hT:qo E T c):
 ∃ E' c',E'.w=E.w∧E'.I=E.I∧(∀ k:Key,k.1 < CN→E'.μ k=E.μ k)∧zz E' (ZA n bx σ T).σ tmps∧qo E' (ZA n bx σ T).T c'∧cle c' c:=by
 obtain ⟨c1,h1,h1'⟩:=qjm bx hT
 have h2:=xD (qjl E σ) h1
 rw [zc]at h2
 obtain ⟨c4,h4,h4'⟩:=qdo (xq (xM σ)++xn (kH σ++y5 bx T) bx) h2
 obtain ⟨c3,h3,h3'⟩:=qkT (kF n (xq (xM σ)++xn (kH σ++y5 bx T) bx)) h4
 refine ⟨jj (kF n (xq (xM σ)++xn (kH σ++y5 bx T) bx)) (zK E),c3,rfl,rfl, ?_,qsW _ (qqM hσ),h3,y0 h3' (y0 h4' h1')⟩
 intro k hk
 have e1: ¬ k.1=CN:=by omega
 have e2: ¬ NB≤k.1:=by unfold CN at hk;unfold NB;omega
 simp only [jj,if_neg e1,zK,if_neg e2]
theorem qfu {N:Nat} {E:Env} {st:St} {tmps:Array Value} {c:Cnt} (ls:List Nat) (ks:List Key) (hf:FRel N E st tmps c):
 ∃ E' c',E'.w=E.w∧E'.I=E.I∧(∀ k:Key,k.1 < CN→E'.μ k=E.μ k)∧FRel N E' (xR ls ks st) tmps c'∧cle c' c:=by
 obtain ⟨c1,h1,h1'⟩:=qtP (yZ (zu st.σ ls)) (xq (zu st.σ ls)++xn st.T (yZ (zu st.σ ls))) hf.T
 obtain ⟨E',c',hw,hI,hμ,hσ,hT,hle⟩:=qmu (qas ks) (yZ (zu st.σ ls)) (qf3 hf.σ ls) h1
 have hle':=y0 hle h1'
 exact ⟨E',c',hw,hI,hμ,⟨hf.sz,hσ,hT,QM hw hI hle' hf.g⟩,hle'⟩
end Go.Vm
namespace Go.Vm
variable [Lay]
theorem qqV {N:Nat} {E:Env} {st:St} {tmps:Array Value} {c:Cnt} (d:Nat) (k:Key) (i:Nat) (hf:FRel N E st tmps c):
 ∃ E' c',E'.w=E.w∧E'.I=E.I∧(∀ k:Key,k.1 ≠ d→E'.μ k=E.μ k)∧FRel N E' (Kk d k i (zg d st)) tmps c'∧cle c' c:=by
 obtain ⟨c1,hσ1,hT1,hle1⟩:=ZR d hf.σ hf.T
 have hself:FRel N (E.drop d) (zg d st) tmps c1:=⟨hf.sz,hσ1,hT1,(hf.g.drop d).le hle1⟩
 have hdrop: ∀ k:Key,k.1 ≠ d→(E.drop d).μ k=E.μ k:=(qa7 E d).hμ
 have hnone: ∃ E' c',E'.w=E.w∧E'.I=E.I∧(∀ k:Key,k.1 ≠ d→E'.μ k=E.μ k)∧FRel N E' (zg d st) tmps c'∧cle c' c:=
  ⟨E.drop d,c1,rfl,rfl,hdrop,hself,hle1⟩
 unfold Kk
 split
 case h_2=>exact hnone
 rename_i ob hg
 split
 case h_2=>exact hnone
 rename_i x hx
 obtain ⟨co,cr,hob,hrest,rfl⟩:=yn hT1 hg
 rcases hob with ⟨b,ents,clk,es,q1,q2,q3,q4,q5⟩|⟨⟨A0,hn1⟩,hn2,-⟩|⟨b,base,lim,cells,ty,fz,ce,hμ,hw,hl,hf',hs,hr,rfl⟩
 ·rw [q4]at hx
  have hi:i=0:=by
   cases i with
   |zero=>rfl
   |succ i=>simp at hx
  subst hi
  simp only [List.getElem?_cons_zero,Option.some.injEq]at hx
  subst hx
  have e1:(qP d 0 (.w (some true) es)).2.2=[]:=rfl
  have e2:(qP d 0 (.w (some true) es)).1= .w (some true) es:=rfl
  rw [e1,e2,q4]
  exact ⟨E.drop d,_,rfl,rfl,hdrop,⟨hf.sz,hσ1,⟨co,cr,.inl ⟨b,ents,clk,es,q1,q2,q3,rfl,q5⟩,hrest,rfl⟩,(hf.g.drop d).le hle1⟩,hle1⟩
 ·rw [hn2]at hx;simp at hx
 obtain ⟨yv,d0,d1,d2,e1,hs1,hl1,ho1,hr0,hr1,hr2,rfl⟩:=qc1 hr hx
 obtain ⟨E2,cO,hn,hzz,hTO,hleO⟩:=qcP (d:=d) (j:=0) (fun i _=>jD E d i) hr1
 have hcl:=qjH d 0 x
 have hidx:i < ob.2.length:=(List.getElem?_eq_some_iff.1 hx).1
 have hR:=qfI hx (yE hr0 (hn.mono _)) hs1 (by rw [hcl];exact hl1) ho1 hzz (yE hr2 (hn.mono _))
 have hseg:(seg cells base (ob.2.length*ob.1)).take (i*ob.1)++yv.cells.toList++(seg cells base (ob.2.length*ob.1)).drop (i*ob.1+ob.1)=seg cells base (ob.2.length*ob.1):=by
  rw [← e1,List.append_assoc, ← List.drop_drop,List.take_append_drop,List.take_append_drop]
 rw [hseg]at hR
 have hO:z7 E2 k (ob.1,ob.2.set i (qP d 0 x).1) (qh (qD b) (qh (qh d0 c0) d2)):=
  .inr (.inr ⟨b,base,lim,cells,ty,fz,_,hn.hμ _ _ hμ,by rw [hn.hw];exact hw,hl,hf',by simpa using hs,by simpa using hR,rfl⟩)
 have hTT:qo E2 ((qP d 0 x).2.2++((k,ob.1,ob.2.set i (qP d 0 x).1)::qB (zg d st).T k)) (qh cO (qh (qh (qD b) (qh (qh d0 c0) d2)) cr)):=
  xD hTO ⟨_,_,hO,z4 hrest (hn.mono _),rfl⟩
 have hcle:cle (qh cO (qh (qh (qD b) (qh (qh d0 c0) d2)) cr)) c:=by
  intro z
  have q1:=hle1 z;have q2:=hleO z
  simp only [qh,c0]at*;omega
 exact ⟨E2,_,hn.hw,hn.hI,fun k hk=>by rw [hn.hout k (fun h=>hk h)];exact hdrop k hk,⟨hf.sz,kr hσ1 (hn.mono _),hTT,QM hn.hw hn.hI hcle (hf.g.drop d)⟩,hcle⟩
theorem qfj {N n:Nat}: ∀ (os:List (Nat × Key × Nat)) {E:Env} {st:St} {tmps:Array Value} {c:Cnt},(os.all fun o=>decide (n≤o.1))=true→FRel N E st tmps c→
 ∃ E' c',E'.w=E.w∧E'.I=E.I∧KN n E E'∧FRel N E' (Ql os st) tmps c'∧cle c' c
 |[],E,st,tmps,c,_,hf=>⟨E,c,rfl,rfl,KN.refl,hf,qS _⟩
 |(d,k,i)::os,E,st,tmps,c,ho,hf=>by
  simp only [List.all_cons,Bool.and_eq_true,decide_eq_true_eq]at ho
  obtain ⟨E1,c1,h1,h2,h3,h4,h5⟩:=qqV d k i hf
  obtain ⟨E2,c2,g1,g2,g3,g4,g5⟩:=qfj os ho.2 h4
  exact ⟨E2,c2,g1.trans h1,g2.trans h2,KN.trans (fun k hk=>h3 k (by omega)) g3,g4,y0 g5 h5⟩
theorem qmT(n:Nat) (σ:Sl) (d r:Nat) (i:Option Nat) (h:n≤d):((QL σ d r i).all fun o=>decide (n≤o.1))=true:=by
 unfold QL
 split
 ·simp [h]
 ·split
  ·split
   ·simp [h]
   ·rfl
  ·rfl
 ·rfl
theorem qjG {N n:Nat}: ∀ (os:List (Nat × Nat × Option Nat)) {E:Env} {st:St} {tmps:Array Value} {c:Cnt},(os.all fun o=>decide (n≤o.1))=true→FRel N E st tmps c→
 ∃ E' c',E'.w=E.w∧E'.I=E.I∧KN n E E'∧FRel N E' (ZI os st) tmps c'∧cle c' c
 |[],E,st,tmps,c,_,hf=>⟨E,c,rfl,rfl,KN.refl,hf,qS _⟩
 |(d,r,i)::os,E,st,tmps,c,ho,hf=>by
  simp only [List.all_cons,Bool.and_eq_true,decide_eq_true_eq]at ho
  obtain ⟨E1,c1,h1,h2,h3,h4,h5⟩:=qfj (QL st.σ d r i) (qmT n st.σ d r i ho.1) hf
  obtain ⟨E2,c2,g1,g2,g3,g4,g5⟩:=qjG os ho.2 h4
  exact ⟨E2,c2,g1.trans h1,g2.trans h2,KN.trans h3 g3,g4,y0 g5 h5⟩
end Go.Vm
namespace Go.Vm
variable [Lay]
section
variable (P:Program) (N n:Nat)
def trC:Code→AC→Option AC
 |code,.opn os hx=>match trC code hx with
  |some x'=>if (os.all fun o=>decide (n≤o.1))=true then some (.opn os x')else none
  |none=>none
 |code,.opd os hx=>match trC code hx with
  |some x'=>if (os.all fun o=>decide (n≤o.1))=true then some (.opd os x')else none
  |none=>none
 |code,.nam ls ks hx=>match trC code hx with
  |some x'=>if n≤CN then some (.nam ls ks x')else none
  |none=>none
 |code,.keep ls hx=>match trC code hx with
  |some x'=>some (.keep ls x')
  |none=>none
 | .skip,.skip=>some .skip
 | .ret,.ret=>some .ret
 | .exit id,.exit _=>some (.exit id)
 | .region _ ops false,.reg hs=>(xW P N n ops ops.toList hs).map .reg
 | .region _ ops true,.dreg plan hs=>match xW P N n ops ops.toList hs with
   |some is=>if dOk P n ops plan hs is then some (.dreg plan is)else none
   |none=>none
 | .seq x y,.seq hx hy=>match trC x hx,trC y hy with
   |some x',some y'=>some (.seq x' y')
   |_,_=>none
 | .cond c x y,.cond hc hx hy=>match trO c hc,trC x hx,trC y hy with
   |some c',some x',some y'=>some (.cond c' x' y')
   |_,_,_=>none
 | .block id x,.block _ hx=>match trC x hx with
   |some x'=>some (.block id x')
   |none=>none
 | .loop x,.loop ls ks hx=>match trC x hx with
   |some x'=>if n≤CN then some (.loop ls ks x')else none
   |none=>none
 |_,_=>none
end
section
variable {P:Program} {N n:Nat} {E:Env} {c:Cnt} {st st':St} {a:Act} {call:Call}
theorem Adv.seq {E E' E'':Env} {c c' c'':Cnt} (h:Adv E c E' c') (h':Adv E' c' E'' c''):Adv E c E'' c'':=h.trans h'
theorem qgV(hC:jt P call) (ops:Array Oper) {Q:Exit→Act→World→Prop}: ∀ (os:List Oper) (k:Nat) (hs is:List AI) (st:St) (a:Act) (E:Env) (c:Cnt),
 ops.toList.drop k=os→xW P N n ops os hs=some is→yX call is st=some st'→FRel N E st a.tmps c→(∀ a' E' c',FRel N E' st' a'.tmps c'→a'.defers=a.defers→KN n E E'→Adv E c E' c'→Q .normal a' E'.w)→
 wpOps P ops Q (List.range' k os.length) a E.w
 |[],k,hs,is,st,a,E,c,hd,ht,hr,hf,hQ=>by
  cases hs with
  |cons=>simp [xW]at ht
  |nil=>
   simp only [xW,Option.some.injEq]at ht;subst ht
   simp only [yX,Option.some.injEq]at hr;subst hr
   simp only [List.length_nil,List.range'_zero,wpOps]
   exact hQ a E c hf rfl KN.refl (Adv.refl _ _)
 |o::os,k,hs,is,st,a,E,c,hd,ht,hr,hf,hQ=>by
  cases hs with
  |nil=>simp [xW]at ht
  |cons h hs=>
   simp only [xW]at ht
   split at ht
   case h_2=>cases ht
   rename_i i is' h1 h2
   simp only [Option.some.injEq]at ht;subst ht
   simp only [yX]at hr
   split at hr
   case h_2=>cases hr
   rename_i st1 hst1
   have hk:ops[k]? =some o:=by
    have:(ops.toList.drop k)[0]? =some o:=by rw [hd];rfl
    simpa using this
   have hd':ops.toList.drop (k+1)=os:=by
    rw [← List.drop_drop,hd];rfl
   simp only [List.length_cons,List.range'_succ,wpOps,hk]
   refine KL hC h1 hst1 hf ?_
   intro y E' c' hF hkn hkp hA
   refine qgV hC ops os (k+1) hs is' st1 (a.put o.dst y) E' c' hd' h2 hr hF ?_
   intro a'' E'' c'' hF' hdf' hkn' hA'
   exact hQ a'' E'' c'' hF' (hdf'.trans (ZK _ _ _)) (hkn.trans hkn') (hA.seq hA')
def xOf:AX→Exit
 | .normal=> .normal
 | .exit id=> .exit id
 | .ret=> .ret
def ju(n N:Nat) (E:Env) (c:Cnt) (st':St) (a:Act) (x:AX):Exit→Act→World→Prop:=
 fun e a' w'=>e=xOf x∧a'.defers=a.defers∧ ∃ E' c',E'.w=w'∧FRel N E' st' a'.tmps c'∧KN n E E'∧Adv E c E' c'
theorem ju.then {E E':Env} {c c':Cnt} {a a':Act} {x:AX} {e:Exit} {a'':Act} {w:World} (h:ju n N E' c' st' a' x e a'' w) (hd:a'.defers=a.defers) (hk:KN n E E') (hA:Adv E c E' c'):
 ju n N E c st' a x e a'' w:=by
 obtain ⟨h1,h2,E'',c'',h3,h4,h5,h6⟩:=h
 exact ⟨h1,h2.trans hd,E'',c'',h3,h4,hk.trans h5,hA.seq h6⟩
theorem qef(hC:jt P call): ∀ (f:Nat),
 (∀ (code:Code) (h ac:AC) (st st':St) (x:AX),trC P N n code h=some ac→qw call f ac st=some (x,st')→
  ∀ (a:Act) (E:Env) (c:Cnt),FRel N E st a.tmps c→code.wp P (ju n N E c st' a x) a E.w)∧
 (∀ (body:Code) (ls:List Nat) (ks:List Key) (h ac:AC) (st st':St) (x:AX),n≤CN→trC P N n body h=some ac→qw call f (.loop ls ks ac) st=some (x,st')→
  ∀ (a:Act) (E:Env) (c:Cnt),FRel N E st a.tmps c→Code.rounds P body (ju n N E c st' a x) f a E.w)
 |0=>⟨fun code h ac st st' x ht hr=>by simp [qw]at hr,fun body ls ks h ac st st' x hn ht hr=>by simp [qw]at hr⟩
 |f+1=>by
  have IH:=qef hC f
  have hloop: ∀ (body:Code) (ls:List Nat) (ks:List Key) (h ac:AC) (st st':St) (x:AX),n≤CN→trC P N n body h=some ac→qw call (f+1) (.loop ls ks ac) st=some (x,st')→
   ∀ (a:Act) (E:Env) (c:Cnt),FRel N E st a.tmps c→Code.rounds P body (ju n N E c st' a x) (f+1) a E.w:=by
   intro body ls ks h ac st st' x hn ht hr a E0 c hf
   rw [rounds_succ]
   simp only [qw]at hr
   obtain ⟨E,c1,hw0,hI0,hμ0,hp,hle⟩:=qfu (tmps:=a.tmps) ls ks hf
   have hA0:Adv E0 c E c1:=jz hw0 hI0 hle
   have hk0:KN n E0 E:=fun k hk=>hμ0 k (by omega)
   rw [← hw0]
   split at hr
   ·rename_i st1 h1
    refine wp_mono (IH.1 _ _ _ _ _ _ ht h1 a E c1 hp) ?_
    rintro e a' w' ⟨rfl,hdf,E',c',rfl,hF,hk,hA⟩
    simp only [xOf,Exit.then]
    have:=IH.2 body ls ks h ac st1 st' x hn ht hr a' E' c' hF
    have hmono: ∀ (m:Nat) (a1:Act) (w1:World),Code.rounds P body (ju n N E' c' st' a' x) m a1 w1→Code.rounds P body (ju n N E0 c st' a x) m a1 w1:=by
     intro m
     induction m with
     |zero=>intro a1 w1 h;exact h.elim
     |succ m ih=>
      intro a1 w1 h
      rw [rounds_succ]at h ⊢
      refine wp_mono h ?_
      intro e a2 w2 hq
      cases e<;>simp only [Exit.then]at hq ⊢ <;>(first|exact ih _ _ hq|exact hq.then hdf (hk0.trans hk) (hA0.seq hA))
    exact hmono _ _ _ this
   ·rename_i r hnn
    have hb:=IH.1 _ _ _ _ _ _ ht hr a E c1 hp
    refine wp_mono hb ?_
    rintro e a' w' ⟨rfl,hdf,E',c',rfl,hF,hk,hA⟩
    have hx:x ≠ .normal:=by rintro rfl;exact hnn _ hr
    cases x with
    |normal=>exact absurd rfl hx
    |exit id=>exact ⟨rfl,hdf,E',c',rfl,hF,hk0.trans hk,hA0.seq hA⟩
    |ret=>exact ⟨rfl,hdf,E',c',rfl,hF,hk0.trans hk,hA0.seq hA⟩
  refine ⟨?_,hloop⟩
  intro code h ac st st' x ht hr a E c hf
  have hself:ju n N E c st a .normal .normal a E.w:=⟨rfl,rfl,E,c,rfl,hf,KN.refl,Adv.refl _ _⟩
  unfold trC at ht
  split at ht
  ·rename_i os hx
   split at ht
   case h_2=>cases ht
   rename_i x' h1
   split at ht
   case isFalse=>cases ht
   rename_i ho
   simp only [Option.some.injEq]at ht;subst ht
   simp only [qw]at hr
   obtain ⟨E1,c1,hw0,hI0,hk0,hF,hle⟩:=qfj (n:=n) os ho hf
   rw [← hw0]
   refine wp_mono (IH.1 _ _ _ _ _ _ h1 hr a E1 c1 hF) ?_
   intro e a' w' hq
   exact hq.then rfl hk0 (jz hw0 hI0 hle)
  ·rename_i os hx
   split at ht
   case h_2=>cases ht
   rename_i x' h1
   split at ht
   case isFalse=>cases ht
   rename_i ho
   simp only [Option.some.injEq]at ht;subst ht
   simp only [qw]at hr
   obtain ⟨E1,c1,hw0,hI0,hk0,hF,hle⟩:=qjG (n:=n) os ho hf
   rw [← hw0]
   refine wp_mono (IH.1 _ _ _ _ _ _ h1 hr a E1 c1 hF) ?_
   intro e a' w' hq
   exact hq.then rfl hk0 (jz hw0 hI0 hle)
  ·rename_i ls ks hx
   split at ht
   case h_2=>cases ht
   rename_i x' h1
   split at ht
   case isFalse=>cases ht
   rename_i ho
   simp only [Option.some.injEq]at ht;subst ht
   simp only [qw]at hr
   obtain ⟨E1,c1,hw0,hI0,hk0,hF,hle⟩:=qfu (tmps:=a.tmps) ls ks hf
   rw [← hw0]
   refine wp_mono (IH.1 _ _ _ _ _ _ h1 hr a E1 c1 hF) ?_
   intro e a' w' hq
   exact hq.then rfl (fun k hk=>hk0 k (by omega)) (jz hw0 hI0 hle)
  ·split at ht
   case h_2=>cases ht
   rename_i x' h1
   simp only [Option.some.injEq]at ht;subst ht
   simp only [qw]at hr
   exact IH.1 _ _ _ _ _ _ h1 hr a E c ⟨hf.sz,qf3 hf.σ _,hf.T,hf.g⟩
  ·simp only [Option.some.injEq]at ht;subst ht
   simp only [qw,Option.some.injEq,Prod.mk.injEq]at hr
   obtain ⟨rfl,rfl⟩:=hr
   exact wp_skip hself
  ·simp only [Option.some.injEq]at ht;subst ht
   simp only [qw,Option.some.injEq,Prod.mk.injEq]at hr
   obtain ⟨rfl,rfl⟩:=hr
   exact wp_ret ⟨rfl,rfl,E,c,rfl,hf,KN.refl,Adv.refl _ _⟩
  ·simp only [Option.some.injEq]at ht;subst ht
   simp only [qw,Option.some.injEq,Prod.mk.injEq]at hr
   obtain ⟨rfl,rfl⟩:=hr
   exact wp_exit ⟨rfl,rfl,E,c,rfl,hf,KN.refl,Adv.refl _ _⟩
  ·rename_i id ops hs
   rw [Option.map_eq_some_iff]at ht
   obtain ⟨is,h1,rfl⟩:=ht
   simp only [qw,Option.map_eq_some_iff,Prod.mk.injEq]at hr
   obtain ⟨st1,h2,rfl,rfl⟩:=hr
   refine wp_region ?_
   have:=qgV (Q:=ju n N E c st1 a .normal) hC ops ops.toList 0 hs is st a E c rfl h1 h2 hf ?_
   ·rw [Array.length_toList, ← List.range_eq_range']at this
    exact this
   ·intro a' E' c' hF hdf hk hA
    exact ⟨rfl,hdf,E',c',rfl,hF,hk,hA⟩
  ·rename_i id ops plan hs
   split at ht
   case h_2=>cases ht
   rename_i is h1
   split at ht
   case isFalse=>cases ht
   rename_i hk
   simp only [Option.some.injEq]at ht;subst ht
   simp only [qw]at hr
   split at hr
   case h_2=>cases hr
   rename_i st1 h2
   split at hr
   case isFalse=>cases hr
   rename_i hnd
   simp only [Option.some.injEq,Prod.mk.injEq]at hr
   obtain ⟨rfl,rfl⟩:=hr
   exact qmR hC hk h1 h2 hnd hf fun a' E' c' hF hdf hk hA=>⟨rfl,hdf,E',c',rfl,hF,hk,hA⟩
  ·rename_i cx cy hx hy
   split at ht
   case h_2=>cases ht
   rename_i x' y' h1 h2
   simp only [Option.some.injEq]at ht;subst ht
   simp only [qw]at hr
   refine wp_seq ?_
   split at hr
   ·rename_i st1 h3
    refine wp_mono (IH.1 _ _ _ _ _ _ h1 h3 a E c hf) ?_
    rintro e a' w' ⟨rfl,hdf,E',c',rfl,hF,hk,hA⟩
    simp only [xOf,Exit.then]
    exact wp_mono (IH.1 _ _ _ _ _ _ h2 hr a' E' c' hF) fun e a2 w2 hq=>hq.then hdf hk hA
   ·rename_i r hnn
    refine wp_mono (IH.1 _ _ _ _ _ _ h1 hr a E c hf) ?_
    intro e a' w' hq
    have hx:x ≠ .normal:=by rintro rfl;exact hnn _ hr
    have he:=hq.1
    cases x with
    |normal=>exact absurd rfl hx
    |exit id=>subst he;exact hq
    |ret=>subst he;exact hq
  ·rename_i cc cx cy hc hx hy
   split at ht
   case h_2=>cases ht
   rename_i c' x' y' h0 h1 h2
   simp only [Option.some.injEq]at ht;subst ht
   simp only [qw]at hr
   split at hr
   ·rename_i hb
    have:=qJ hf.σ h0 hb
    simp only [Rel]at this
    exact wp_cond_true this.1 (IH.1 _ _ _ _ _ _ h1 hr a E c hf)
   ·rename_i hb
    have:=qJ hf.σ h0 hb
    simp only [Rel]at this
    exact wp_cond_false this.1 (IH.1 _ _ _ _ _ _ h2 hr a E c hf)
   ·cases hr
  ·rename_i id cx id' hx
   split at ht
   case h_2=>cases ht
   rename_i x' h1
   simp only [Option.some.injEq]at ht;subst ht
   simp only [qw]at hr
   refine wp_block ?_
   split at hr
   ·rename_i id2 st1 h3
    refine wp_mono (IH.1 _ _ _ _ _ _ h1 h3 a E c hf) ?_
    rintro e a' w' ⟨rfl,hdf,E',c',rfl,hF,hk,hA⟩
    simp only [xOf,Exit.inBlock]
    split at hr
    ·rename_i he
     simp only [Option.some.injEq,Prod.mk.injEq]at hr
     obtain ⟨rfl,rfl⟩:=hr
     rw [if_pos he]
     exact ⟨rfl,hdf,E',c',rfl,hF,hk,hA⟩
    ·rename_i he
     simp only [Option.some.injEq,Prod.mk.injEq]at hr
     obtain ⟨rfl,rfl⟩:=hr
     rw [if_neg he]
     exact ⟨rfl,hdf,E',c',rfl,hF,hk,hA⟩
   ·rename_i r hnn
    refine wp_mono (IH.1 _ _ _ _ _ _ h1 hr a E c hf) ?_
    intro e a' w' hq
    have he:=hq.1
    cases x with
    |normal=>subst he;exact hq
    |exit id=>exact absurd hr (hnn _ _)
    |ret=>subst he;exact hq
  ·rename_i cx ls ks hx
   split at ht
   case h_2=>cases ht
   rename_i x' h1
   split at ht
   case isFalse=>cases ht
   rename_i hn
   simp only [Option.some.injEq]at ht;subst ht
   exact wp_loop_rounds (f+1) (hloop cx ls ks hx x' st st' x hn h1 hr a E c hf)
  ·cases ht
end
end Go.Vm
namespace Go.Vm
variable [Lay]
def kw(P:Program):List ResultVar→Option (List AR)
 |[]=>some []
 | .tmp t::r=>(kw P r).map (.tmp t:: ·)
 | .cell a t::r=>km (jo P t) (kw P r) fun q rs=> .cell a q.1 q.2::rs
def qr(P:Program) (fn:Func) (h:AF):Option AF:=
 match fn.body with
 |some code=>match trC P fn.ntmps h.nargs code h.body,kw P fn.results.toList with
  |some b,some rs=>if decide (h.nargs≤fn.ntmps)&&fn.name != "runtime.NumGoroutine" then some {nargs:=h.nargs,ntmps:=fn.ntmps,res:=rs,body:=b} else none
  |_,_=>none
 |none=>none
def QG(P:Program) (prog:Nat→Option AE):Prop:=
 ∀ f e,prog f=some e→match e with
  | .fn af=> ∃ fn h,P.funcs[f]? =some fn∧qr P fn h=some af
  | .prim g=> ∀ args r outs,g args=some (r,outs)→Je P f args r outs
section
variable {P:Program} {N n:Nat} {E:Env} {c:Cnt} {st st':St} {a:Act} {call:Call}
theorem qjI: ∀ (xs:List V) (i:Nat) (E:Env) (vs:List Value) (c:Cnt),(∀ k:Key,i≤k.1→E.μ k=none)→qk E xs vs c→
 ∃ E' c',E'.w=E.w∧E'.I=E.I∧(∀ k l,E.μ k=some l→E'.μ k=some l)∧(∀ k:Key,i+xs.length≤k.1→E'.μ k=none)∧
  qk E' (za i xs).1 vs c0∧qo E' (za i xs).2 c'∧cle c' c
 |[],i,E,vs,c,hf,h=>by
  simp only [qk]at h
  exact ⟨E,c0,rfl,rfl,fun _ _ h=>h,fun k hk=>hf k (by simpa using hk),by simp only [za,qk];exact ⟨h.1,trivial⟩,rfl,fun _=>Nat.zero_le _⟩
 |x::xs,i,E,vs,c,hf,h=>by
  simp only [qk]at h
  obtain ⟨y,t,c1,c2,rfl,h1,h2,rfl⟩:=h
  obtain ⟨E1,d1,j',hn,hr1,ht1,hl1⟩:=qfi (d:=i) (fun j=>hf (i,j) (Nat.le_refl _)) h1
  obtain ⟨E2,d2,hw2,hI2,hμ2,hfree2,hr2,ht2,hl2⟩:=qjI xs (i+1) E1 t c2 (fun k hk=>by rw [hn.hout k (by omega)];exact hf k (by omega)) (y8 h2 (hn.mono _))
  have hm: ∀ c,Mono E1 E2 c:=fun c=>⟨fun τ b hb=>⟨by rw [hI2];exact hb,by rw [hw2]⟩,fun b _=>by rw [hw2],hμ2⟩
  refine ⟨E2,qh d1 d2,hw2.trans hn.hw,hI2.trans hn.hI,fun k l hk=>hμ2 k l (hn.hμ k l hk),fun k hk=>hfree2 k (by simp only [List.length_cons]at hk;omega), ?_, ?_,x7 hl1 hl2⟩
  ·simp only [za,qk]
   exact ⟨y,t,c0,c0,rfl,yF hr1 (hm _),hr2,rfl⟩
  ·simp only [za]
   exact xD (z4 ht1 (hm _)) ht2
theorem qh2: ∀ (xs:List V) (i t:Nat) (x:V),qC (xa i xs) t=some x→ ∃ j,t=i+j∧xs[j]? =some x
 |[],i,t,x,h=>by simp [xa,qC]at h
 |y::ys,i,t,x,h=>by
  simp only [xa,qC]at h
  split at h
  ·rename_i he;subst he
   exact ⟨0,rfl,by simpa using h⟩
  ·obtain ⟨j,h1,h2⟩:=qh2 ys (i+1) t x h
   exact ⟨j+1,by omega,by simpa using h2⟩
theorem qf4 {xs:List V} {vs:List Value} {rest:Array Value} (h:qk E xs vs c0):zz E (xa 0 xs) (vs.toArray++rest):=by
 intro t x hx
 obtain ⟨j,rfl,hj⟩:=qh2 xs 0 t x hx
 obtain ⟨y,c1,c2,hy,hr,hc,-⟩:=qcW h hj
 have h0:c1=c0:=funext fun b=>by have:=congrFun hc b;simp only [c0,qh]at this ⊢;omega
 subst h0
 have hlt:j < vs.length:=(List.getElem?_eq_some_iff.1 hy).1
 refine ⟨y, ?_,hr⟩
 rw [Nat.zero_add,Array.getElem?_append_left (by simpa using hlt)]
 simpa using hy
theorem qsY {r:ResultVar} {x:V} {T T':Mem} {tmps:Array Value} {ar:AR} {cT:Cnt} (hr:kw P [r]=some [ar]) (hσ:zz E st.σ tmps) (hT:qo E T cT) (h:Qq {σ:=st.σ,T:=T} ar=some (x,T')):
 ∃ v d1 d2,((match r with
  | .tmp t=>pure (tmps.getD t undef)
  | .cell a t=>do loadVar t (← asAddr (tmps.getD a undef))):Sem Value).run P E.w= .ok v E.w∧Rel E x v d1∧qo E T' d2∧cle (qh d1 d2) cT:=by
 cases r with
 |tmp t=>
  simp only [kw,Option.map_some,Option.some.injEq,List.cons.injEq,and_true]at hr
  subst hr
  simp only [Qq,Option.map_eq_some_iff,Prod.mk.injEq]at h
  obtain ⟨y,hy,rfl,rfl⟩:=h
  obtain ⟨v,hv,hrv⟩:=hσ _ _ hy
  refine ⟨v,c0,cT, ?_,hrv,hT,by rw [zc];exact qS _⟩
  simp only [Sem.run_pure,Array.getD_eq_getD_getElem?,hv,Option.getD_some]
 |cell a t=>
  simp only [kw]at hr
  obtain ⟨q,rs,hq,hrs,he⟩:=Qm hr
  simp only [Option.some.injEq]at hrs
  subst hrs
  simp only [List.cons.injEq,and_true]at he
  subst he
  simp only [Qq]at h
  split at h
  case h_2=>cases h
  rename_i k hk
  split at h
  case h_2=>cases h
  rename_i e0 xe hg
  rw [Option.bind_eq_some_iff]at h
  obtain ⟨y,hy,h⟩:=h
  split at h
  case isFalse=>cases h
  rename_i hlen
  simp only [Option.some.injEq,Prod.mk.injEq]at h
  obtain ⟨rfl,rfl⟩:=h
  obtain ⟨v,hv,hrv⟩:=hσ _ _ hk
  simp only [Rel]at hrv
  obtain ⟨-,b',base',e',kh,hμ',rfl⟩:=hrv
  obtain ⟨co,cr,hob,hrest,rfl⟩:=yn hT hg
  rcases hob with ⟨_,_,_,_,hn1,-⟩|⟨-,hn1,-⟩|⟨b,base,lim,cells,ty,fz,ce,hμ,hw,hl,hf,hs,hr',rfl⟩
  ·rw [hn1]at hμ';cases hμ'
  ·cases hn1
  rw [hμ]at hμ';cases hμ'
  simp only [List.length_singleton,Nat.one_mul]at hs hr'
  obtain ⟨u,hu,hus,hul,huo,hR⟩:=qa4 hr'
  obtain ⟨vz,f0,f1,f2,hz,hzl,hzle,hzc,hz0,hz2,rfl,hzT,hzF⟩:=qi6 hR (by rw [hul,hus]) huo hy
  have haddr:tmps.getD a undef= .pointer (some ⟨b',base',none⟩):=by
   simp only [Array.getD_eq_getD_getElem?,hv,Option.getD_some]
   simp
  unfold jo at hq
  split at hq
  case h_2=>cases hq
  rename_i dd i hud hi
  simp only [Option.some.injEq]at hq;subst hq
  refine ⟨vz,f1,cr, ?_,hz,hrest,fun z=>by simp only [qh];omega⟩
  simp only [haddr,asAddr,Sem.run_bind,Sem.run_pure,Result.andThen_ok]
  have hrun:=qfZ (P:=P) (w:=E.w) (t:=t) (o:=base') hud hi hw
  cases hag:Zw dd with
  |true=>
   obtain ⟨q1,q2⟩:=hzT hag
   have hsz:u.cells.size=i.size:=by omega
   rw [q2]
   have e2:u.cells.toList.take i.size=seg cells base' i.size:=by
    rw [← hu,qlb];congr 1;omega
   simp only [List.drop_zero,e2]
   exact hrun.1 hag (by omega)
  |false=>
   have q1:=hzF hag
   have h8:(seg cells base' e0)[0]? =some vz:=by rw [hu];simpa using q1
   exact hrun.2 hag vz (by simpa using ZN h8)
theorem qfU {tmps:Array Value} (hσ:zz E st.σ tmps): ∀ {rs:List ResultVar} {ars:List AR} {T T':Mem} {xs:List V} {cT:Cnt},kw P rs=some ars→qo E T cT→kq st.σ T ars=some (xs,T')→
 ∃ vs d1 d2,(rs.mapM fun
  | .tmp t=>pure (tmps.getD t undef)
  | .cell a t=>do loadVar t (← asAddr (tmps.getD a undef)):Sem (List Value)).run P E.w= .ok vs E.w∧qk E xs vs d1∧qo E T' d2∧cle (qh d1 d2) cT
 |[],ars,T,T',xs,cT,hr,hT,h=>by
  simp only [kw,Option.some.injEq]at hr;subst hr
  simp only [kq,Option.some.injEq,Prod.mk.injEq]at h
  obtain ⟨rfl,rfl⟩:=h
  exact ⟨[],c0,cT,by simp,by simp [qk],hT,by rw [zc];exact qS _⟩
 |r::rs,ars,T,T',xs,cT,hr,hT,h=>by
  have hsplit: ∃ ar ars',ars=ar::ars'∧kw P [r]=some [ar]∧kw P rs=some ars':=by
   cases r with
   |tmp t=>
    simp only [kw,Option.map_eq_some_iff]at hr
    obtain ⟨q,h1,rfl⟩:=hr
    exact ⟨_,_,rfl,rfl,h1⟩
   |cell a t=>
    simp only [kw]at hr
    obtain ⟨q,qs,h1,h2,rfl⟩:=Qm hr
    exact ⟨_,_,rfl,by simp [kw,km,h1],h2⟩
  obtain ⟨ar,ars',rfl,h1,h2⟩:=hsplit
  simp only [kq]at h
  split at h
  case h_2=>cases h
  rename_i x T1 hx
  split at h
  case h_2=>cases h
  rename_i xs' T2 hxs
  simp only [Option.some.injEq,Prod.mk.injEq]at h
  obtain ⟨rfl,rfl⟩:=h
  obtain ⟨v,d1,d2,g1,g2,g3,g4⟩:=qsY h1 hσ hT hx
  obtain ⟨vs,e1,e2,k1,k2,k3,k4⟩:=qfU hσ h2 g3 hxs
  refine ⟨v::vs,qh d1 e1,e2, ?_, ?_,k3,fun b=>by have:=g4 b;have:=k4 b;simp only [qh]at*;omega⟩
  ·rw [List.mapM_cons,Sem.run_bind,g1,Result.andThen_ok,Sem.run_bind,k1,Result.andThen_ok]
   rfl
  ·simp only [qk];exact ⟨v,vs,d1,e1,rfl,g2,k2,rfl⟩
theorem qjF {xs:List V} {vs:List Value} (h:qk E xs vs c):Rel E (je xs) (if h:vs.toArray.size=1 then vs.toArray[0]else .tuple vs.toArray) c:=by
 have hl:=yU h
 match xs,vs,hl,h with
 |[x],[v],_,h=>
  obtain ⟨y,h1,h2⟩:=qa2 h
  simp only [List.cons.injEq,and_true]at h1;subst h1
  simpa [je]using h2
 |[],[],_,h=>
  simp only [qk]at h
  simp [je,Rel,qk,h.2]
 |x::y::xs,v::u::vs,_,h=>
  simp only [je]
  rw [dif_neg (by simp)]
  simp only [Rel]
  exact ⟨_,rfl,by simpa using h⟩
theorem qf0 {g:ResultVar→Sem Value} {l:Array ResultVar} {w:World} {vs:List Value} (h:(l.toList.mapM g).run P w= .ok vs w):(l.mapM g).run P w= .ok vs.toArray w:=by
 rw [Array.mapM_eq_mapM_toList]
 simp only [map_eq_pure_bind,Sem.run_bind,h,Result.andThen_ok,Sem.run_pure]
theorem Yu {prog:Nat→Option AE} (hK:QG P prog): ∀ n,jt P (qV prog n)
 |0=>fun f xs r outs h=>by simp [qV]at h
 |n+1=>by
  have IH:=Yu hK n
  intro f xs r outs h
  simp only [qV]at h
  split at h
  ·rename_i g hg
   have:=hK f _ hg
   exact this xs r outs h
  ·rename_i af haf
   obtain ⟨fn,hh,hfn,htr⟩:=hK f _ haf
   split at h
   case isFalse=>cases h
   rename_i hlen
   unfold qr at htr
   split at htr
   case h_2=>cases htr
   rename_i code hcode
   split at htr
   case h_2=>cases htr
   rename_i b rs hb hrs
   split at htr
   case isFalse=>cases htr
   rename_i hcond
   simp only [Bool.and_eq_true,decide_eq_true_eq,bne_iff_ne,ne_eq]at hcond
   obtain ⟨hnt,hname⟩:=hcond
   simp only [Option.some.injEq]at htr;subst htr
   simp only at hlen h
   intro E vs c hxs hg
   have hcf:(callFunc f vs.toArray).run P E.w= .ok (.enter f vs.toArray) E.w:=by
    have hne:(fn.name== "runtime.NumGoroutine")=false:=by simpa using hname
    simp [callFunc,hfn,hname,hcode]
   rw [hcf]
   refine ⟨rfl, ?_⟩
   obtain ⟨E0,c1,hw0,hI0,-,hfree,hxs0,hT0,hle0⟩:=qjI xs 0 E.cl vs c (fun k _=>rfl) hxs
   rw [Nat.zero_add]at hfree
   have hvl:=yU hxs
   have hg0:Good E0 c1:=QM (E:=E) hw0 hI0 hle0 hg
   have hsz:(vs.toArray++Array.replicate (fn.ntmps - vs.toArray.size) undef).size=fn.ntmps:=by
    simp only [Array.size_append,List.size_toArray,Array.size_replicate];omega
   have hF:FRel fn.ntmps E0 {σ:=xa 0 (za 0 xs).1,T:=(za 0 xs).2} (vs.toArray++Array.replicate (fn.ntmps - vs.toArray.size) undef) c1:=
    ⟨hsz,qf4 hxs0,hT0,hg0⟩
   have hA0:Adv E c E0 c1:=jz hw0 hI0 hle0
   have hfin: ∀ (x:AX) (st:St),(x= .normal∨x= .ret)→qw (qV prog n) n b {σ:=xa 0 (za 0 xs).1,T:=(za 0 xs).2}=some (x,st)→
    qt {nargs:=hh.nargs,ntmps:=fn.ntmps,res:=rs,body:=b} (za 0 xs).1 st=some (r,outs)→
    Calls P f vs.toArray E.w (fun e w''=> ∃ y,e= .returned y∧ ∃ E' cr co,E'.w=w''∧Rel E'.cl r y cr∧qk E'.cl outs vs co∧Good E' (qh cr co)∧Adv E c E' (qh cr co)):=by
    intro x st hx he hfi
    refine calls_of_wp hfn hcode ?_
    rw [show E.w=E0.w from hw0.symm]
    refine wp_mono ((qef IH n).1 code hh.body b _ st x hb he _ E0 c1 hF) ?_
    rintro e a' w' ⟨rfl,hdf,E',c',rfl,hF',hkn,hA⟩
    simp only [qt]at hfi
    split at hfi
    case h_2=>cases hfi
    rename_i vals T' hres
    simp only [Option.some.injEq,Prod.mk.injEq]at hfi
    obtain ⟨rfl,rfl⟩:=hfi
    obtain ⟨ws,d1,d2,k1,k2,k3,k4⟩:=qfU (P:=P) hF'.σ hrs hF'.T hres
    have hres':(results fn a'.tmps).run P E'.w= .ok (if h:ws.toArray.size=1 then ws.toArray[0]else .tuple ws.toArray) E'.w:=by
     unfold results
     rw [Sem.run_bind]
     refine Eq.trans (congrArg (fun r=>Result.andThen r _) (qf0 (l:=fn.results) k1)) ?_
     rfl
    obtain ⟨e1,e2,g1,g2,g3,-⟩:=Yz 30 E' T' _ _ d2 d1 k3 (qjF k2)
    have hargs:qk E' (za 0 xs).1 vs c0:=by
     refine y8 hxs0 ⟨fun τ bb hb=>⟨hA.sub τ bb hb,hA.frame bb (hg0.imm τ bb hb).2 (hg0.imm τ bb hb).1⟩,fun bb hb=>absurd rfl hb,fun k l hk=> ?_⟩
     by_cases hkk:k.1 < hh.nargs
     ·rw [hkn k hkk];exact hk
     ·rw [hfree k (by omega)]at hk;cases hk
    obtain ⟨e3,e4,g4,g5,g6⟩:=YN (Yz 30) g1 hargs
    have hle:cle (qh e2 e4) c':=fun bb=>by
     have:=k4 bb;have:=g3 bb;have:=g6 bb;simp only [qh,c0]at*;omega
    have hpost:a'.defers=[]∧ ∃ v,(results fn a'.tmps).run P E'.w= .ok v E'.w∧(∃ y,Ending.returned v= .returned y∧ ∃ E'' cr co,E''.w=E'.w∧Rel E''.cl (qx 30 T' (je vals)).1 y cr∧
     qk E''.cl (qA (qx 30) (qx 30 T' (je vals)).2 (za 0 xs).1).1 vs co∧Good E'' (qh cr co)∧Adv E c E'' (qh cr co)):=
     ⟨hdf,_,hres',_,rfl,E',e2,e4,rfl,g2,g5,hF'.g.le hle,(hA0.trans hA).le hle⟩
    rcases hx with rfl|rfl<;>exact hpost
   split at h
   ·rename_i st he
    exact hfin .normal st (.inl rfl) he h
   ·rename_i st he
    exact hfin .ret st (.inr rfl) he h
   ·cases h
  ·cases h
end
end Go.Vm
namespace Go.Vm
section lim
variable {α:Type}
open Classical in
noncomputable def kh(f:Nat→Option α):Option α:=if h: ∃ n,(f n).isSome then f h.choose else none
def qgt(f:Nat→Option α):Prop:= ∀ n m r,n≤m→f n=some r→f m=some r
theorem qep {f:Nat→Option α} (h: ∀ n r,f n=some r→f (n+1)=some r):qgt f:=by
 intro n m r hnm
 induction hnm with
 |refl=>exact id
 |step _ ih=>exact fun h'=>h _ _ (ih h')
theorem qiP {f:Nat→Option α} (hc:qgt f) {r:α}:kh f=some r↔ ∃ n,f n=some r:=by
 unfold kh
 constructor
 ·intro h
  split at h
  ·exact ⟨_,h⟩
  ·cases h
 ·rintro ⟨n,hn⟩
  have hex: ∃ n,(f n).isSome:=⟨n,by simp [hn]⟩
  rw [dif_pos hex]
  have hs:=hex.choose_spec
  obtain ⟨r',hr'⟩:=Option.isSome_iff_exists.1 hs
  have h1:=hc _ _ _ (Nat.le_max_left n hex.choose) hn
  have h2:=hc _ _ _ (Nat.le_max_right n hex.choose) hr'
  rw [h1]at h2
  rw [hr']
  exact h2.symm
theorem kY {x y:Option α} (h: ∀ r,x=some r↔y=some r):x=y:=by
 cases x with
 |none=>cases y with
  |none=>rfl
  |some b=>exact absurd ((h b).2 rfl) (by simp)
 |some a=>exact ((h a).1 rfl).symm
end lim
def CLe(c c':Call):Prop:= ∀ f xs r,c f xs=some r→c' f xs=some r
section
variable {c c':Call} {st st':St}
theorem qmP(h:CLe c c') {d:Option Nat} {g:Nat} {xs:List V} {m:Md} (hr:x9 c d g xs m st=some st'):x9 c' d g xs m st=some st':=by
 unfold x9 at hr ⊢
 cases m with
 |ro fz=>
  simp only at hr ⊢
  cases he:c g (jn st.T xs)with
  |none=>rw [he]at hr;cases hr
  |some r=>rw [he]at hr;rw [h _ _ _ he];exact hr
 |io fz=>
  simp only at hr ⊢
  cases he:c g (qA (qx 30) st.T xs).1 with
  |none=>rw [he]at hr;cases hr
  |some r=>rw [he]at hr;rw [h _ _ _ he];exact hr
theorem qgX(h:CLe c c') {i:AI} (hr:qi c st i=some st'):qi c' st i=some st':=by
 cases i
 case call d f args m=>
  simp only [qi]at hr ⊢
  split at hr
  ·split at hr
   ·exact qmP h hr
   ·cases hr
  ·cases hr
 all_goals exact hr
theorem qeM(h:CLe c c') {i:AI} (hr:qm c st i=some st'):qm c' st i=some st':=by
 cases i
 case gd j want d i=>
  simp only [qm]at hr ⊢
  split at hr
  ·split at hr
   ·rename_i hb;rw [if_pos hb];exact qgX h hr
   ·rename_i hb;rw [if_neg hb];exact hr
  ·exact hr
  ·cases hr
 all_goals (simp only [qm]at hr ⊢;exact qgX h hr)
theorem qaq(h:CLe c c'): ∀ {is:List AI} {st:St},yX c is st=some st'→yX c' is st=some st'
 |[],_,hr=>hr
 |i::is,st,hr=>by
  simp only [yX]at hr ⊢
  cases he:qm c st i with
  |none=>rw [he]at hr;cases hr
  |some s=>rw [he]at hr;rw [qeM h he];exact qaq h hr
theorem qly(h:CLe c c') {p:Dp} {i:AI} (hr:xC c p i st=some st'):xC c' p i st=some st':=by
 unfold xC at hr ⊢
 cases he:qm c {σ:=zu st.σ (qQ i),T:=xy st.T p.ks} i with
 |none=>rw [he]at hr;cases hr
 |some s=>rw [he]at hr;rw [qeM h he];exact hr
theorem qap(h:CLe c c'): ∀ {ps:List Dp} {is:List AI} {st:St},zJ c ps is st=some st'→zJ c' ps is st=some st'
 |[],[],_,hr=>hr
 |[],_::_,_,hr=>by simp [zJ]at hr
 |_::_,[],_,hr=>by simp [zJ]at hr
 |p::ps,i::is,st,hr=>by
  simp only [zJ]at hr ⊢
  cases he:xC c p i st with
  |none=>rw [he]at hr;cases hr
  |some s=>rw [he]at hr;rw [qly h he];exact qap h hr
theorem zI(h:CLe c c'): ∀ (n m:Nat) (code:AC) (st:St) (r:AX × St),n≤m→qw c n code st=some r→qw c' m code st=some r
 |0,_,_,_,_,_,hr=>by simp [qw]at hr
 |n+1,0,_,_,_,hle,_=>by omega
 |n+1,m+1,code,st,r,hle,hr=>by
  have hle':n≤m:=by omega
  have IH:=fun code st r=>zI h n m code st r hle'
  cases code with
  |skip=>simpa only [qw]using hr
  |ret=>simpa only [qw]using hr
  |exit id=>simpa only [qw]using hr
  |reg is=>
   simp only [qw,Option.map_eq_some_iff]at hr ⊢
   obtain ⟨s,hs,rfl⟩:=hr
   exact ⟨s,qaq h hs,rfl⟩
  |dreg plan is=>
   simp only [qw]at hr ⊢
   cases he:zJ c plan is (xE (zS plan is) st)with
   |none=>rw [he]at hr;cases hr
   |some s=>rw [he]at hr;rw [qap h he];exact hr
  |seq x y=>
   simp only [qw]at hr ⊢
   cases he:qw c n x st with
   |none=>rw [he]at hr;cases hr
   |some s=>
    rw [he]at hr;rw [IH _ _ _ he]
    obtain ⟨e,s⟩:=s
    cases e<;>first|exact IH _ _ _ hr|exact hr
  |cond a x y=>
   simp only [qw]at hr ⊢
   split at hr
   ·exact IH _ _ _ hr
   ·exact IH _ _ _ hr
   ·cases hr
  |block id x=>
   simp only [qw]at hr ⊢
   cases he:qw c n x st with
   |none=>rw [he]at hr;cases hr
   |some s=>rw [he]at hr;rw [IH _ _ _ he];exact hr
  |opn os x=>
   simp only [qw]at hr ⊢
   exact IH _ _ _ hr
  |opd os x=>
   simp only [qw]at hr ⊢
   exact IH _ _ _ hr
  |nam ls ks x=>
   simp only [qw]at hr ⊢
   exact IH _ _ _ hr
  |keep ls x=>
   simp only [qw]at hr ⊢
   exact IH _ _ _ hr
  |loop ls ks x=>
   simp only [qw]at hr ⊢
   cases he:qw c n x (xR ls ks st)with
   |none=>rw [he]at hr;cases hr
   |some s=>
    rw [he]at hr;rw [IH _ _ _ he]
    obtain ⟨e,s⟩:=s
    cases e<;>first|exact IH _ _ _ hr|exact hr
end
theorem ky(prog:Nat→Option AE): ∀ (n:Nat),CLe (qV prog n) (qV prog (n+1))
 |0=>fun f xs r h=>by simp [qV]at h
 |n+1=>by
  have IH:=ky prog n
  intro f xs r h
  rw [qV]at h ⊢
  split at h
  ·rename_i g hg;exact h
  ·rename_i af haf
   split at h
   case isFalse=>cases h
   rename_i hlen
   rw [if_pos hlen]
   cases he:qw (qV prog n) n af.body {σ:=xa 0 (za 0 xs).1,T:=(za 0 xs).2} with
   |none=>rw [he]at h;cases h
   |some s=>rw [he]at h;rw [zI IH n (n+1) _ _ _ (by omega) he];exact h
  ·cases h
theorem j7(prog:Nat→Option AE) {n m:Nat} (h:n≤m):CLe (qV prog n) (qV prog m):=by
 intro f xs r
 exact qep (f:=fun n=>qV prog n f xs) (fun n r=>ky prog n f xs r) n m r h
section
variable (prog:Nat→Option AE)
noncomputable def cw:Call:=fun f xs=>kh fun n=>qV prog n f xs
noncomputable def xw(c:AC) (st:St):Option (AX × St):=kh fun n=>qw (qV prog n) n c st
variable {prog}
theorem ZC {f:Nat} {xs:List V} {r:V × List V}:cw prog f xs=some r↔ ∃ n,qV prog n f xs=some r:=
 qiP (qep fun n r=>ky prog n f xs r)
theorem zr {c:AC} {st:St} {r:AX × St}:xw prog c st=some r↔ ∃ n,qw (qV prog n) n c st=some r:=
 qiP (qep fun n r=>zI (ky prog n) n (n+1) c st r (by omega))
theorem qgJ(n:Nat):CLe (qV prog n) (cw prog):=fun _ _ _ h=>ZC.2 ⟨n,h⟩
variable {st st':St}
theorem qmO {d:Option Nat} {g:Nat} {xs:List V} {m:Md} (h:x9 (cw prog) d g xs m st=some st'): ∃ n,x9 (qV prog n) d g xs m st=some st':=by
 unfold x9 at h
 cases m with
 |ro fz=>
  simp only at h
  cases he:cw prog g (jn st.T xs)with
  |none=>rw [he]at h;cases h
  |some r=>rw [he]at h;obtain ⟨n,hn⟩:=ZC.1 he;exact ⟨n,by unfold x9;simp only [hn];exact h⟩
 |io fz=>
  simp only at h
  cases he:cw prog g (qA (qx 30) st.T xs).1 with
  |none=>rw [he]at h;cases h
  |some r=>rw [he]at h;obtain ⟨n,hn⟩:=ZC.1 he;exact ⟨n,by unfold x9;simp only [hn];exact h⟩
theorem qgW {i:AI} (h:qi (cw prog) st i=some st'): ∃ n,qi (qV prog n) st i=some st':=by
 cases i
 case call d f args m=>
  simp only [qi]at h ⊢
  split at h
  ·rename_i f' hf
   split at h
   ·rename_i hc ha
    obtain ⟨n,hn⟩:=qmO h
    exact ⟨n,by rw [hn]⟩
   ·cases h
  ·cases h
 all_goals exact ⟨0,h⟩
theorem qh4 {i:AI} (h:qm (cw prog) st i=some st'): ∃ n,qm (qV prog n) st i=some st':=by
 cases i
 case gd j want d i=>
  simp only [qm]at h ⊢
  split at h
  ·split at h
   ·rename_i hb;obtain ⟨n,hn⟩:=qgW h;exact ⟨n,by rw [if_pos hb];exact hn⟩
   ·rename_i hb;exact ⟨0,by rw [if_neg hb];exact h⟩
  ·exact ⟨0,h⟩
  ·cases h
 all_goals (simp only [qm]at h ⊢;exact qgW h)
theorem qgU: ∀ {is:List AI} {st:St},yX (cw prog) is st=some st'→ ∃ n,yX (qV prog n) is st=some st'
 |[],_,h=>⟨0,h⟩
 |i::is,st,h=>by
  simp only [yX]at h ⊢
  cases he:qm (cw prog) st i with
  |none=>rw [he]at h;cases h
  |some s=>
   rw [he]at h
   obtain ⟨n,hn⟩:=qh4 he
   obtain ⟨m,hm⟩:=qgU h
   refine ⟨max n m, ?_⟩
   rw [qeM (j7 prog (Nat.le_max_left n m)) hn]
   exact qaq (j7 prog (Nat.le_max_right n m)) hm
theorem qux {p:Dp} {i:AI} (h:xC (cw prog) p i st=some st'): ∃ n,xC (qV prog n) p i st=some st':=by
 unfold xC at h
 cases he:qm (cw prog) {σ:=zu st.σ (qQ i),T:=xy st.T p.ks} i with
 |none=>rw [he]at h;cases h
 |some s=>
  rw [he]at h
  obtain ⟨n,hn⟩:=qh4 he
  exact ⟨n,by unfold xC;rw [hn];exact h⟩
theorem qgS: ∀ {ps:List Dp} {is:List AI} {st:St},zJ (cw prog) ps is st=some st'→ ∃ n,zJ (qV prog n) ps is st=some st'
 |[],[],_,h=>⟨0,h⟩
 |[],_::_,_,h=>by simp [zJ]at h
 |_::_,[],_,h=>by simp [zJ]at h
 |p::ps,i::is,st,h=>by
  simp only [zJ]at h ⊢
  cases he:xC (cw prog) p i st with
  |none=>rw [he]at h;cases h
  |some s=>
   rw [he]at h
   obtain ⟨n,hn⟩:=qux he
   obtain ⟨m,hm⟩:=qgS h
   refine ⟨max n m, ?_⟩
   rw [qly (j7 prog (Nat.le_max_left n m)) hn]
   exact qap (j7 prog (Nat.le_max_right n m)) hm
theorem qlV:xw prog .skip st=some (.normal,st):=zr.2 ⟨1,rfl⟩
theorem qvl:xw prog .ret st=some (.ret,st):=zr.2 ⟨1,rfl⟩
theorem qvf {id:Nat}:xw prog (.exit id) st=some (.exit id,st):=zr.2 ⟨1,rfl⟩
theorem qvk {is:List AI}:xw prog (.reg is) st=(yX (cw prog) is st).map fun st=>(.normal,st):=by
 apply kY
 intro r
 rw [zr]
 constructor
 ·rintro ⟨n,h⟩
  cases n with
  |zero=>simp [qw]at h
  |succ n=>
   simp only [qw,Option.map_eq_some_iff]at h ⊢
   obtain ⟨s,hs,rfl⟩:=h
   exact ⟨s,qaq (qgJ _) hs,rfl⟩
 ·intro h
  simp only [Option.map_eq_some_iff]at h
  obtain ⟨s,hs,rfl⟩:=h
  obtain ⟨n,hn⟩:=qgU hs
  refine ⟨n+1, ?_⟩
  simp only [qw,Option.map_eq_some_iff]
  exact ⟨s,qaq (ky prog n) hn,rfl⟩
theorem qve {plan:List Dp} {is:List AI}:xw prog (.dreg plan is) st=match zJ (cw prog) plan is (xE (zS plan is) st)with
 |some st=>if ZH st.T then some (.normal,st)else none
 |none=>none:=by
 apply kY
 intro r
 rw [zr]
 constructor
 ·rintro ⟨n,h⟩
  cases n with
  |zero=>simp [qw]at h
  |succ n=>
   simp only [qw]at h
   cases he:zJ (qV prog (n+1)) plan is (xE (zS plan is) st)with
   |none=>rw [he]at h;cases h
   |some s=>rw [he]at h;rw [qap (qgJ _) he];exact h
 ·intro h
  cases he:zJ (cw prog) plan is (xE (zS plan is) st)with
  |none=>rw [he]at h;cases h
  |some s=>
   rw [he]at h
   obtain ⟨n,hn⟩:=qgS he
   refine ⟨n+1, ?_⟩
   simp only [qw]
   rw [qap (ky prog n) hn];exact h
theorem qvm {x y:AC}:xw prog (.seq x y) st=match xw prog x st with
 |some (.normal,st')=>xw prog y st'
 |r=>r:=by
 apply kY
 intro r
 rw [zr]
 constructor
 ·rintro ⟨n,h⟩
  cases n with
  |zero=>simp [qw]at h
  |succ n=>
   simp only [qw]at h
   cases he:qw (qV prog (n+1)) n x st with
   |none=>rw [he]at h;cases h
   |some s=>
    rw [he]at h
    have hx:xw prog x st=some s:=zr.2 ⟨n+1,zI (fun _ _ _ h=>h) n (n+1) _ _ _ (by omega) he⟩
    rw [hx]
    obtain ⟨e,s⟩:=s
    cases e
    ·exact zr.2 ⟨n+1,zI (fun _ _ _ h=>h) n (n+1) _ _ _ (by omega) h⟩
    ·exact h
    ·exact h
 ·intro h
  cases he:xw prog x st with
  |none=>rw [he]at h;cases h
  |some s=>
   rw [he]at h
   obtain ⟨n,hn⟩:=zr.1 he
   obtain ⟨e,s⟩:=s
   cases e
   ·obtain ⟨m,hm⟩:=zr.1 h
    refine ⟨max n m+1, ?_⟩
    simp only [qw]
    rw [zI (j7 prog (by omega)) n (max n m) _ _ _ (by omega) hn]
    exact zI (j7 prog (by omega)) m (max n m) _ _ _ (by omega) hm
   all_goals
    refine ⟨n+1, ?_⟩
    simp only [qw]
    rw [zI (j7 prog (by omega)) n n _ _ _ (by omega) hn]
    exact h
theorem qvd {a:AO} {x y:AC}:xw prog (.cond a x y) st=match ev st.σ a with
 |some (.v (.bool true))=>xw prog x st
 |some (.v (.bool false))=>xw prog y st
 |_=>none:=by
 apply kY
 intro r
 rw [zr]
 constructor
 ·rintro ⟨n,h⟩
  cases n with
  |zero=>simp [qw]at h
  |succ n=>
   simp only [qw]at h
   split at h
   ·rename_i hv;rw [hv];exact zr.2 ⟨n+1,zI (fun _ _ _ h=>h) n (n+1) _ _ _ (by omega) h⟩
   ·rename_i hv;rw [hv];exact zr.2 ⟨n+1,zI (fun _ _ _ h=>h) n (n+1) _ _ _ (by omega) h⟩
   ·cases h
 ·intro h
  split at h
  ·rename_i hv
   obtain ⟨n,hn⟩:=zr.1 h
   exact ⟨n+1,by simp only [qw,hv];exact zI (ky prog n) n n _ _ _ (by omega) hn⟩
  ·rename_i hv
   obtain ⟨n,hn⟩:=zr.1 h
   exact ⟨n+1,by simp only [qw,hv];exact zI (ky prog n) n n _ _ _ (by omega) hn⟩
  ·cases h
theorem qvc {id:Nat} {x:AC}:xw prog (.block id x) st=match xw prog x st with
 |some (.exit id',st')=>if id'=id then some (.normal,st')else some (.exit id',st')
 |r=>r:=by
 apply kY
 intro r
 rw [zr]
 constructor
 ·rintro ⟨n,h⟩
  cases n with
  |zero=>simp [qw]at h
  |succ n=>
   simp only [qw]at h
   cases he:qw (qV prog (n+1)) n x st with
   |none=>rw [he]at h;cases h
   |some s=>
    rw [he]at h
    rw [zr.2 ⟨n+1,zI (fun _ _ _ h=>h) n (n+1) _ _ _ (by omega) he⟩]
    exact h
 ·intro h
  cases he:xw prog x st with
  |none=>rw [he]at h;cases h
  |some s=>
   rw [he]at h
   obtain ⟨n,hn⟩:=zr.1 he
   refine ⟨n+1, ?_⟩
   simp only [qw]
   rw [zI (ky prog n) n n _ _ _ (by omega) hn]
   exact h
theorem qvg {ls:List Nat} {x:AC}:xw prog (.keep ls x) st=xw prog x {σ:=zu st.σ ls,T:=st.T}:=by
 apply kY
 intro r
 rw [zr,zr]
 constructor
 ·rintro ⟨n,h⟩
  cases n with
  |zero=>simp [qw]at h
  |succ n=>
   simp only [qw]at h
   exact ⟨n+1,zI (fun _ _ _ h=>h) n (n+1) _ _ _ (by omega) h⟩
 ·rintro ⟨n,h⟩
  exact ⟨n+1,by simp only [qw];exact zI (ky prog n) n n _ _ _ (by omega) h⟩
theorem qvj {os:List (Nat × Key × Nat)} {x:AC}:xw prog (.opn os x) st=xw prog x (Ql os st):=by
 apply kY
 intro r
 rw [zr,zr]
 constructor
 ·rintro ⟨n,h⟩
  cases n with
  |zero=>simp [qw]at h
  |succ n=>
   simp only [qw]at h
   exact ⟨n+1,zI (fun _ _ _ h=>h) n (n+1) _ _ _ (by omega) h⟩
 ·rintro ⟨n,h⟩
  exact ⟨n+1,by simp only [qw];exact zI (ky prog n) n n _ _ _ (by omega) h⟩
theorem qlU {ls:List Nat} {ks:List Key} {x:AC}:xw prog (.nam ls ks x) st=xw prog x (xR ls ks st):=by
 apply kY
 intro r
 rw [zr,zr]
 constructor
 ·rintro ⟨n,h⟩
  cases n with
  |zero=>simp [qw]at h
  |succ n=>
   simp only [qw]at h
   exact ⟨n+1,zI (fun _ _ _ h=>h) n (n+1) _ _ _ (by omega) h⟩
 ·rintro ⟨n,h⟩
  exact ⟨n+1,by simp only [qw];exact zI (ky prog n) n n _ _ _ (by omega) h⟩
theorem qvi {os:List (Nat × Nat × Option Nat)} {x:AC}:xw prog (.opd os x) st=xw prog x (ZI os st):=by
 apply kY
 intro r
 rw [zr,zr]
 constructor
 ·rintro ⟨n,h⟩
  cases n with
  |zero=>simp [qw]at h
  |succ n=>
   simp only [qw]at h
   exact ⟨n+1,zI (fun _ _ _ h=>h) n (n+1) _ _ _ (by omega) h⟩
 ·rintro ⟨n,h⟩
  exact ⟨n+1,by simp only [qw];exact zI (ky prog n) n n _ _ _ (by omega) h⟩
theorem qvh {ls:List Nat} {ks:List Key} {x:AC}:xw prog (.loop ls ks x) st=match xw prog x (xR ls ks st)with
 |some (.normal,st')=>xw prog (.loop ls ks x) st'
 |r=>r:=by
 apply kY
 intro r
 rw [zr]
 constructor
 ·rintro ⟨n,h⟩
  cases n with
  |zero=>simp [qw]at h
  |succ n=>
   rw [qw]at h
   cases he:qw (qV prog (n+1)) n x (xR ls ks st)with
   |none=>rw [he]at h;cases h
   |some s=>
    rw [he]at h
    have hx:xw prog x (xR ls ks st)=some s:=zr.2 ⟨n+1,zI (fun _ _ _ h=>h) n (n+1) _ _ _ (by omega) he⟩
    rw [hx]
    obtain ⟨e,s⟩:=s
    cases e
    ·exact zr.2 ⟨n+1,zI (fun _ _ _ h=>h) n (n+1) _ _ _ (by omega) h⟩
    ·exact h
    ·exact h
 ·intro h
  cases he:xw prog x (xR ls ks st)with
  |none=>rw [he]at h;cases h
  |some s=>
   rw [he]at h
   obtain ⟨n,hn⟩:=zr.1 he
   obtain ⟨e,s⟩:=s
   cases e
   ·obtain ⟨m,hm⟩:=zr.1 h
    refine ⟨max n m+1, ?_⟩
    rw [qw]
    rw [zI (j7 prog (by omega)) n (max n m) _ _ _ (by omega) hn]
    exact zI (j7 prog (by omega)) m (max n m) _ _ _ (by omega) hm
   all_goals
    refine ⟨n+1, ?_⟩
    rw [qw]
    rw [zI (j7 prog (by omega)) n n _ _ _ (by omega) hn]
    exact h
theorem qhB {f:Nat} {args:List V}:cw prog f args=match prog f with
 |some (.prim g)=>g args
 |some (.fn af)=>
  if args.length=af.nargs then
   match xw prog af.body {σ:=xa 0 (za 0 args).1,T:=(za 0 args).2} with
   |some (.normal,st)|some (.ret,st)=>qt af (za 0 args).1 st
   |_=>none
  else none
 |none=>none:=by
 apply kY
 intro r
 rw [ZC]
 constructor
 ·rintro ⟨n,h⟩
  cases n with
  |zero=>simp [qV]at h
  |succ n=>
   rw [qV]at h
   split at h
   ·rename_i hp;rw [hp];exact h
   ·rename_i af hp
    rw [hp]
    split at h
    case isFalse=>cases h
    rename_i hlen
    show (if args.length=af.nargs then _ else _)=_
    rw [if_pos hlen]
    cases he:qw (qV prog n) n af.body {σ:=xa 0 (za 0 args).1,T:=(za 0 args).2} with
    |none=>rw [he]at h;cases h
    |some s=>
     rw [he]at h
     rw [zr.2 ⟨n,he⟩];exact h
   ·cases h
 ·intro h
  split at h
  ·rename_i hp;exact ⟨1,by rw [qV,hp];exact h⟩
  ·rename_i af hp
   split at h
   case isFalse=>cases h
   rename_i hlen
   cases he:xw prog af.body {σ:=xa 0 (za 0 args).1,T:=(za 0 args).2} with
   |none=>rw [he]at h;cases h
   |some s=>
    obtain ⟨n,hn⟩:=zr.1 he
    refine ⟨n+1, ?_⟩
    rw [qV,hp]
    simp only [if_pos hlen]
    rw [he]at h
    rw [hn];exact h
  ·cases h
end
end Go.Vm
namespace Go.Vm
def I(n:Int):V:= .v (.int .i64 n)
def U8(n:Int):V:= .v (.int .u8 n)
def U32(n:Int):V:= .v (.int .u32 n)
def B(b:Bool):V:= .v (.bool b)
def S(l:List UInt8):V:= .v (.string ⟨l.toArray⟩)
def Fc(g:Nat):V:= .f (.func g) [] []
def w64(n:Int):Int:=IntKind.i64.wrap n
theorem qj {n:Int} (h1: -9223372036854775808≤n) (h2:n < 9223372036854775808):w64 n=n:=by
 have h: ∀ m:Int,m=n % 18446744073709551616→(if (true&&decide (m ≥ 9223372036854775808))=true then m - 18446744073709551616 else m)=n:=by
  intro m hm
  simp only [Bool.true_and,decide_eq_true_eq]
  split<;>omega
 exact h _ rfl
def kA(r:Option (AX × St)) (k:St→Option (AX × St)):Option (AX × St):=
 match r with
 |some (.normal,st)=>k st
 |r=>r
def kB {α:Type} (r:Option St) (k:St→Option α):Option α:=
 match r with
 |some st=>k st
 |none=>none
def qq {α:Type} (r:Option V) (k:V→Option α):Option α:=
 match r with
 |some y=>k y
 |none=>none
def QI {α:Type} (r:Option Mem) (k:Mem→Option α):Option α:=
 match r with
 |some y=>k y
 |none=>none
def yf {α:Type} (r:Option (List V)) (k:List V→Option α):Option α:=
 match r with
 |some y=>k y
 |none=>none
def qcc {α:Type} (r:Option V) (x y:α) (z:α):α:=
 match r with
 |some (.v (.bool true))=>x
 |some (.v (.bool false))=>y
 |_=>z
def ZJ(id:Nat) (r:Option (AX × St)):Option (AX × St):=
 match r with
 |some (.exit id',st')=>if id'=id then some (.normal,st')else some (.exit id',st')
 |r=>r
def Qf {α:Type} (r:Option (AX × St)) (k:St→Option α):Option α:=
 match r with
 |some (.normal,st)|some (.ret,st)=>k st
 |_=>none
@[congr] theorem qzV {r r':Option (AX × St)} {k:St→Option (AX × St)} (h:r=r'):kA r k=kA r' k:=by rw [h]
@[congr] theorem qz7 {α:Type} {r r':Option St} {k:St→Option α} (h:r=r'):kB r k=kB r' k:=by rw [h]
@[congr] theorem qAb {α:Type} {r r':Option V} {k:V→Option α} (h:r=r'):qq r k=qq r' k:=by rw [h]
@[congr] theorem qzS {α:Type} {r r':Option Mem} {k:Mem→Option α} (h:r=r'):QI r k=QI r' k:=by rw [h]
@[congr] theorem qzP {α:Type} {r r':Option (List V)} {k:List V→Option α} (h:r=r'):yf r k=yf r' k:=by rw [h]
@[congr] theorem qB2 {α:Type} {r r':Option V} {x y z:α} (h:r=r'):qcc r x y z=qcc r' x y z:=by rw [h]
@[congr] theorem qDA {α:Type} {r r':Option (AX × St)} {k:St→Option α} (h:r=r'):Qf r k=Qf r' k:=by rw [h]
section
variable {α:Type} {k:St→Option (AX × St)} {st:St} {id id':Nat}
@[go_sem] theorem qzZ:kA (some (.normal,st)) k=k st:=(rfl)
@[go_sem] theorem qz0:kA (some (.ret,st)) k=some (.ret,st):=(rfl)
@[go_sem] theorem qzW:kA (some (.exit id,st)) k=some (.exit id,st):=(rfl)
@[go_sem] theorem qzY:kA none k=none:=(rfl)
@[go_sem] theorem qzX {p:Prop} [Decidable p] {a b:Option (AX × St)}:kA (if p then a else b) k=if p then kA a k else kA b k:=by split<;>rfl
@[go_sem] theorem qAa {k:St→Option α}:kB (some st) k=k st:=(rfl)
@[go_sem] theorem qz9 {k:St→Option α}:kB none k=none:=(rfl)
@[go_sem] theorem qz8 {k:St→Option α} {p:Prop} [Decidable p] {a b:Option St}:kB (if p then a else b) k=if p then kB a k else kB b k:=by split<;>rfl
@[go_sem] theorem qAe {x:V} {k:V→Option α}:qq (some x) k=k x:=(rfl)
@[go_sem] theorem qAd {k:V→Option α}:qq none k=none:=(rfl)
@[go_sem] theorem qAc {k:V→Option α} {p:Prop} [Decidable p] {a b:Option V}:qq (if p then a else b) k=if p then qq a k else qq b k:=by split<;>rfl
@[go_sem] theorem qzU {x:Mem} {k:Mem→Option α}:QI (some x) k=k x:=(rfl)
@[go_sem] theorem qzT {k:Mem→Option α}:QI none k=none:=(rfl)
@[go_sem] theorem qzR {x:List V} {k:List V→Option α}:yf (some x) k=k x:=(rfl)
@[go_sem] theorem qzQ {k:List V→Option α}:yf none k=none:=(rfl)
@[go_sem] theorem qB1 {b:Bool} {x y z:α}:qcc (some (B b)) x y z=if b=true then x else y:=by cases b<;>rfl
@[go_sem] theorem qII:ZJ id (some (.exit id',st))=if id'=id then some (.normal,st)else some (.exit id',st):=(rfl)
@[go_sem] theorem qIL:ZJ id (some (.normal,st))=some (.normal,st):=(rfl)
@[go_sem] theorem qIM:ZJ id (some (.ret,st))=some (.ret,st):=(rfl)
@[go_sem] theorem qIK:ZJ id none=none:=(rfl)
@[go_sem] theorem qIJ {p:Prop} [Decidable p] {a b:Option (AX × St)}:ZJ id (if p then a else b)=if p then ZJ id a else ZJ id b:=by split<;>rfl
@[go_sem] theorem qDD {k:St→Option α}:Qf (some (.normal,st)) k=k st:=(rfl)
@[go_sem] theorem qDE {k:St→Option α}:Qf (some (.ret,st)) k=k st:=(rfl)
@[go_sem] theorem qDC {k:St→Option α}:Qf none k=none:=(rfl)
@[go_sem] theorem qDB {k:St→Option α} {p:Prop} [Decidable p] {a b:Option (AX × St)}:Qf (if p then a else b) k=if p then Qf a k else Qf b k:=by split<;>rfl
end
noncomputable def cr(prog:Nat→Option AE) (f:Nat) (xs:List V):Option V:=(cw prog f xs).map Prod.fst
section
variable {prog:Nat→Option AE} {st:St}
theorem qv {f:Nat} {af:AF} {args:List V} (h:prog f=some (.fn af)) (hl:args.length=af.nargs):
 cr prog f args=Qf (xw prog af.body {σ:=xa 0 (za 0 args).1,T:=(za 0 args).2}) fun st=>
  (kq st.σ st.T af.res).map fun r=>(qx 30 r.2 (je r.1)).1:=by
 unfold cr
 rw [qhB,h]
 simp only [if_pos hl]
 cases he:xw prog af.body {σ:=xa 0 (za 0 args).1,T:=(za 0 args).2} with
 |none=>rfl
 |some s=>
  obtain ⟨e,s⟩:=s
  have hf:(qt af (za 0 args).1 s).map Prod.fst=(kq s.σ s.T af.res).map fun r=>(qx 30 r.2 (je r.1)).1:=by
   unfold qt
   cases kq s.σ s.T af.res<;>rfl
  cases e
  ·exact hf
  ·rfl
  ·exact hf
theorem qI {f:Nat} {af:AF} {args:List V} (h:prog f=some (.fn af)) (hl:args.length=af.nargs):
 cw prog f args=Qf (xw prog af.body {σ:=xa 0 (za 0 args).1,T:=(za 0 args).2}) fun st=>qt af (za 0 args).1 st:=by
 rw [qhB,h]
 simp only [if_pos hl]
 cases he:xw prog af.body {σ:=xa 0 (za 0 args).1,T:=(za 0 args).2} with
 |none=>rfl
 |some s=>obtain ⟨e,s⟩:=s;cases e<;>rfl
@[go_sem] theorem qLA:xw prog .skip st=some (.normal,st):=qlV
@[go_sem] theorem qLy:xw prog .ret st=some (.ret,st):=qvl
@[go_sem] theorem qLs {id:Nat}:xw prog (.exit id) st=some (.exit id,st):=qvf
@[go_sem] theorem qLx {is:List AI}:xw prog (.reg is) st=kB (yX (cw prog) is st) fun st=>some (.normal,st):=by
 rw [qvk];cases yX (cw prog) is st<;>rfl
@[go_sem] theorem qLr {plan:List Dp} {is:List AI}:xw prog (.dreg plan is) st=kB (zJ (cw prog) plan is (xE (zS plan is) st)) fun st=>if ZH st.T=true then some (.normal,st)else none:=by
 rw [qve];cases zJ (cw prog) plan is (xE (zS plan is) st)<;>rfl
@[go_sem] theorem qLz {x y:AC}:xw prog (.seq x y) st=kA (xw prog x st) fun st'=>xw prog y st':=by
 rw [qvm]
 cases xw prog x st with
 |none=>rfl
 |some s=>obtain ⟨e,s⟩:=s;cases e<;>rfl
@[go_sem] theorem qLq {a:AO} {x y:AC}:xw prog (.cond a x y) st=qcc (ev st.σ a) (xw prog x st) (xw prog y st) none:=by
 rw [qvd];rfl
@[go_sem] theorem qLp {id:Nat} {x:AC}:xw prog (.block id x) st=ZJ id (xw prog x st):=by
 rw [qvc]
 cases xw prog x st with
 |none=>rfl
 |some s=>obtain ⟨e,s⟩:=s;cases e<;>rfl
@[go_sem] theorem qLu {ls:List Nat} {ks:List Key} {x:AC}:xw prog (.nam ls ks x) st=xw prog x (xR ls ks st):=qlU
@[go_sem] theorem qLv {os:List (Nat × Nat × Option Nat)} {x:AC}:xw prog (.opd os x) st=xw prog x (ZI os st):=qvi
@[go_sem] theorem qLw {os:List (Nat × Key × Nat)} {x:AC}:xw prog (.opn os x) st=xw prog x (Ql os st):=qvj
@[go_sem] theorem qLt {ls:List Nat} {x:AC} {σ:Sl} {T:Mem}:xw prog (.keep ls x) ⟨σ,T⟩=xw prog x ⟨zu σ ls,T⟩:=qvg
theorem qu0 {ls:List Nat} {ks:List Key} {x:AC}:xw prog (.loop ls ks x) st=kA (xw prog x (xR ls ks st)) fun st'=>xw prog (.loop ls ks x) st':=by
 rw [qvh]
 cases xw prog x (xR ls ks st)with
 |none=>rfl
 |some s=>obtain ⟨e,s⟩:=s;cases e<;>rfl
variable {σ:Sl} {T:Mem} {call:Call}
@[go_sem] theorem qzb:yX call [] st=some st:=(rfl)
@[go_sem] theorem qza {i:AI} {is:List AI}:yX call (i::is) st=kB (qm call st i) fun st=>yX call is st:=by
 simp only [yX];cases qm call st i<;>rfl
def gdK(b:Option V) (want:Bool) (x y:Option St):Option St:=
 match b with
 |some (.v (.bool b))=>if b=want then x else y
 |some (.v _)=>y
 |_=>none
@[congr] theorem qEA {b b':Option V} {w:Bool} {x y:Option St} (h:b=b'):gdK b w x y=gdK b' w x y:=by rw [h]
@[go_sem] theorem qEz {b w:Bool} {x y:Option St}:gdK (some (B b)) w x y=if b=w then x else y:=(rfl)
@[go_sem] theorem qEB {w:Bool} {x y:Option St}:gdK (some yo) w x y=y:=(rfl)
@[go_sem] theorem qD9 {j:Nat} {w:Bool} {d:Nat} {i:AI}:qm call ⟨σ,T⟩ (.gd j w (some d) i)=gdK (qC σ j) w (qi call ⟨σ,T⟩ i) (some ⟨(d,yo)::σ,T⟩):=by
 simp only [qm,gdK]
 cases qC σ j with
 |none=>rfl
 |some x=>cases x<;>first|rfl|(rename_i v;cases v<;>rfl)
@[go_sem] theorem qEa {j:Nat} {w:Bool} {i:AI}:qm call ⟨σ,T⟩ (.gd j w none i)=gdK (qC σ j) w (qi call ⟨σ,T⟩ i) (some ⟨σ,T⟩):=by
 simp only [qm,gdK]
 cases qC σ j with
 |none=>rfl
 |some x=>cases x<;>first|rfl|(rename_i v;cases v<;>rfl)
@[go_sem] theorem qDS {n:Nat}:ev σ (.t n)=qC σ n:=(rfl)
@[go_sem] theorem qDR {x:V}:ev σ (.c x)=some x:=(rfl)
@[go_sem] theorem qDN:evL σ []=some []:=(rfl)
@[go_sem] theorem qDM {x:AO} {xs:List AO}:evL σ (x::xs)=qq (ev σ x) fun y=>yf (evL σ xs) fun ys=>some (y::ys):=by
 simp only [evL];cases ev σ x<;>cases evL σ xs<;>rfl
@[go_sem] theorem qDO:evO σ none=some none:=(rfl)
@[go_sem] theorem qDP {x:AO}:evO σ (some x)=qq (ev σ x) fun y=>some (some y):=by
 simp only [evO];cases ev σ x<;>rfl
attribute [go_sem] qC qu qB qld qN qG xt Qi X8 qeW Qe qa8 xE
def pkS(o:Option V) (t:Nat) (r:Sl):Sl:=match o with|some x=>(t,x)::r|none=>r
@[congr] theorem qI1 {o o':Option V} {t:Nat} {r:Sl} (h:o=o'):pkS o t r=pkS o' t r:=by rw [h]
@[go_sem] theorem qI3 {x:V} {t:Nat} {r:Sl}:pkS (some x) t r=(t,x)::r:=(rfl)
@[go_sem] theorem qI2 {t:Nat} {r:Sl}:pkS none t r=r:=(rfl)
@[go_sem] theorem qIY {σ:Sl}:zu σ []=[]:=(rfl)
@[go_sem] theorem qsm: ∀ (ls:List Nat),zu [] ls=[]
 |[]=>rfl
 |t::r=>by simp only [zu,qC,qsm r]
@[go_sem] theorem qIX {q:Nat × V} {σ:Sl} {t:Nat} {r:List Nat}:zu (q::σ) (t::r)=pkS (qC (q::σ) t) t (zu (q::σ) r):=by
 simp only [zu,pkS]
 cases qC (q::σ) t<;>rfl
def pkT(o:Option Ob) (k:Key) (a b:Mem):Mem:=match o with|some x=>(k,x)::a|none=>b
@[congr] theorem qI4 {o o':Option Ob} {k:Key} {a b:Mem} (h:o=o'):pkT o k a b=pkT o' k a b:=by rw [h]
@[go_sem] theorem qI6 {x:Ob} {k:Key} {a b:Mem}:pkT (some x) k a b=(k,x)::a:=(rfl)
@[go_sem] theorem qI5 {k:Key} {a b:Mem}:pkT none k a b=b:=(rfl)
@[go_sem] theorem qI0 {T:Mem}:yS T []=[]:=by cases T<;>rfl
@[go_sem] theorem qsn: ∀ (ks:List Key),yS [] ks=[]
 |[]=>rfl
 |k::r=>by simp only [yS,qu,qsn r]
@[go_sem] theorem qIZ {q:Key × Ob} {T:Mem} {k:Key} {r:List Key}:yS (q::T) (k::r)=pkT (qu (q::T) k) k (yS (qB (q::T) k) r) (yS (q::T) r):=by
 simp only [yS,pkT]
 cases qu (q::T) k<;>rfl
@[go_sem] theorem qIW {T:Mem}:xy T []=[]:=(rfl)
@[go_sem] theorem qsl: ∀ (ks:List Key),xy [] ks=[]
 |[]=>rfl
 |k::r=>by simp only [xy,qu,qsl r]
@[go_sem] theorem qIV {q:Key × Ob} {T:Mem} {k:Key} {r:List Key}:xy (q::T) (k::r)=pkT (qu (q::T) k) k (xy (q::T) r) (xy (q::T) r):=by
 simp only [xy,pkT]
 cases qu (q::T) k<;>rfl
def wT(d:Nat) (T:Mem):Mem:=Qi d (Qe d (qa8 (X8 d T) T))
@[go_sem] theorem qgq {d:Nat}:zg d ⟨σ,T⟩=⟨xt d σ,wT d T⟩:=(rfl)
def kd {α:Type} (c:Bool) (x:Option α):Option α:=if c=true then x else none
@[congr] theorem qEC {α:Type} {b b':Bool} {x:Option α} (h:b=b'):kd b x=kd b' x:=by rw [h]
@[go_sem] theorem qEE {α:Type} {x:Option α}:kd true x=x:=(rfl)
@[go_sem] theorem qED {α:Type} {x:Option α}:kd false x=none:=(rfl)
def zG {α:Type} (c:Bool) (x y:α):α:=if c=true then x else y
@[congr] theorem qIS {α:Type} {b b':Bool} {x y:α} (h:b=b'):zG b x y=zG b' x y:=by rw [h]
@[go_sem] theorem qIU {α:Type} {x y:α}:zG true x y=x:=(rfl)
@[go_sem] theorem qIT {α:Type} {x y:α}:zG false x y=y:=(rfl)
section vals
variable {n:Int} {b:Bool} {l:List UInt8} {g:Nat}
attribute [go_sem] zb yc clB xp qE yC zd q9 ze zo zp kj j9 QH qC
@[go_sem] theorem qAF {d:Nat} {x:V} {st:St}:x3 (some d) x st=Zy d x st:=(rfl)
@[go_sem] theorem qAE {x:V} {st:St}:x3 none x st=st:=(rfl)
@[go_sem] theorem qDY {x:V}:fzV true x=zd false x:=(rfl)
@[go_sem] theorem qDX {x:V}:fzV false x=x:=(rfl)
section
variable {cs xs ys:List V} {τ:Bool} {i o e:Nat} {x:V} {k:Key} {fn:Fn}
@[go_sem] theorem qAU:(V.a cs).cells=cs:=(rfl)
@[go_sem] theorem qA7:(V.p k i o).cells=[V.p k i o]:=(rfl)
@[go_sem] theorem qA9:(V.s k i o).cells=[V.s k i o]:=(rfl)
@[go_sem] theorem qA8:(V.q τ xs i o).cells=[V.q τ xs i o]:=(rfl)
@[go_sem] theorem qAX:(V.i τ xs).cells=[V.i τ xs]:=(rfl)
@[go_sem] theorem qA5:(V.o e xs).cells=[V.o e xs]:=(rfl)
@[go_sem] theorem qA4:(V.n e).cells=[V.n e]:=(rfl)
@[go_sem] theorem qAV:(V.b x).cells=[V.b x]:=(rfl)
@[go_sem] theorem qAW:(V.f fn xs ys).cells=[V.f fn xs ys]:=(rfl)
@[go_sem] theorem qBa:(V.t xs).cells=[V.t xs]:=(rfl)
@[go_sem] theorem qEQ:(V.a cs).isA=true:=(rfl)
@[go_sem] theorem qER:(V.i τ xs).isA=false:=(rfl)
@[go_sem] theorem qEZ:(V.o e xs).isA=false:=(rfl)
@[go_sem] theorem qEY:(V.n e).isA=false:=(rfl)
@[go_sem] theorem qE0:(V.s k i o).isA=false:=(rfl)
@[go_sem] theorem qCq:(V.a cs).dead=false:=(rfl)
@[go_sem] theorem qCw:(V.p k i o).dead=false:=(rfl)
@[go_sem] theorem qCy:(V.s k i o).dead=false:=(rfl)
@[go_sem] theorem qCx:(V.q τ xs i o).dead=false:=(rfl)
@[go_sem] theorem qCt:(V.i τ xs).dead=false:=(rfl)
@[go_sem] theorem qCv:(V.o e xs).dead=false:=(rfl)
@[go_sem] theorem qCu:(V.n e).dead=false:=(rfl)
@[go_sem] theorem qCr:(V.b x).dead=false:=(rfl)
@[go_sem] theorem qCs:(V.f fn xs ys).dead=false:=(rfl)
@[go_sem] theorem qBr:clE (V.a cs)=xp cs:=(rfl)
@[go_sem] theorem qBu:clE (V.i τ xs)=true:=(rfl)
@[go_sem] theorem qBw:clE (V.o e xs)=true:=(rfl)
@[go_sem] theorem qBv:clE (V.n e)=true:=(rfl)
@[go_sem] theorem qBy:clE (V.q τ xs i o)=true:=(rfl)
@[go_sem] theorem qBs:clE (V.b x)=true:=(rfl)
@[go_sem] theorem qBz:clE (V.s k i o)=false:=(rfl)
@[go_sem] theorem qBx:clE (V.p k i o)=false:=(rfl)
@[go_sem] theorem qBt:clE (V.f fn xs ys)=(xp xs&&xp ys):=(rfl)
variable {d j:Nat}
@[go_sem] theorem qIy:zj d j (.o e xs)=(.s (d,j) 0 xs.length,j+1,[((d,j),e,xs)]):=(rfl)
@[go_sem] theorem qIu:zj d j (.b x)=(.p (d,j) 0 0,j+1,[((d,j),x.cells.length,[x])]):=(rfl)
@[go_sem] theorem qIv:zj d j (.i τ xs)=(.i τ xs,j,[]):=(rfl)
@[go_sem] theorem qIz:zj d j (.q τ xs i o)=(.q τ xs i o,j,[]):=(rfl)
@[go_sem] theorem qIx:zj d j (.n e)=(.n e,j,[]):=(rfl)
@[go_sem] theorem qIq:zj d j (I n)=(I n,j,[]):=(rfl)
@[go_sem] theorem qIo:zj d j (B b)=(B b,j,[]):=(rfl)
@[go_sem] theorem qIr:zj d j (S l)=(S l,j,[]):=(rfl)
@[go_sem] theorem qIt:zj d j (U8 n)=(U8 n,j,[]):=(rfl)
@[go_sem] theorem qIs:zj d j (U32 n)=(U32 n,j,[]):=(rfl)
@[go_sem] theorem qIp:zj d j (Fc g)=(Fc g,j,[]):=(rfl)
@[go_sem] theorem qH3:qP d j (.a cs)=(.a (zp d j cs).1,(zp d j cs).2):=(rfl)
@[go_sem] theorem qH5:qP d j (.f fn xs ys)=(.f fn (zp d j xs).1 (zp d (zp d j xs).2.1 ys).1,(zp d (zp d j xs).2.1 ys).2.1,(zp d j xs).2.2++(zp d (zp d j xs).2.1 ys).2.2):=(rfl)
@[go_sem] theorem qH8:qP d j (.o e xs)=(.s (d,j) 0 xs.length,j+1,[((d,j),e,xs)]):=(rfl)
@[go_sem] theorem qH4:qP d j (.b x)=(.p (d,j) 0 0,j+1,[((d,j),x.cells.length,[x])]):=(rfl)
@[go_sem] theorem qH6:qP d j (.i τ xs)=(.i τ xs,j,[]):=(rfl)
@[go_sem] theorem qH9:qP d j (.q τ xs i o)=(.q τ xs i o,j,[]):=(rfl)
@[go_sem] theorem qH7:qP d j (.n e)=(.n e,j,[]):=(rfl)
@[go_sem] theorem qHZ:qP d j (I n)=(I n,j,[]):=(rfl)
@[go_sem] theorem qHY:qP d j (B b)=(B b,j,[]):=(rfl)
@[go_sem] theorem qH0:qP d j (S l)=(S l,j,[]):=(rfl)
@[go_sem] theorem qH2:qP d j (U8 n)=(U8 n,j,[]):=(rfl)
@[go_sem] theorem qH1:qP d j (U32 n)=(U32 n,j,[]):=(rfl)
@[go_sem] theorem qIn:zX d (.t xs)=(.t (kj d 0 xs).1,(kj d 0 xs).2.2):=(rfl)
@[go_sem] theorem qIg:zX d (.a cs)=(.a (zp d 0 cs).1,(zp d 0 cs).2.2):=(rfl)
@[go_sem] theorem qIi:zX d (.f fn xs ys)=((qP d 0 (.f fn xs ys)).1,(qP d 0 (.f fn xs ys)).2.2):=(rfl)
@[go_sem] theorem qIl:zX d (.o e xs)=(.s (d,0) 0 xs.length,[((d,0),e,xs)]):=(rfl)
@[go_sem] theorem qIh:zX d (.b x)=(.p (d,0) 0 0,[((d,0),x.cells.length,[x])]):=(rfl)
@[go_sem] theorem qIj:zX d (.i τ xs)=(.i τ xs,[]):=(rfl)
@[go_sem] theorem qIm:zX d (.q τ xs i o)=(.q τ xs i o,[]):=(rfl)
@[go_sem] theorem qIk:zX d (.n e)=(.n e,[]):=(rfl)
@[go_sem] theorem qIc:zX d (I n)=(I n,[]):=(rfl)
@[go_sem] theorem qIa:zX d (B b)=(B b,[]):=(rfl)
@[go_sem] theorem qId:zX d (S l)=(S l,[]):=(rfl)
@[go_sem] theorem qIf:zX d (U8 n)=(U8 n,[]):=(rfl)
@[go_sem] theorem qIe:zX d (U32 n)=(U32 n,[]):=(rfl)
@[go_sem] theorem qIb:zX d (Fc g)=(Fc g,[]):=(rfl)
end
@[go_sem] theorem qFj {d:Nat}:qN d (I n)=I n:=(rfl)
@[go_sem] theorem qFh {d:Nat}:qN d (B b)=B b:=(rfl)
@[go_sem] theorem qFk {d:Nat}:qN d (S l)=S l:=(rfl)
@[go_sem] theorem qFm {d:Nat}:qN d (U8 n)=U8 n:=(rfl)
@[go_sem] theorem qFl {d:Nat}:qN d (U32 n)=U32 n:=(rfl)
@[go_sem] theorem qFi {d:Nat}:qN d (Fc g)=Fc g:=(rfl)
@[go_sem] theorem qFo {d:Nat}:qN d yo=yo:=(rfl)
@[go_sem] theorem qAQ:(I n).cells=[I n]:=(rfl)
@[go_sem] theorem qAO:(B b).cells=[B b]:=(rfl)
@[go_sem] theorem qAR:(S l).cells=[S l]:=(rfl)
@[go_sem] theorem qAT:(U8 n).cells=[U8 n]:=(rfl)
@[go_sem] theorem qAS:(U32 n).cells=[U32 n]:=(rfl)
@[go_sem] theorem qAP:(Fc g).cells=[Fc g]:=(rfl)
@[go_sem] theorem qEO:(I n).isA=false:=(rfl)
@[go_sem] theorem qEN:(B b).isA=false:=(rfl)
@[go_sem] theorem qEP:(S l).isA=false:=(rfl)
@[go_sem] theorem qCn:(I n).dead=false:=(rfl)
@[go_sem] theorem qCm:(B b).dead=false:=(rfl)
@[go_sem] theorem qCo:(S l).dead=false:=(rfl)
@[go_sem] theorem qCp:(U8 n).dead=false:=(rfl)
@[go_sem] theorem qHI:(I n).one=true:=(rfl)
@[go_sem] theorem qHG:(B b).one=true:=(rfl)
@[go_sem] theorem qHJ:(S l).one=true:=(rfl)
@[go_sem] theorem qHL:(U8 n).one=true:=(rfl)
@[go_sem] theorem qHK:(U32 n).one=true:=(rfl)
@[go_sem] theorem qHH:(Fc g).one=true:=(rfl)
@[go_sem] theorem qHS {k:Key} {i o:Nat}:(V.p k i o).one=true:=(rfl)
@[go_sem] theorem qHU {k:Key} {i o:Nat}:(V.s k i o).one=true:=(rfl)
@[go_sem] theorem qHT {τ:Bool} {xs:List V} {i o:Nat}:(V.q τ xs i o).one=true:=(rfl)
@[go_sem] theorem qHO {τ:Bool} {xs:List V}:(V.i τ xs).one=true:=(rfl)
@[go_sem] theorem qHR {e:Nat} {xs:List V}:(V.o e xs).one=true:=(rfl)
@[go_sem] theorem qHQ {e:Nat}:(V.n e).one=true:=(rfl)
@[go_sem] theorem qHM {x:V}:(V.b x).one=true:=(rfl)
@[go_sem] theorem qHN {fn:Fn} {xs ys:List V}:(V.f fn xs ys).one=true:=(rfl)
@[go_sem] theorem qLD:zb (I n)=true:=(rfl)
@[go_sem] theorem qLB:zb (B b)=true:=(rfl)
@[go_sem] theorem qLE:zb (S l)=true:=(rfl)
@[go_sem] theorem qLG:zb (U8 n)=true:=(rfl)
@[go_sem] theorem qLF:zb (U32 n)=true:=(rfl)
@[go_sem] theorem qLC:zb (Fc g)=true:=(rfl)
@[go_sem] theorem qBj:clB (I n)=true:=(rfl)
@[go_sem] theorem qBh:clB (B b)=true:=(rfl)
@[go_sem] theorem qBk:clB (S l)=true:=(rfl)
@[go_sem] theorem qBm:clB (U8 n)=true:=(rfl)
@[go_sem] theorem qBl:clB (U32 n)=true:=(rfl)
@[go_sem] theorem qBi:clB (Fc g)=true:=(rfl)
@[go_sem] theorem qBo:clE (I n)=true:=(rfl)
@[go_sem] theorem qBn:clE (B b)=true:=(rfl)
@[go_sem] theorem qBp:clE (S l)=true:=(rfl)
@[go_sem] theorem qBq:clE (U8 n)=true:=(rfl)
@[go_sem] theorem qmF {τ:Bool}:zd τ (I n)=I n:=(rfl)
@[go_sem] theorem qCc {τ:Bool}:zd τ (B b)=B b:=(rfl)
@[go_sem] theorem qmG {τ:Bool}:zd τ (S l)=S l:=(rfl)
@[go_sem] theorem qCg {τ:Bool}:zd τ (U8 n)=U8 n:=(rfl)
@[go_sem] theorem qCf {τ:Bool}:zd τ (U32 n)=U32 n:=(rfl)
@[go_sem] theorem qCd {τ:Bool}:zd τ (Fc g)=Fc g:=(rfl)
@[go_sem] theorem qjr:ze (I n)=true:=(rfl)
@[go_sem] theorem qHw:ze (B b)=true:=(rfl)
@[go_sem] theorem qjs:ze (S l)=true:=(rfl)
@[go_sem] theorem qHA:ze (U8 n)=true:=(rfl)
@[go_sem] theorem qHz:ze (U32 n)=true:=(rfl)
@[go_sem] theorem qHx:ze (Fc g)=true:=(rfl)
@[go_sem] theorem qBG {m:Nat} {T:Mem}:qx (m+1) T (I n)=(I n,T):=(rfl)
@[go_sem] theorem qBE {m:Nat} {T:Mem}:qx (m+1) T (B b)=(B b,T):=(rfl)
@[go_sem] theorem qBH {m:Nat} {T:Mem}:qx (m+1) T (S l)=(S l,T):=(rfl)
@[go_sem] theorem qBJ {m:Nat} {T:Mem}:qx (m+1) T (U8 n)=(U8 n,T):=(rfl)
@[go_sem] theorem qBI {m:Nat} {T:Mem}:qx (m+1) T (U32 n)=(U32 n,T):=(rfl)
@[go_sem] theorem qBF {m:Nat} {T:Mem}:qx (m+2) T (Fc g)=(Fc g,T):=(rfl)
@[go_sem] theorem qBN {m:Nat} {T:Mem} {τ:Bool} {xs:List V}:qx (m+1) T (.i τ xs)=(.i τ xs,T):=(rfl)
@[go_sem] theorem qBQ {m:Nat} {T:Mem} {e:Nat} {xs:List V}:qx (m+1) T (.o e xs)=(.o e xs,T):=(rfl)
@[go_sem] theorem qBS {m:Nat} {T:Mem} {τ:Bool} {xs:List V} {i o:Nat}:qx (m+1) T (.q τ xs i o)=(.q τ xs i o,T):=(rfl)
@[go_sem] theorem qBL {m:Nat} {T:Mem} {x:V}:qx (m+1) T (.b x)=(.b x,T):=(rfl)
@[go_sem] theorem qBP {m:Nat} {T:Mem} {e:Nat}:qx (m+1) T (.n e)=(.o e [],T):=(rfl)
@[go_sem] theorem qBK {m:Nat} {T:Mem} {cs:List V}:qx (m+1) T (.a cs)=(.a (qA (qx m) T cs).1,(qA (qx m) T cs).2):=(rfl)
@[go_sem] theorem qBU {m:Nat} {T:Mem} {cs:List V}:qx (m+1) T (.t cs)=(.t (qA (qx m) T cs).1,(qA (qx m) T cs).2):=(rfl)
@[go_sem] theorem qBM {m:Nat} {T:Mem} {fn:Fn} {xs ys:List V}:qx (m+1) T (.f fn xs ys)=(.f fn (qA (qx m) T xs).1 (qA (qx m) (qA (qx m) T xs).2 ys).1,(qA (qx m) (qA (qx m) T xs).2 ys).2):=(rfl)
def esV(m:Nat) (T:Mem) (xs:List V):List V × Mem:=zG (qE xs) (xs,T) (qA (qx m) T xs)
def sK(m:Nat) (T':Mem) (lo len:Nat) (ob:Option Ob) (T:Mem):V × Mem:=
 match ob with
 |none=>(.d,T)
 |some ob=>if lo+len≤ob.2.length then
  (if lo=0 then (.o ob.1 (((esV m T' ob.2).1.drop lo).take len),(esV m T' ob.2).2)
  else (.o ob.1 (esV m T' ((ob.2.drop lo).take len)).1,(esV m T' ((ob.2.drop lo).take len)).2))else (.d,T)
@[go_sem] theorem qBT {m:Nat} {T:Mem} {k:Key} {lo len:Nat}:qx (m+1) T (.s k lo len)=sK m (qB T k) lo len (qu T k) T:=by
 simp only [qx,sK,esV,zG];cases qu T k<;>rfl
@[go_sem] theorem qKs {m:Nat} {T T':Mem} {lo len e:Nat} {xs:List V}:sK m T' lo len (some (e,xs)) T=if lo+len≤xs.length then (if lo=0 then (.o e (((esV m T' xs).1.drop lo).take len),(esV m T' xs).2)else (.o e (esV m T' ((xs.drop lo).take len)).1,(esV m T' ((xs.drop lo).take len)).2))else (.d,T):=(rfl)
@[go_sem] theorem qKr {m:Nat} {T T':Mem} {lo len:Nat}:sK m T' lo len none T=(.d,T):=(rfl)
@[go_sem] theorem qDL {m:Nat} {T:Mem} {xs:List V}:esV m T xs=zG (qE xs) (xs,T) (qA (qx m) T xs):=(rfl)
def pK(m:Nat) (T':Mem) (ob:Option Ob) (T:Mem):V × Mem:=
 match ob with
 |some (_,[x])=>(.b ((esV m T' [x]).1.headD .d),(esV m T' [x]).2)
 |_=>(.d,T)
@[go_sem] theorem qBR {m:Nat} {T:Mem} {k:Key}:qx (m+1) T (.p k 0 0)=pK m (qB T k) (qu T k) T:=by
 simp only [qx,pK,esV,zG]
 cases qu T k with
 |none=>rfl
 |some ob=>obtain ⟨e,xs⟩:=ob;rcases xs with _|⟨x,_|⟨y,r⟩⟩<;>rfl
@[go_sem] theorem qIP {m:Nat} {T T':Mem} {e:Nat} {x:V}:pK m T' (some (e,[x])) T=(.b ((esV m T' [x]).1.headD .d),(esV m T' [x]).2):=(rfl)
@[go_sem] theorem qIO {m:Nat} {T T':Mem}:pK m T' none T=(.d,T):=(rfl)
attribute [go_sem] qA List.headD jn wT qc8
def qKk(T:Mem) (k:Key) (ob:Option Ob):Mem:=
 match ob with
 |none=>T
 |some ob=>zG (qE ob.2) (kK k ob (qB T k)) (qB T k)
end vals
@[go_sem] theorem qEo {d:Nat} {x:AO}:qm call ⟨σ,T⟩ (.mv d x)=qq (ev σ x) fun y=>some ⟨(d,y)::σ,T⟩:=by
 simp only [qm,qi];cases ev σ x<;>rfl
def qbc {α:Type} (c:Option V) (x y:α) (z:α):α:=
 match c with
 |some (.v (.bool true))=>x
 |some (.v (.bool false))=>y
 |_=>z
@[congr] theorem qKw {α:Type} {c c':Option V} {x y z:α} (h:c=c'):qbc c x y z=qbc c' x y z:=by rw [h]
@[go_sem] theorem qKv {α:Type} {b:Bool} {x y z:α}:qbc (some (B b)) x y z=if b=true then x else y:=by cases b<;>rfl
end
end Go.Vm
namespace Go.Vm
section
variable {prog:Nat→Option AE} {st:St} {σ:Sl} {T:Mem} {call:Call}
@[go_sem] theorem qyO {d:Nat} {x:AO}:qi call ⟨σ,T⟩ (.mv d x)=qm call ⟨σ,T⟩ (.mv d x):=(rfl)
@[go_sem] theorem qyS {d:Nat} {x:AO} {y:AO} {z:AO}:qi call ⟨σ,T⟩ (.pick d x y z)=qm call ⟨σ,T⟩ (.pick d x y z):=(rfl)
@[go_sem] theorem qyQ {d:Nat} {x:AO}:qi call ⟨σ,T⟩ (.new d x)=qm call ⟨σ,T⟩ (.new d x):=(rfl)
@[go_sem] theorem qyt {d:Nat} {v:V} {bs:List (Nat × Nat × AO)}:qi call ⟨σ,T⟩ (.build d v bs)=qm call ⟨σ,T⟩ (.build d v bs):=(rfl)
@[go_sem] theorem qyM {d:Nat} {e:Nat} {xs:List AO}:qi call ⟨σ,T⟩ (.mks d e xs)=qm call ⟨σ,T⟩ (.mks d e xs):=(rfl)
@[go_sem] theorem qyK {d:Nat} {e:Nat} {v:V} {n:Nat} {x:AO} {y:AO}:qi call ⟨σ,T⟩ (.mk d e v n x y)=qm call ⟨σ,T⟩ (.mk d e v n x y):=(rfl)
@[go_sem] theorem qyE {d:Nat} {p:Bool} {n:Nat} {x:AO}:qi call ⟨σ,T⟩ (.ld d p n x)=qm call ⟨σ,T⟩ (.ld d p n x):=(rfl)
@[go_sem] theorem qyF {d:Nat} {p:Bool} {n:Nat} {x:AO}:qi call ⟨σ,T⟩ (.ldq d p n x)=qm call ⟨σ,T⟩ (.ldq d p n x):=(rfl)
@[go_sem] theorem qyR {d:Nat} {x:AO}:qi call ⟨σ,T⟩ (.nilc d x)=qm call ⟨σ,T⟩ (.nilc d x):=(rfl)
@[go_sem] theorem qys {d:Nat} {op:BinOp} {x:AO} {y:AO}:qi call ⟨σ,T⟩ (.bin d op x y)=qm call ⟨σ,T⟩ (.bin d op x y):=(rfl)
@[go_sem] theorem qyw {d:Nat} {n:Nat} {p:Bool} {x:AO} {y:AO}:qi call ⟨σ,T⟩ (.eqs d n p x y)=qm call ⟨σ,T⟩ (.eqs d n p x y):=(rfl)
@[go_sem] theorem qyY {d:Nat} {uo:UnOp} {x:AO}:qi call ⟨σ,T⟩ (.un d uo x)=qm call ⟨σ,T⟩ (.un d uo x):=(rfl)
@[go_sem] theorem qyT {d:Nat} {e:Nat} {x:AO} {ox:Option AO} {oy:Option AO}:qi call ⟨σ,T⟩ (.sl d e x ox oy)=qm call ⟨σ,T⟩ (.sl d e x ox oy):=(rfl)
@[go_sem] theorem qyV {d:Nat} {x:AO} {ox:Option AO} {oy:Option AO}:qi call ⟨σ,T⟩ (.ssl d x ox oy)=qm call ⟨σ,T⟩ (.ssl d x ox oy):=(rfl)
@[go_sem] theorem qyU {d:Nat} {x:AO}:qi call ⟨σ,T⟩ (.slen d x)=qm call ⟨σ,T⟩ (.slen d x):=(rfl)
@[go_sem] theorem qyy {d:Nat} {x:AO} {n:Nat}:qi call ⟨σ,T⟩ (.fa d x n)=qm call ⟨σ,T⟩ (.fa d x n):=(rfl)
@[go_sem] theorem qyz {d:Nat} {p:Bool} {n:Nat} {x:AO} {m:Nat}:qi call ⟨σ,T⟩ (.fld d p n x m)=qm call ⟨σ,T⟩ (.fld d p n x m):=(rfl)
@[go_sem] theorem qyB {d:Nat} {e:Nat} {x:AO} {y:AO}:qi call ⟨σ,T⟩ (.ia d e x y)=qm call ⟨σ,T⟩ (.ia d e x y):=(rfl)
@[go_sem] theorem qyD {d:Nat} {x:AO} {y:AO}:qi call ⟨σ,T⟩ (.ix d x y)=qm call ⟨σ,T⟩ (.ix d x y):=(rfl)
@[go_sem] theorem qyx {d:Nat} {x:AO} {n:Nat}:qi call ⟨σ,T⟩ (.ext d x n)=qm call ⟨σ,T⟩ (.ext d x n):=(rfl)
@[go_sem] theorem qyA {d:Nat} {fn:Fn} {xs:List AO} {ys:List AO}:qi call ⟨σ,T⟩ (.fun d fn xs ys)=qm call ⟨σ,T⟩ (.fun d fn xs ys):=(rfl)
@[go_sem] theorem qyr {d:Nat} {e:Nat} {n:Nat} {x:AO} {y:AO}:qi call ⟨σ,T⟩ (.app d e n x y)=qm call ⟨σ,T⟩ (.app d e n x y):=(rfl)
@[go_sem] theorem qyG {d:Nat} {x:AO}:qi call ⟨σ,T⟩ (.len d x)=qm call ⟨σ,T⟩ (.len d x):=(rfl)
@[go_sem] theorem qyP {d:Nat} {p:Bool} {xs:List AO}:qi call ⟨σ,T⟩ (.mx d p xs)=qm call ⟨σ,T⟩ (.mx d p xs):=(rfl)
@[go_sem] theorem qyC {d:Nat} {ik:IntKind} {x:AO}:qi call ⟨σ,T⟩ (.int d ik x)=qm call ⟨σ,T⟩ (.int d ik x):=(rfl)
@[go_sem] theorem qyX {d:Nat} {x:AO}:qi call ⟨σ,T⟩ (.str d x)=qm call ⟨σ,T⟩ (.str d x):=(rfl)
@[go_sem] theorem qyu {d:Nat} {x:AO}:qi call ⟨σ,T⟩ (.byt d x)=qm call ⟨σ,T⟩ (.byt d x):=(rfl)
@[go_sem] theorem qyW {n:Nat} {x:AO} {y:AO}:qi call ⟨σ,T⟩ (.st n x y)=qm call ⟨σ,T⟩ (.st n x y):=(rfl)
@[go_sem] theorem qyv {o:Option Nat} {x:AO} {xs:List AO} {md:Md}:qi call ⟨σ,T⟩ (.call o x xs md)=qm call ⟨σ,T⟩ (.call o x xs md):=(rfl)
@[go_sem] theorem qEs {d:Nat} {c x y:AO}:qm call ⟨σ,T⟩ (.pick d c x y)=qbc (ev σ c) (qq (ev σ x) fun y=>some ⟨(d,y)::σ,T⟩) (qq (ev σ y) fun y=>some ⟨(d,y)::σ,T⟩) none:=by
 simp only [qm,qi,qbc]
 split
 ·rename_i h;rw [h];cases ev σ x<;>rfl
 ·rename_i h;rw [h];cases ev σ y<;>rfl
 ·rename_i h1 h2;split
  ·rename_i h;exact absurd h h1
  ·rename_i h;exact absurd h h2
  ·rfl
@[go_sem] theorem qEq {d:Nat} {x:AO}:qm call ⟨σ,T⟩ (.new d x)=qq (ev σ x) fun y=>kd (yC y.cells) (some ⟨(d,.p (d,0) 0 0)::xt d σ,((d,0),y.cells.length,[qN d y])::wT d T⟩):=by
 simp only [qm,qi];cases ev σ x<;>rfl
def qmr:List V→List (Nat × Nat × V)→Option (List V)
 |z,[]=>some z
 |z,(off,size,y)::r=>kd (!y.dead&&decide (y.cells.length=size∧off+size≤z.length)) (qmr (z.take off++y.cells++z.drop (off+size)) r)
@[go_sem] theorem qAH {z:List V}:jB σ z []=some z:=(rfl)
@[go_sem] theorem qAG {z:List V} {off size:Nat} {x:AO} {r:List (Nat × Nat × AO)}:jB σ z ((off,size,x)::r)=
 qq (ev σ x) fun y=>kd (!y.dead&&decide (y.cells.length=size)&&decide (off+size≤z.length)) (jB σ (z.take off++y.cells++z.drop (off+size)) r):=by
 simp only [jB]
 cases ev σ x with
 |none=>rfl
 |some y=>
  simp only [qq,kd]
  congr 1
  simp [and_assoc]
@[go_sem] theorem qD1 {d:Nat} {z:V} {parts:List (Nat × Nat × AO)}:qm call ⟨σ,T⟩ (.build d z parts)=yf (jB σ z.cells parts) fun cs=>some ⟨(d,.a cs)::σ,T⟩:=by
 simp only [qm,qi];cases jB σ z.cells parts<;>rfl
def kU(e:Nat):List V→Bool
 |[]=>true
 |y::ys=>yC y.cells&&(y.cells.length==e)&&kU e ys
theorem qeh(e:Nat): ∀ (ys:List V),kU e ys=ys.all fun y=>yC y.cells&&y.cells.length==e
 |[]=>rfl
 |y::ys=>by simp only [kU,List.all_cons,qeh e ys]
attribute [go_sem] kU
@[go_sem] theorem qEm {d e:Nat} {parts:List AO}:qm call ⟨σ,T⟩ (.mks d e parts)=yf (evL σ parts) fun ys=>
 kd (kU e ys) (some ⟨(d,.s (d,0) 0 ys.length)::xt d σ,((d,0),e,qG d ys)::wT d T⟩):=by
 simp only [qm,qi,qeh];cases evL σ parts<;>rfl
def mkK(e bytes:Nat) (z l c:V) (d:Nat) (σ:Sl) (T:Mem):Option St:=
 match l,c with
 | .v (.int _ l),.v (.int _ c)=>
  if 0≤l∧l=c∧l*bytes≤lim∧l≤lim∧z.cells.length=e∧yC z.cells∧clE z then
   some {σ:=(d,.s (d,0) 0 l.toNat)::(zg d ⟨σ,T⟩).σ,T:=((d,0),e,List.replicate l.toNat z)::(zg d ⟨σ,T⟩).T}
  else none
 |_,_=>none
@[go_sem] theorem qEk {d e bytes:Nat} {z:V} {l c:AO}:qm call ⟨σ,T⟩ (.mk d e z bytes l c)=qq (ev σ l) fun l=>qq (ev σ c) fun c=>mkK e bytes z l c d σ T:=by
 simp only [qm,qi,mkK]
 cases ev σ l with
 |none=>rfl
 |some l=>cases ev σ c with
  |none=>cases l<;>first|rfl|(rename_i v;cases v<;>rfl)
  |some c=>cases l<;>first|rfl|(rename_i v;cases v<;>first|rfl|(cases c<;>first|rfl|(rename_i v;cases v<;>rfl)))
theorem qqD {e bytes:Nat} {z:V} {n d:Nat} (h1:n*bytes≤lim) (h2:n≤lim) (hz:z.cells.length=e) (ho:yC z.cells=true) (hc:clE z=true):
 mkK e bytes z (I n) (I n) d σ T=some ⟨(d,.s (d,0) 0 n)::xt d σ,((d,0),e,List.replicate n z)::wT d T⟩:=by
 simp only [mkK,I]
 rw [if_pos ⟨by omega,trivial,by exact_mod_cast h1,by exact_mod_cast h2,hz,ho,hc⟩]
 simp [qgq]
@[go_sem] theorem qEe {d size:Nat} {agg:Bool} {a:AO}:qm call ⟨σ,T⟩ (.ld d agg size a)=qq (ev σ a) fun p=>qq (xx T agg size p) fun y=>
 zG (zb y) (some ⟨(d,y)::σ,T⟩) (qq (xx (wT d T) agg size p) fun y'=>QI (QY (wT d T) p (qP d 0 y').1) fun T'=>some ⟨(d,(qP d 0 y').1)::xt d σ,(qP d 0 y').2.2++T'⟩):=by
 simp only [qm,qi]
 cases ev σ a with
 |none=>rfl
 |some p=>
  simp only [qq]
  cases xx T agg size p with
  |none=>rfl
  |some y=>
   simp only [zG]
   cases h:zb y
   ·simp only [Bool.not_false,Bool.false_eq_true,if_true,if_false,qgq]
    cases xx (wT d T) agg size p with
    |none=>rfl
    |some y'=>
     simp only
     cases QY (wT d T) p (qP d 0 y').1<;>rfl
   ·simp [St.put]
@[go_sem] theorem qEf {d size:Nat} {agg:Bool} {a:AO}:qm call ⟨σ,T⟩ (.ldq d agg size a)=qq (ev σ a) fun p=>qq (xx T agg size p) fun y=>kd (zb y) (some ⟨(d,y)::σ,T⟩):=by
 simp only [qm,qi]
 cases ev σ a with
 |none=>rfl
 |some p=>simp only [qq];cases xx T agg size p<;>rfl
@[go_sem] theorem qEw {size:Nat} {a x:AO}:qm call ⟨σ,T⟩ (.st size a x)=qq (ev σ a) fun p=>qq (ev σ x) fun y=>
 kd (decide (y.cells.length=size)&&yC y.cells) (QI (QY T p y) fun T'=>some ⟨σ,T'⟩):=by
 simp only [qm,qi]
 cases ev σ a with
 |none=>rfl
 |some p=>cases ev σ x with
  |none=>rfl
  |some y=>
   simp only [qq,kd,Bool.and_eq_true,decide_eq_true_eq]
   congr 1
   cases QY T p y<;>rfl
def qaP(d:Nat) (σ:Sl) (T:Mem):V→Option St
 | .p k idx off=>some ⟨(d,.p k idx off)::σ,T⟩
 | .q τ xs idx off=>some ⟨(d,.q τ xs idx off)::σ,T⟩
 | .f (.func g) first caps=>some ⟨(d,.f (.func g) first caps)::σ,T⟩
 |_=>none
@[go_sem] theorem qGj {d:Nat} {k:Key} {i o:Nat}:qaP d σ T (.p k i o)=some ⟨(d,.p k i o)::σ,T⟩:=(rfl)
@[go_sem] theorem qGk {d:Nat} {τ:Bool} {xs:List V} {i o:Nat}:qaP d σ T (.q τ xs i o)=some ⟨(d,.q τ xs i o)::σ,T⟩:=(rfl)
@[go_sem] theorem qGi {d g:Nat} {xs ys:List V}:qaP d σ T (.f (.func g) xs ys)=some ⟨(d,.f (.func g) xs ys)::σ,T⟩:=(rfl)
@[go_sem] theorem qGh {d g:Nat}:qaP d σ T (Fc g)=some ⟨(d,Fc g)::σ,T⟩:=(rfl)
@[go_sem] theorem qEr {d:Nat} {x:AO}:qm call ⟨σ,T⟩ (.nilc d x)=qq (ev σ x) fun y=>qaP d σ T y:=by
 simp only [qm,qi]
 cases ev σ x with
 |none=>rfl
 |some y=>cases y<;>first|rfl|(rename_i f _ _;cases f<;>rfl)
@[go_sem] theorem qD0 {d:Nat} {op:BinOp} {x y:AO}:qm call ⟨σ,T⟩ (.bin d op x y)=qq (ev σ x) fun x=>qq (ev σ y) fun y=>qq (zw op x y) fun z=>some ⟨(d,z)::σ,T⟩:=by
 simp only [qm,qi]
 cases ev σ x with
 |none=>rfl
 |some x=>cases ev σ y with
  |none=>rfl
  |some y=>simp only [qq];cases zw op x y<;>rfl
def eqB(k:Nat) (x y:V):Option V:=(eqV k x y).map B
@[go_sem] theorem qD4 {d k:Nat} {neg:Bool} {x y:AO}:qm call ⟨σ,T⟩ (.eqs d k neg x y)=qq (ev σ x) fun x=>qq (ev σ y) fun y=>qq ((eqV k x y).map fun r=>B (r != neg)) fun z=>some ⟨(d,z)::σ,T⟩:=by
 simp only [qm,qi]
 cases ev σ x with
 |none=>rfl
 |some x=>cases ev σ y with
  |none=>rfl
  |some y=>simp only [qq];cases eqV k x y<;>rfl
def unV(op:UnOp):V→Option V
 | .v x=>(Op.unary op x).val?.map .v
 |_=>none
@[go_sem] theorem qEy {d:Nat} {op:UnOp} {x:AO}:qm call ⟨σ,T⟩ (.un d op x)=qq (ev σ x) fun x=>qq (unV op x) fun z=>some ⟨(d,z)::σ,T⟩:=by
 simp only [qm,qi]
 cases ev σ x with
 |none=>rfl
 |some x=>cases x<;>first|rfl|(simp only [qq,unV,Option.map_map];rename_i v;cases (Op.unary op v).val?<;>rfl)
@[go_sem] theorem qKO {b:Bool}:unV .not (B b)=some (B (!b)):=(rfl)
@[go_sem] theorem qKN {n:Int}:unV .neg (I n)=some (I (w64 (0 - n))):=(rfl)
def QJ {α:Type} (r:Option (Option V)) (k:Option V→Option α):Option α:=
 match r with
 |some y=>k y
 |none=>none
@[congr] theorem qz1 {α:Type} {r r':Option (Option V)} {k:Option V→Option α} (h:r=r'):QJ r k=QJ r' k:=by rw [h]
@[go_sem] theorem qz2 {α:Type} {x:Option V} {k:Option V→Option α}:QJ (some x) k=k x:=(rfl)
@[go_sem] theorem qDQ {x:AO}:evO σ (some x)=qq (ev σ x) fun y=>some (some y):=by
 simp only [evO];cases ev σ x<;>rfl
@[go_sem] theorem qEt {d e:Nat} {x:AO} {lo hi:Option AO}:qm call ⟨σ,T⟩ (.sl d e x lo hi)=qq (ev σ x) fun x=>QJ (evO σ lo) fun lo=>QJ (evO σ hi) fun hi=>qq (qdh T e x lo hi) fun z=>some ⟨(d,z)::σ,T⟩:=by
 simp only [qm,qi]
 cases ev σ x with
 |none=>rfl
 |some x=>cases evO σ lo with
  |none=>rfl
  |some lo=>cases evO σ hi with
   |none=>rfl
   |some hi=>simp only [qq,QJ];cases qdh T e x lo hi<;>rfl
def qbe(x:V) (lo hi:Option V):Option V:=
 match x with
 | .v (.string s)=>match xI 0 lo,xI s.size hi with
  |some l,some h=>if l≤h∧h≤s.size then some (.v (.string (s.extract l h)))else none
  |_,_=>none
 |_=>none
@[go_sem] theorem qEv {d:Nat} {x:AO} {lo hi:Option AO}:qm call ⟨σ,T⟩ (.ssl d x lo hi)=qq (ev σ x) fun x=>QJ (evO σ lo) fun lo=>QJ (evO σ hi) fun hi=>qq (qbe x lo hi) fun z=>some ⟨(d,z)::σ,T⟩:=by
 simp only [qm,qi]
 cases ev σ x with
 |none=>rfl
 |some x=>cases evO σ lo with
  |none=>cases x<;>first|rfl|(rename_i v;cases v<;>rfl)
  |some lo=>cases evO σ hi with
   |none=>cases x<;>first|rfl|(rename_i v;cases v<;>rfl)
   |some hi=>
    simp only [qq,QJ,qbe]
    cases x<;>first|rfl|(rename_i v;cases v<;>first|rfl|skip)
    rename_i s
    simp only
    cases xI 0 lo with
    |none=>rfl
    |some l=>cases xI s.size hi with
     |none=>rfl
     |some h=>simp only;split<;>rfl
def Zx(d:Nat):Option V→Option Int
 |none=>some d
 |some (.v (.int _ i))=>some i
 |_=>none
@[go_sem] theorem qAk {d:Nat}:Zx d none=some d:=(rfl)
@[go_sem] theorem qAj {d:Nat} {i:Int}:Zx d (some (I i))=some i:=(rfl)
theorem quv {l:List UInt8} {lo hi:Option V} {a b:Int} (h1:Zx 0 lo=some a) (h2:Zx l.length hi=some b) (h3:0≤a) (h4:a≤b) (h5:b≤l.length):
 qbe (S l) lo hi=some (S ((l.take b.toNat).drop a.toNat)):=by
 have e1:xI 0 lo=some a.toNat:=by
  unfold xI;unfold Zx at h1;split at h1
  ·simp only [Option.some.injEq]at h1;subst h1;simp
  ·simp only [Option.some.injEq]at h1;subst h1;simp [h3]
  ·cases h1
 have e2:xI l.length hi=some b.toNat:=by
  unfold xI;unfold Zx at h2;split at h2
  ·simp only [Option.some.injEq]at h2;subst h2;simp
  ·simp only [Option.some.injEq]at h2;subst h2;show (if _ then _ else _)=_;rw [if_pos (by omega)]
  ·cases h2
 have hs:(ByteArray.mk l.toArray).size=l.length:=by simp [ByteArray.size]
 simp only [qbe,S,hs,e1,e2]
 rw [if_pos ⟨by omega,by omega⟩]
 congr 3
 apply ByteArray.ext
 apply Array.ext'
 simp only [ByteArray.data_extract,List.extract_toArray,List.toList_toArray,List.extract_eq_take_drop]
 rw [List.drop_take]
def qgb:V→Option V
 | .v (.string s)=>some (.v (.int .i64 s.size))
 |_=>none
@[go_sem] theorem qEu {d:Nat} {x:AO}:qm call ⟨σ,T⟩ (.slen d x)=qq (ev σ x) fun x=>qq (qgb x) fun z=>some ⟨(d,z)::σ,T⟩:=by
 simp only [qm,qi]
 cases ev σ x with
 |none=>rfl
 |some x=>cases x<;>first|rfl|(rename_i v;cases v<;>rfl)
@[go_sem] theorem qKC {l:List UInt8}:qgb (S l)=some (I l.length):=by simp [qgb,S,I,ByteArray.size]
def faV(off:Nat):V→Option V
 | .p k idx o=>some (.p k idx (o+off))
 | .q τ xs idx o=>some (.q τ xs idx (o+off))
 |_=>none
@[go_sem] theorem qDU {off:Nat} {k:Key} {i o:Nat}:faV off (.p k i o)=some (.p k i (o+off)):=(rfl)
@[go_sem] theorem qDV {off:Nat} {τ:Bool} {xs:List V} {i o:Nat}:faV off (.q τ xs i o)=some (.q τ xs i (o+off)):=(rfl)
@[go_sem] theorem qD6 {d off:Nat} {x:AO}:qm call ⟨σ,T⟩ (.fa d x off)=qq (ev σ x) fun x=>qq (faV off x) fun z=>some ⟨(d,z)::σ,T⟩:=by
 simp only [qm,qi]
 cases ev σ x with
 |none=>rfl
 |some x=>cases x<;>rfl
def qeC(agg:Bool) (size off:Nat):V→Option V
 | .a cs=>qY agg size (.a cs) off
 |_=>none
@[go_sem] theorem qDW {agg:Bool} {size off:Nat} {cs:List V}:qeC agg size off (.a cs)=qY agg size (.a cs) off:=(rfl)
@[go_sem] theorem qD7 {d size off:Nat} {agg:Bool} {x:AO}:qm call ⟨σ,T⟩ (.fld d agg size x off)=qq (ev σ x) fun x=>qq (qeC agg size off x) fun z=>some ⟨(d,z)::σ,T⟩:=by
 simp only [qm,qi]
 cases ev σ x with
 |none=>rfl
 |some x=>cases x<;>first|rfl|(simp only [qq,qeC];rename_i cs;cases qY agg size (.a cs) off<;>rfl)
def iaV(T:Mem) (e:Nat) (x i:V):Option V:=
 match i with
 | .v (.int _ i)=>kS T e x i
 |_=>none
@[go_sem] theorem qEF {e:Nat} {x:V} {i:Int}:iaV T e x (I i)=kS T e x i:=(rfl)
@[go_sem] theorem qEb {d e:Nat} {x i:AO}:qm call ⟨σ,T⟩ (.ia d e x i)=qq (ev σ x) fun x=>qq (ev σ i) fun i=>qq (iaV T e x i) fun z=>some ⟨(d,z)::σ,T⟩:=by
 simp only [qm,qi]
 cases ev σ x with
 |none=>rfl
 |some x=>cases ev σ i with
  |none=>rfl
  |some i=>cases i<;>first|rfl|(rename_i v;cases v<;>first|rfl|(simp only [qq,iaV];rename_i j;cases kS T e x j<;>rfl))
def ixV:V→V→Option V
 | .v (.string s),.v (.int _ i)=>(zV i s.size).map fun j=>qca (s.data[j]?.getD 0)
 |_,_=>none
@[go_sem] theorem qEd {d:Nat} {x i:AO}:qm call ⟨σ,T⟩ (.ix d x i)=qq (ev σ x) fun x=>qq (ev σ i) fun i=>qq (ixV x i) fun z=>some ⟨(d,z)::σ,T⟩:=by
 simp only [qm,qi]
 cases ev σ x with
 |none=>rfl
 |some x=>cases ev σ i with
  |none=>cases x<;>first|rfl|(rename_i v;cases v<;>rfl)
  |some i=>
   cases x<;>first|rfl|(rename_i v;cases v<;>first|rfl|skip)
   rename_i s
   cases i<;>first|rfl|(rename_i v;cases v<;>first|rfl|(simp only [qq,ixV];rename_i j;cases zV j s.size<;>rfl))
theorem z8 {l:List UInt8} {i:Int} {c:UInt8} (h0:0≤i) (h:l[i.toNat]? =some c):ixV (S l) (I i)=some (U8 c.toNat):=by
 have hl:i.toNat < l.length:=(List.getElem?_eq_some_iff.1 h).1
 have hs:(ByteArray.mk l.toArray).size=l.length:=by simp [ByteArray.size]
 simp only [ixV,S,I,hs,zV]
 rw [if_pos ⟨h0,by omega⟩]
 simp [h,qca,U8]
def qeA(i:Nat):V→Option V
 | .t vs=>vs[i]?
 |_=>none
@[go_sem] theorem qDT {i:Nat} {vs:List V}:qeA i (.t vs)=vs[i]? :=(rfl)
@[go_sem] theorem qD5 {d i:Nat} {x:AO}:qm call ⟨σ,T⟩ (.ext d x i)=qq (ev σ x) fun x=>qq (qeA i x) fun z=>some ⟨(d,z)::σ,T⟩:=by
 simp only [qm,qi]
 cases ev σ x with
 |none=>rfl
 |some x=>cases x<;>first|rfl|(simp only [qq,qeA];rename_i vs;cases vs[i]? <;>rfl)
@[go_sem] theorem qD8 {d:Nat} {fn:Fn} {first caps:List AO}:qm call ⟨σ,T⟩ (.fun d fn first caps)=yf (evL σ first) fun a=>yf (evL σ caps) fun b=>some ⟨(d,.f fn a b)::σ,T⟩:=by
 simp only [qm,qi]
 cases evL σ first with
 |none=>rfl
 |some a=>cases evL σ caps<;>rfl
def qaK(x:V):Option V:=(YG x).map fun n=>I n
@[go_sem] theorem qFy {k:Key} {lo len:Nat}:qaK (.s k lo len)=some (I len):=(rfl)
@[go_sem] theorem qFw {τ:Bool} {xs:List V}:qaK (.i τ xs)=some (I xs.length):=(rfl)
@[go_sem] theorem qFx {e:Nat}:qaK (.n e)=some (I 0):=(rfl)
@[go_sem] theorem qEg {d:Nat} {x:AO}:qm call ⟨σ,T⟩ (.len d x)=qq (ev σ x) fun x=>qq (qaK x) fun z=>some ⟨(d,z)::σ,T⟩:=by
 simp only [qm,qi]
 cases ev σ x with
 |none=>rfl
 |some x=>simp only [qq,qaK];cases YG x<;>rfl
def mxV(max:Bool):List V→Option V
 |[.v (.int k a),.v (.int _ b)]=>some (.v (.int k (if max then (if b > a then b else a)else (if b < a then b else a))))
 |_=>none
@[go_sem] theorem qEp {d:Nat} {max:Bool} {args:List AO}:qm call ⟨σ,T⟩ (.mx d max args)=yf (evL σ args) fun xs=>qq (mxV max xs) fun z=>some ⟨(d,z)::σ,T⟩:=by
 simp only [qm,qi]
 cases evL σ args with
 |none=>rfl
 |some xs=>
  rcases xs with _|⟨x,_|⟨y,_|⟨z,r⟩⟩⟩
  ·rfl
  ·cases x<;>first|rfl|(rename_i v;cases v<;>rfl)
  ·cases x<;>first|rfl|(rename_i v;cases v<;>first|rfl|(cases y<;>first|rfl|(rename_i v;cases v<;>rfl)))
  ·cases x<;>first|rfl|(rename_i v;cases v<;>first|rfl|(cases y<;>first|rfl|(rename_i v;cases v<;>rfl)))
@[go_sem] theorem qGc {a b:Int}:mxV true [I a,I b]=some (I (if b > a then b else a)):=(rfl)
@[go_sem] theorem qGd {a b:Int}:mxV false [I a,I b]=some (I (if b < a then b else a)):=(rfl)
def qeT(k:IntKind):V→Option V
 | .v (.int _ n)=>some (.v (.int k (k.wrap n)))
 |_=>none
@[go_sem] theorem qEc {d:Nat} {k:IntKind} {x:AO}:qm call ⟨σ,T⟩ (.int d k x)=qq (ev σ x) fun x=>qq (qeT k x) fun z=>some ⟨(d,z)::σ,T⟩:=by
 simp only [qm,qi]
 cases ev σ x with
 |none=>rfl
 |some x=>cases x<;>first|rfl|(rename_i v;cases v<;>rfl)
@[go_sem] theorem qEJ {n:Int}:qeT .i64 (U8 n)=some (I (w64 n)):=(rfl)
@[go_sem] theorem qEI {n:Int}:qeT .u8 (I n)=some (U8 (IntKind.u8.wrap n)):=(rfl)
def qgi(xs:Option (List V)):Option V:=
 match xs with
 |some xs=>(kV xs).map fun l=>S l
 |none=>none
@[go_sem] theorem qEx {d:Nat} {x:AO}:qm call ⟨σ,T⟩ (.str d x)=qq (ev σ x) fun x=>qq (qgi (kX T 1 x)) fun z=>some ⟨(d,z)::σ,T⟩:=by
 simp only [qm,qi]
 cases ev σ x with
 |none=>rfl
 |some x=>
  simp only [qq]
  cases kX T 1 x with
  |none=>rfl
  |some xs=>simp only [qgi];cases kV xs<;>rfl
@[go_sem] theorem qKI {xs:List V}:qgi (some xs)=(kV xs).map fun l=>S l:=(rfl)
def Yw {α:Type} (f:V) (k:Nat→List V→List V→Option α):Option α:=
 match f with
 | .f (.func g) first caps=>k g first caps
 |_=>none
@[congr] theorem qAJ {α:Type} {f f':V} {k:Nat→List V→List V→Option α} (h:f=f'):Yw f k=Yw f' k:=by rw [h]
@[go_sem] theorem qAI {α:Type} {g:Nat} {k:Nat→List V→List V→Option α}:Yw (Fc g) k=k g [] []:=(rfl)
@[go_sem] theorem qAK {α:Type} {g:Nat} {a b:List V} {k:Nat→List V→List V→Option α}:Yw (.f (.func g) a b) k=k g a b:=(rfl)
@[go_sem] theorem qD3 {d:Option Nat} {f:AO} {args:List AO} {fz:Bool}:qm (cw prog) ⟨σ,T⟩ (.call d f args (.ro fz))=qq (ev σ f) fun fv=>yf (evL σ args) fun xs=>
 Yw fv fun g first caps=>qq (cr prog g (jn T (first++xs++caps))) fun r=>kd (ze r) (some (x3 d (fzV fz r) ⟨σ,T⟩)):=by
 simp only [qm,qi]
 cases ev σ f with
 |none=>rfl
 |some fv=>
  cases evL σ args with
  |none=>simp only [qq,yf];cases callee fv<;>rfl
  |some xs=>
   simp only [qq,yf]
   cases fv with
   |f fn first caps=>
    cases fn<;>first|rfl|skip
    simp only [callee,Yw,x9]
    unfold cr
    rename_i g
    cases cw prog g (jn T (first++xs++caps))with
    |none=>rfl
    |some r=>obtain ⟨r,o⟩:=r;rfl
   |_=>rfl
def ioK {α:Type} (r:Option (V × List V)) (k:V→List V→Option α):Option α:=
 match r with
 |some (r,outs)=>k r outs
 |none=>none
@[congr] theorem qEL {α:Type} {r r':Option (V × List V)} {k:V→List V→Option α} (h:r=r'):ioK r k=ioK r' k:=by rw [h]
@[go_sem] theorem qEM {α:Type} {r:V} {outs:List V} {k:V→List V→Option α}:ioK (some (r,outs)) k=k r outs:=(rfl)
@[go_sem] theorem qD2 {d:Option Nat} {f:AO} {args:List AO} {fz:Bool}:qm (cw prog) ⟨σ,T⟩ (.call d f args (.io fz))=qq (ev σ f) fun fv=>yf (evL σ args) fun xs=>
 Yw fv fun g first caps=>ioK (cw prog g (qA (qx 30) T (first++xs++caps)).1) fun r outs=>some (x3 d (fzV fz r) ⟨σ,QH T (first++xs++caps) outs++(qA (qx 30) T (first++xs++caps)).2⟩):=by
 simp only [qm,qi]
 cases ev σ f with
 |none=>rfl
 |some fv=>
  cases evL σ args with
  |none=>simp only [qq,yf];cases callee fv<;>rfl
  |some xs=>
   simp only [qq,yf]
   cases fv with
   |f fn first caps=>
    cases fn<;>first|rfl|skip
   |_=>rfl
def bkO(k:Key) (lo e:Nat) (xs:List V) (ob:Option Ob):Mem:=
 match ob with
 |some ob=>if lo=0∧ob.1=e then [(k,e,xs)]else []
 |none=>[]
section
variable {k:Key} {lo len e i o:Nat} {xs ys zs:List V} {x y:V} {τ:Bool} {n:Int} {b:Bool} {l:List UInt8} {fn fn':Fn} {cs ds:List V}
@[go_sem] theorem qzk:xg T (.s k lo len) (.o e xs)=bkO k lo e xs (qu T k):=by simp only [xg,bkO];cases qu T k<;>rfl
@[go_sem] theorem qAf {e':Nat} {zs:List V}:bkO k lo e xs (some (e',zs))=if lo=0∧e'=e then [(k,e,xs)]else []:=(rfl)
@[go_sem] theorem qzj:xg T (.s k lo len) .d=[]:=(rfl)
@[go_sem] theorem qzf:xg T (.i τ xs) y=[]:=(rfl)
@[go_sem] theorem qzd:xg T (I n) y=[]:=(rfl)
@[go_sem] theorem qze:xg T (S l) y=[]:=(rfl)
@[go_sem] theorem qzc:xg T (B b) y=[]:=(rfl)
@[go_sem] theorem qzg:xg T (.n e) y=[]:=(rfl)
@[go_sem] theorem qzi:xg T (.q τ xs i o) y=[]:=(rfl)
@[go_sem] theorem qzo:jA T (.a cs) (.a ds)=j9 T cs ds:=(rfl)
@[go_sem] theorem qzs:jA T (.s k lo len) y=xg T (.s k lo len) y:=(rfl)
@[go_sem] theorem qzp:jA T (.i τ xs) y=[]:=(rfl)
@[go_sem] theorem qzm:jA T (I n) y=[]:=(rfl)
@[go_sem] theorem qzn:jA T (S l) y=[]:=(rfl)
@[go_sem] theorem qzl:jA T (B b) y=[]:=(rfl)
@[go_sem] theorem qzq:jA T (.n e) y=[]:=(rfl)
@[go_sem] theorem qzr:jA T (.p k i o) y=xg T (.p k i o) y:=(rfl)
end
theorem qmp {d:Nat} {x:V}:Zy d x ⟨σ,T⟩=zG (zb x) ⟨(d,x)::σ,T⟩ ⟨(d,(zX d x).1)::xt d σ,(zX d x).2++wT d T⟩:=by
 unfold Zy zG
 cases h:zb x<;>simp [qgq,St.put]
end
end Go.Vm
