import Derived.Test.YtcaejgdpplbcbaaGreatDoorT01
import Derived.Attr
set_option autoImplicit false
set_option linter.unusedSectionVars false
set_option linter.unusedVariables false
set_option linter.unusedSimpArgs false
namespace Go.Vm
variable [Lay]
def qib:AI→Bool
 | .mv .. | .pick .. | .build .. | .ldq .. | .nilc .. | .bin .. | .eqs .. | .un .. | .sl .. | .ssl .. | .slen .. | .fa .. | .fld .. | .ia .. | .ix .. | .ext .. | .fun .. | .len .. | .mx .. | .int .. | .str .. | .mget .. =>true
 |_=>false
def roI:AI→Bool
 | .call _ _ _ (.ro _)=>true
 |_=>false
def qeB:AI→AI
 | .gd _ _ _ i=>i
 |i=>i
section
variable {P:Program} {N n:Nat} {ops:Array Oper} {o:Oper} {E:Env} {c:Cnt} {st st':St} {a:Act} {call:qX} {ai h:AI}
theorem qAd(hq:qib h=true) (ht:yX P N o h=some ai) (hs:qj call st ai=some st') (hf:FRel N E st a.tmps c):
 qN N E st st' o.dst ((execOp a.eval o).run P E.w):=by
 cases h<;>simp only [qib]at hq<;>(first|(cases hq;done)|skip)<;>simp only [yX]at ht<;>(split at ht)<;>(first|(cases ht;done)|skip)<;>rename_i hd
 case mv.isTrue=>exact qnF hd ht hs hf
 case pick.isTrue=>exact qnI hd ht hs hf
 case build.isTrue=>exact qnt hd ht hs hf
 case ldq.isTrue=>exact qnC hd ht hs hf
 case nilc.isTrue=>exact qnH hd ht hs hf
 case bin.isTrue=>exact qns hd ht hs hf
 case eqs.isTrue=>exact qnu hd ht hs hf
 case un.isTrue=>exact qnN hd ht hs hf
 case sl.isTrue=>exact qnJ hd ht hs hf
 case ssl.isTrue=>exact qnL hd ht hs hf
 case slen.isTrue=>exact qnK hd ht hs hf
 case fa.isTrue=>exact qnw hd ht hs hf
 case fld.isTrue=>exact qnx hd ht hs hf
 case ia.isTrue=>exact qnz hd ht hs hf
 case ix.isTrue=>exact qnB hd ht hs hf
 case ext.isTrue=>exact qnv hd ht hs hf
 case fun.isTrue=>exact qny hd ht hs hf
 case len.isTrue=>exact qnD hd ht hs hf
 case mx.isTrue=>exact qnG hd ht hs hf
 case int.isTrue=>exact qnA hd ht hs hf
 case str.isTrue=>exact qnM hd ht hs hf
 case mget.isTrue=>exact qnE hd ht hs hf
theorem qqw {Q:Exit→Act→World→Prop} {K:Act→World→Prop} (h:qN N E st st' o.dst ((execOp a.eval o).run P E.w))
 (hK: ∀ d x y,o.dst=some d→d < N→st'=st.put d x→Rel E x y c0→K (a.put o.dst y) E.w):o.wp P a E.w K Q:=by
 obtain ⟨d,x,y,hd,hn,hr,hs,hx⟩:=h
 unfold Oper.wp
 rw [hr]
 exact hK d x y hd hn hs hx
theorem qoX(ht:yX P N o h=some ai):qz ai=o.dst:=by
 cases h<;>simp only [yX]at ht<;>(first|(cases ht;done)|skip)<;>(split at ht)<;>(first|(cases ht;done)|skip)<;>rename_i hd
 case st.isTrue=>
  have hd':o.dst=none:=by simpa using hd
  unfold qag at ht
  (repeat' (split at ht))<;>simp_all [qz]
  subst ht;simp [qz]
 case mset.isTrue=>
  have hd':o.dst=none:=by simpa using hd
  unfold J7 at ht
  (repeat' (split at ht))<;>simp_all [qz]<;>(subst ht;simp [qz])
 case mes.isTrue=>
  have hd':o.dst=none:=by simpa using hd
  unfold J2 at ht
  (repeat' (split at ht))<;>simp_all [qz]
  subst ht;simp [qz]
 case call.isTrue=>
  simp only [Zu,Bool.and_eq_true,decide_eq_true_eq]at hd
  unfold XH at ht
  split at ht
  case h_2=>cases ht
  split at ht
  case h_2=>cases ht
  obtain ⟨x,y,-,-,rfl⟩:=QM ht
  simp only [qz];exact hd.1.symm
 all_goals
  rw [(zD hd).1]
  simp only [QU,qac,J9,JP,J6,J4,JY,JZ,qaa,JO,JQ,qai,qad,qaf,qae,JS,JT,JV,JX,JR,JU,JN,J0,J8,JW,qah,J5,J3,J1,kH]at ht
  (repeat' (split at ht))<;>(first|(cases ht;done)|skip)<;>simp only [Option.map_eq_some_iff,Option.some.injEq]at ht<;>
   (first|(subst ht;rfl)|(obtain ⟨x,-,rfl⟩:=ht;rfl))
theorem qAe(ht:trI P N n ops o h=some ai) (hs:qm call st ai=some st') (hf:FRel N E st a.tmps c):
 qz ai=o.dst∧((Region.wanted o (yielded ops a.tmps)=false∧(o.dst=none→st'=st)∧(∀ d,o.dst=some d→d < N∧st'=st.put d yB))∨
 (Region.wanted o (yielded ops a.tmps)=true∧ ∃ ai1,yX P N o (qeB h)=some ai1∧qj call st ai1=some st')):=by
 have hwant:o.guard.isNone=true→Region.wanted o (yielded ops a.tmps)=true:=by
  intro hg
  unfold Region.wanted
  split
  ·rfl
  ·rename_i he;rw [he]at hg;cases hg
 have hplain: ∀ i,o.guard.isNone=true→yX P N o i=some ai→Region.wanted o (yielded ops a.tmps)=true∧ ∃ ai1,yX P N o i=some ai1∧qj call st ai1=some st':=by
  intro i hg hi
  refine ⟨hwant hg,ai,hi, ?_⟩
  have hng: ∀ j w d i',ai ≠ .gd j w d i':=by
   rintro j w d i' rfl
   cases i<;>simp only [yX]at hi<;>(first|(cases hi;done)|skip)<;>(split at hi)<;>(first|(cases hi;done)|skip)<;>
    simp only [QU,qac,J9,JP,J6,J4,JY,JZ,qaa,JO,JQ,qai,qad,qaf,qae,JS,JT,JV,JX,JR,JU,JN,J0,J8,JW,qah,qag,XH,J5,J7,J3,J1,J2,kH]at hi<;>
    (repeat' (split at hi))<;>simp_all
  rw [qlr call ai hng]at hs
  exact hs
 unfold trI at ht
 split at ht
 ·rename_i j want d i
  split at ht
  case h_2=>cases ht
  rename_i k w hg
  split at ht
  case isFalse=>cases ht
  rename_i hc
  simp only [Bool.and_eq_true,decide_eq_true_eq]at hc
  obtain ⟨⟨⟨rfl,hdn⟩,hdst⟩,hj⟩:=hc
  rw [Option.map_eq_some_iff]at ht
  obtain ⟨i',hi',rfl⟩:=ht
  simp only [Zu,Bool.and_eq_true,decide_eq_true_eq]at hdst
  obtain ⟨hod,hdN⟩:=hdst
  refine ⟨by simp only [qz];exact hod.symm, ?_⟩
  simp only [qm]at hs
  have hno:(d=none→st'=st)→(∀ t,d=some t→st'=st.put t yB)→(o.dst=none→st'=st)∧(∀ d,o.dst=some d→d < N∧st'=st.put d yB):=by
   intro h1 h2
   rw [hod]
   refine ⟨h1,fun t e=>⟨?_,h2 t e⟩⟩
   subst e;simpa using hdN
  split at hs
  ·rename_i b hb
   obtain ⟨v,hv,hr⟩:=hf.σ _ _ hb
   simp only [Rel]at hr
   have hy:yielded ops a.tmps k=some b:=by simp only [yielded,hj,Option.bind_some,hv,hr.1]
   by_cases hbw:b=w
   ·subst hbw
    rw [if_pos rfl]at hs
    exact .inr ⟨by simp only [Region.wanted,hg,hy,beq_self_eq_true],i',hi',hs⟩
   ·rw [if_neg hbw]at hs
    refine .inl ⟨by simp only [Region.wanted,hg,hy];simp [hbw], ?_⟩
    exact hno (fun e=>by subst e;simpa using hs.symm) (fun t e=>by subst e;simpa using hs.symm)
  ·rename_i x hnb hx
   obtain ⟨v,hv,hr⟩:=hf.σ _ _ hx
   simp only [Rel]at hr
   have hy:yielded ops a.tmps k=none:=by
    simp only [yielded,hj,Option.bind_some,hv,hr.1]
    cases x<;>first|rfl|exact absurd rfl (hnb _)
   refine .inl ⟨by simp only [Region.wanted,hg,hy];rfl, ?_⟩
   exact hno (fun e=>by subst e;simpa using hs.symm) (fun t e=>by subst e;simpa using hs.symm)
  ·cases hs
 ·rename_i d h'
  split at ht
  case isFalse=>cases ht
  rename_i hc
  simp only [Bool.and_eq_true]at hc
  have hi:yX P N o (.mv d h')=some ai:=by simp only [yX,hc.2,if_true];exact ht
  exact ⟨qoX hi,.inr (hplain _ hc.1 hi)⟩
 ·rename_i i hn1 hn2
  split at ht
  case isFalse=>cases ht
  rename_i hc
  simp only [Bool.and_eq_true]at hc
  have hb:qeB h=h:=by cases h<;>first|rfl|exact absurd rfl (hn1 _ _ _ _)
  rw [hb]
  exact ⟨qoX ht,.inr (hplain _ hc.1 ht)⟩
end
end Go.Vm
namespace Go.Vm
variable [Lay]
section
variable {E:Env}
theorem XG(f:Key→Bool): ∀ {T:Mem} {c:Cnt},qq E T c→ ∃ c',qq E (qM f T) c'∧cle c' c
 |[],c,h=>⟨c,h,qT _⟩
 |(k,ob)::r,c,h=>by
  obtain ⟨c1,c2,h1,h2,rfl⟩:=h
  obtain ⟨c3,h3,h4⟩:=XG f h2
  simp only [qM]
  split
  ·exact ⟨qh c1 c3,⟨c1,c3,h1,h3,rfl⟩,kz (qT _) h4⟩
  ·exact ⟨c3,h3,xi h4 (xx _ _)⟩
theorem qhh: ∀ {T:Mem} {k k':Key},k' ≠ k→qu (qG T k) k'=qu T k'
 |[],k,k',h=>rfl
 |(u,x)::r,k,k',h=>by
  simp only [qG]
  split
  ·rename_i e;subst e
   simp only [qu];rw [if_neg (Ne.symm h)]
  ·simp only [qu,qhh h]
theorem qbM(f g:Key→Bool): ∀ T:Mem,qM f (qM g T)=qM (fun u=>g u&&f u) T
 |[]=>rfl
 |(k,x)::r=>by
  by_cases hg:g k=true
  ·by_cases hf:f k=true
   ·simp [qM,hg,hf,qbM f g r]
   ·simp [qM,hg,hf,qbM f g r]
  ·simp [qM,hg,qbM f g r]
theorem qll {f:Key→Bool} {k:Key} (h:f k=false): ∀ {T:Mem},qM f (qG T k)=qM f T
 |[]=>rfl
 |(u,x)::r=>by
  simp only [qG]
  split
  ·rename_i e;subst e
   simp only [qM,h,Bool.false_eq_true,if_false]
  ·simp only [qM,qll h]
theorem qiY: ∀ (ks:List Key) {L:Mem} {c:Cnt},ks.Nodup→qq E L c→
 ∃ c1 c2,qq E (yc (qu L) ks) c1∧qq E (qM (fun k=> !ks.contains k) L) c2∧cle (qh c1 c2) c
 |[],L,c,hn,h=>by
  obtain ⟨c2,h2,h3⟩:=XG (fun k=> !([]:List Key).contains k) h
  exact ⟨c0,c2,rfl,h2,by rw [zi];exact h3⟩
 |k::ks,L,c,hn,h=>by
  obtain ⟨hk,hn⟩:=List.nodup_cons.1 hn
  cases hg:qu L k with
  |none=>
   obtain ⟨c1,c2,h1,h2,h3⟩:=qiY ks hn h
   refine ⟨c1,c2,by simp only [yc,hg];exact h1, ?_,h3⟩
   have:qM (fun u=> !(k::ks).contains u) L=qM (fun u=> !ks.contains u) L:=by
    clear h h1 h2
    induction L with
    |nil=>rfl
    |cons x r ih=>
     obtain ⟨u,y⟩:=x
     simp only [qu]at hg
     split at hg
     ·cases hg
     ·rename_i hu
      simp only [qM,ih hg]
      have:(k::ks).contains u=ks.contains u:=by
       simp only [List.contains_cons]
       have:(u==k)=false:=by simpa using hu
       rw [this,Bool.false_or]
      rw [this]
   rw [this];exact h2
  |some ob=>
   obtain ⟨d1,d2,ho,hr,rfl⟩:=yA h hg
   obtain ⟨c1,c2,h1,h2,h3⟩:=qiY ks hn hr
   obtain ⟨c3,h4,h5⟩:=XG (fun u=>u != k) h2
   refine ⟨qh d1 c1,c3, ?_, ?_,fun b=>by have:=h3 b;have:=h5 b;simp only [qh]at*;omega⟩
   ·simp only [yc,hg]
    refine ⟨d1,c1,ho, ?_,rfl⟩
    rw [qb3 (g:=qu (qG L k)) (fun u hu=>(qhh (by rintro rfl;exact hk hu)).symm)]
    exact h1
   ·have:qM (fun u=> !(k::ks).contains u) L=qM (fun u=>u != k) (qM (fun u=> !ks.contains u) (qG L k)):=by
     rw [qbM,qll (by simp)]
     congr 1
     funext u
     simp only [List.contains_cons,Bool.not_or,bne]
     exact Bool.and_comm _ _
    rw [this];exact h4
theorem qoV: ∀ {T:Mem} {L:Mem} {c:Cnt},Yn T=true→qq E L c→(∀ k x,qu T k=some x→qu L k=some x)→ ∃ c',qq E T c'∧cle c' c
 |[],L,c,hn,h,hs=>⟨c0,rfl,fun _=>Nat.zero_le _⟩
 |(k,ob)::r,L,c,hn,h,hs=>by
  simp only [Yn,Bool.and_eq_true,Option.isNone_iff_eq_none]at hn
  have hg:qu L k=some ob:=hs k ob (by simp [qu])
  obtain ⟨d1,d2,ho,hr,rfl⟩:=yA h hg
  obtain ⟨c',h1,h2⟩:=qoV (T:=r) hn.2 hr (fun u x hu=>by
   have hne:u ≠ k:=by rintro rfl;rw [hn.1]at hu;cases hu
   rw [qhh hne]
   exact hs u x (by simp only [qu];rw [if_neg (Ne.symm hne)];exact hu))
  exact ⟨qh d1 c',⟨d1,c',ho,h1,rfl⟩,kz (qT _) h2⟩
end
end Go.Vm
namespace Go.Vm
variable [Lay]
def kD(plan:List Dp) (is:List AI) (listed:Array Bool) (d:Nat):Prop:=
 ∃ (i:Nat) (p:Dp) (ai:AI),listed.getD i true=false∧plan[i]? =some p∧is[i]? =some ai∧p.k ≠ 0∧qz ai=some d
structure InvD (N n:Nat) (E0:Env) (k0:Cnt) (a0:Act) (fr:Nat→Prop) (s:FS) (a:Act) (E:Env) (c:Cnt):Prop where
 sz:a.tmps.size=N
 df:a.defers=a0.defers
 σ: ∀ t x,s.1 t=some x→ ∃ y,a.tmps[t]? =some y∧Rel E x y c0
 T: ∃ L,(∀ k,qu L k=s.2 k)∧qq E L c
 g:Good E c
 kn:KN n E0 E
 adv:Adv E0 k0 E c
 fr: ∀ d,fr d→ ∀ j,E.μ (d,j)=none
section
variable {N n:Nat} {E0 E E':Env} {k0 c cA cB:Cnt} {a0 a:Act} {fr fr':Nat→Prop} {s:FS} {dst:Option Nat} {σ':Sl} {T' L:Mem} {y:Value} {p:Dp}
theorem InvD.next(h:InvD N n E0 k0 a0 fr s a E c) (hL: ∀ k,qu L k=s.2 k) (hd: ∀ t,dst=some t→t < N) (hm:Mono E E' c0) (hσ: ∀ d x,dst=some d→qI σ' d=some x→Rel E' x y c0)
 (hA:qq E' (qM (p.own dst) T') cA) (hB:qq E' (qM (fun k=> !p.own dst k) L) cB) (hg:Good E' (qh cA cB)) (hadv:Adv E c E' (qh cA cB)) (hkn:KN n E E')
 (hfr: ∀ d,fr' d→ ∀ j,E'.μ (d,j)=none):InvD N n E0 k0 a0 fr' (y9 dst σ' s.1,xb p dst T' s.2) (a.put dst y) E' (qh cA cB):=by
 refine ⟨by cases dst<;>simp [Act.put,h.sz],(qnm _ _ _).trans h.df,fun t x hx=> ?_,⟨qM (p.own dst) T'++qM (fun k=> !p.own dst k) L,fun k=> ?_,xU hA hB⟩,hg,h.kn.trans hkn,h.adv.trans hadv,hfr⟩
 ·simp only [y9]at hx
  split at hx
  ·rename_i e
   subst e
   have ht:=hd t rfl
   refine ⟨y, ?_,hσ t x rfl hx⟩
   simp [Act.put,h.sz,ht]
  ·rename_i e
   obtain ⟨v,h1,h2⟩:=h.σ t x hx
   refine ⟨v, ?_,yW h2 hm⟩
   cases dst with
   |none=>exact h1
   |some d=>
    have:d ≠ t:=by rintro rfl;exact e rfl
    simp only [Act.put]
    rw [Array.getElem?_setIfInBounds_ne this];exact h1
 ·rw [qhg,Ji,Ji]
  simp only [xb,hL]
  cases p.own dst k<;>simp
theorem qhj {f:Nat→Option V}: ∀ {us:List Nat} {t:Nat} {x:V},qI (y7 f us) t=some x→f t=some x
 |[],t,x,h=>by cases h
 |u::us,t,x,h=>by
  simp only [y7]at h
  split at h
  ·rename_i z hz
   simp only [qI]at h
   split at h
   ·rename_i e;subst e;rw [hz];exact h
   ·exact qhj h
  ·exact qhj h
theorem InvD.sub(h:InvD N n E0 k0 a0 fr s a E c) (hL: ∀ k,qu L k=s.2 k) (hT:qq E L c) (us:List Nat) {ks:List Key} (hn:ks.Nodup):
 ∃ cK cR,FRel N E {σ:=y7 s.1 us,T:=yc s.2 ks} a.tmps cK∧qq E (qM (fun k=> !ks.contains k) L) cR∧cle (qh cK cR) c:=by
 obtain ⟨c1,c2,h1,h2,h3⟩:=qiY ks hn hT
 have he:yc s.2 ks=yc (qu L) ks:=qb3 fun k _=>(hL k).symm
 refine ⟨c1,c2,⟨h.sz,fun t x hx=>h.σ t x (qhj hx),by rw [he];exact h1,h.g.le (xi (Yd _ _) h3)⟩,h2,h3⟩
theorem InvD.quiet(h:InvD N n E0 k0 a0 fr s a E c) {d:Nat} {x:V} {st0:St} (hp:p.k=0) (hd:d < N) (hx:Rel E x y c0) (hfr: ∀ d,fr' d→fr d):
 InvD N n E0 k0 a0 fr' (y9 (some d) (st0.put d x).σ s.1,xb p (some d) (st0.put d x).T s.2) (a.put (some d) y) E c:=by
 obtain ⟨L,hL,hT⟩:=h.T
 have hown: ∀ k,p.own (some d) k=false:=fun k=>qhZ hp k
 have hf1: ∀ T:Mem,qM (p.own (some d)) T=[]:=by
  intro T;induction T with
  |nil=>rfl
  |cons z r ih=>obtain ⟨u,v⟩:=z;simp only [qM,hown,Bool.false_eq_true,if_false,ih]
 have hf2: ∀ T:Mem,qM (fun k=> !p.own (some d) k) T=T:=by
  intro T
  have e:(fun k=> !p.own (some d) k)=fun _=>true:=funext fun k=>by rw [hown k];rfl
  rw [e]
  induction T with
  |nil=>rfl
  |cons z r ih=>obtain ⟨u,v⟩:=z;simp only [qM,if_true,ih]
 have:=InvD.next (fr':=fr') (E':=E) (cA:=c0) (cB:=c) (dst:=some d) (σ':=(st0.put d x).σ) (T':=(st0.put d x).T) (y:=y) (p:=p) h hL (fun t ht=>by cases ht;exact hd) (qvD E c0)
  (fun d' x' hd' hx'=>by cases hd';simp only [St.put,qI,if_pos,Option.some.injEq]at hx';subst hx';exact hx) (by rw [hf1];rfl) (by rw [hf2];exact hT) (by rw [zi];exact h.g) (by rw [zi];exact Adv.refl _ _) KN.refl
  (fun d' hd'=>h.fr d' (hfr d' hd'))
 rw [zi]at this;exact this
end
end Go.Vm
namespace Go.Vm
variable [Lay]
section
variable {P:Program} {N n:Nat} {E0 E E':Env} {k0 c cK cR c':Cnt} {a0 a:Act} {fr fr':Nat→Prop} {s:FS} {dst:Option Nat} {st':St} {L:Mem} {y:Value} {p:Dp} {call:qX}
theorem qvG(h:InvD N n E0 k0 a0 fr s a E c) (hkp:yT dst E E') (hdf: ∀ d,dst=some d→fr d): ∀ k l,E.μ k=some l→E'.μ k=some l:=by
 intro k l hk
 by_cases hd:dst=some k.1
 ·have:=h.fr k.1 (hdf _ hd) k.2
  rw [hk]at this;cases this
 ·rw [hkp k hd];exact hk
theorem InvD.write(h:InvD N n E0 k0 a0 fr s a E c) (hL: ∀ k,qu L k=s.2 k) (hcR:qq E (qM (fun k=> !p.ks.contains k) L) cR) (hle:cle (qh cK cR) c)
 (hp:p.k=1) (hd: ∀ t,dst=some t→t < N) (hdf: ∀ d,dst=some d→fr d) (hfr: ∀ d,fr' d→fr d∧dst ≠ some d)
 (hF:FRel N E' st' (a.put dst y).tmps c') (hkn:KN n E E') (hkp:yT dst E E') (hA:Adv E cK E' c'):
 ∃ c'',InvD N n E0 k0 a0 fr' (y9 dst st'.σ s.1,xb p dst st'.T s.2) (a.put dst y) E' c'':=by
 have hμ:=qvG h hkp hdf
 have hg:Good E (qh cK cR):=h.g.le hle
 have hmono:=qhJ hg hA hμ
 have hgood:=qhl hg hA hF.g
 obtain ⟨cA,h1,h2⟩:=XG (p.own dst) hF.T
 have he:qM (fun k=> !p.own dst k) L=qM (fun k=> !p.own dst k) (qM (fun k=> !p.ks.contains k) L):=by
  rw [qbM]
  congr 1
  funext u
  cases hc:p.ks.contains u with
  |false=>simp
  |true=>
   have:p.own dst u=true:=by unfold Dp.own;rw [hp,hc];rfl
   rw [this];rfl
 obtain ⟨cB,h3,h4⟩:=XG (fun k=> !p.own dst k) (yj hcR hmono)
 rw [← he]at h3
 have hle2:cle (qh cA cB) (qh c' cR):=kz h2 h4
 refine ⟨qh cA cB,InvD.next h hL hd (hmono.le fun _=>Nat.zero_le _) ?_ h1 h3 (hgood.le hle2) ((K4 (qgR cR hA) hle).le hle2) hkn ?_⟩
 ·intro d x hdd hx
  obtain ⟨v,hv,hr⟩:=hF.σ d x hx
  subst hdd
  have hdN:=hd d rfl
  have:(a.put (some d) y).tmps[d]? =some y:=by simp [Act.put,h.sz,hdN]
  rw [this]at hv;cases hv
  exact hr
 ·intro d hd' j
  obtain ⟨h5,h6⟩:=hfr d hd'
  rw [hkp (d,j) h6]
  exact h.fr d h5 j
theorem qAn {d:Nat} {st:St}:qM (fun k=>decide (k.1=d)) (zo d st).T=[]:=by
 have: ∀ T:Mem,(∀ k ob,(k,ob) ∈ T→k.1 ≠ d)→qM (fun k=>decide (k.1=d)) (QJ d T)=[]:=by
  intro T hT
  induction T with
  |nil=>rfl
  |cons z r ih=>
   obtain ⟨k,e,xs⟩:=z
   have hk:=hT k _ (List.mem_cons_self)
   simp only [QJ,qM]
   rw [if_neg (by simpa using hk)]
   exact ih fun k ob h=>hT k ob (List.mem_cons_of_mem _ h)
 exact this _ fun k ob hk=>qbI d hk
theorem qlk(f:Key→Bool): ∀ A B:Mem,qM f (A++B)=qM f A++qM f B
 |[],B=>rfl
 |(k,x)::r,B=>by
  simp only [List.cons_append,qM,qlk f r B]
  split<;>rfl
theorem qhc {f:Key→Bool} {g:Key→Option Ob}: ∀ {ks:List Key},(∀ k ∈ ks,f k=false)→qM f (yc g ks)=[]
 |[],h=>rfl
 |k::ks,h=>by
  simp only [yc]
  split
  ·simp only [qM,h k (List.mem_cons_self),Bool.false_eq_true,if_false]
   exact qhc fun u hu=>h u (List.mem_cons_of_mem _ hu)
  ·exact qhc fun u hu=>h u (List.mem_cons_of_mem _ hu)
theorem InvD.ro(h:InvD N n E0 k0 a0 fr s a E c) (hL: ∀ k,qu L k=s.2 k) (hT:qq E L c) (hp:p.k=2) (hd: ∀ t,dst=some t→t < N) (hdf: ∀ d,dst=some d→fr d) (hfr: ∀ d,fr' d→fr d∧dst ≠ some d)
 (hnk: ∀ t,dst=some t→n≤t) (hks: ∀ k ∈ p.ks,dst ≠ some k.1) {σ0:Sl} {r:V} {c5:Cnt} (hst:st'=ky dst r {σ:=σ0,T:=yc s.2 p.ks}) (hσd: ∀ d,dst=some d→True)
 (hμ:E'.μ=E.μ) (hr:Rel E'.cl r y c5) (hg5:Good E' c5) (hA:Adv E c0 E' c5):
 ∃ E4 c4,E4.w=E'.w∧InvD N n E0 k0 a0 fr' (y9 dst st'.σ s.1,xb p dst st'.T s.2) (a.put dst y) E4 c4:=by
 have hg':Good E (qh c0 c):=by rw [zi];exact h.g
 have hM:Mono E E' c:=qhJ hg' hA (fun k l hk=>by rw [hμ];exact hk)
 have hgood:Good E' (qh c5 c):=qhl hg' hA hg5
 have hadv:Adv E c E' (qh c5 c):=by have:=qgR c hA;rwa [zi]at this
 have hown: ∀ k,p.own dst k=decide (dst=some k.1):=fun k=>by
  simp only [Dp.own,hp]
  rw [Bool.eq_iff_iff]
  cases dst<;>simp
 obtain ⟨cB,hB,hBle⟩:=XG (fun k=> !p.own dst k) (yj hT hM)
 cases dst with
 |none=>
  have e1: ∀ T,qM (p.own none) T=[]:=by
   intro T;induction T with
   |nil=>rfl
   |cons z t ih=>obtain ⟨k,x⟩:=z;simp only [qM,hown k];rw [if_neg (by simp)];exact ih
  refine ⟨E',qh c0 cB,rfl,InvD.next h hL hd (hM.le fun _=>Nat.zero_le _) (fun d x hdd=>by cases hdd) (by rw [e1];rfl) hB (hgood.le ?_) (hadv.le ?_) (fun k _=>by rw [hμ]) (fun d hd' j=>by rw [hμ];exact h.fr d (hfr d hd').1 j)⟩
  ·rw [zi];exact xi hBle (xx _ _)
  ·rw [zi];exact xi hBle (xx _ _)
 |some d=>
  have hdN:=hd d rfl
  have hfree: ∀ j,E'.μ (d,j)=none:=fun j=>by rw [hμ];exact h.fr d (hdf d rfl) j
  have hownd:p.own (some d)=fun k:Key=>decide (k.1=d):=funext fun k=>by rw [hown];simp [eq_comm]
  simp only [ky,Ya]at hst
  split at hst
  ·
   obtain ⟨E4,c6,j',hn,h1,h2,h3⟩:=qhV (d:=d) hfree (yW hr (jr E' c5))
   subst hst
   have hA4:qM (p.own (some d)) ((yi d r).2++(zo d {σ:=σ0,T:=yc s.2 p.ks}).T)=qM (p.own (some d)) (yi d r).2:=by
    rw [qlk,hownd,qAn,List.append_nil]
   obtain ⟨cA,h4,h5⟩:=XG (p.own (some d)) h2
   have hle:cle (qh cA cB) (qh c5 c):=fun b=>by have:=h5 b;have:=h3 b;have:=hBle b;simp only [qh]at*;omega
   have hMn:=hn.mono (E:=E') (E':=E4)
   have hg4:Good E4 (qh cA cB):=Zm hn.hw hn.hI hle hgood
   refine ⟨E4,qh cA cB,hn.hw,InvD.next h hL hd ?_ ?_ (by simp only [hA4];exact h4) (yj hB (hn.mono _)) hg4 ?_ ?_ ?_⟩
   ·exact ⟨fun τ b hb=>⟨by rw [hn.hI];exact (hM.hI τ b hb).1,by rw [hn.hw];exact (hM.hI τ b hb).2⟩,fun b hb=>absurd rfl hb,fun k l hk=>hn.hμ k l (by rw [hμ];exact hk)⟩
   ·intro d' x hdd hx
    cases hdd
    simp only [qI,if_pos,Option.some.injEq]at hx
    subst hx;exact h1
   ·exact hadv.trans (Qz hn.hw hn.hI hle)
   ·intro k hk
    rw [hn.hout k (by have:=hnk d rfl;omega),hμ]
   ·intro d' hd' j
    obtain ⟨h6,h7⟩:=hfr d' hd'
    rw [hn.hout (d',j) (by rintro rfl;exact h7 rfl),hμ]
    exact h.fr d' h6 j
  ·rename_i hz
   have h0:=Xx hr (by simpa using hz)
   subst h0
   subst hst
   have e1:qM (p.own (some d)) (St.put {σ:=σ0,T:=yc s.2 p.ks} d r).T=[]:=qhc fun k hk=>by
    rw [hown];simpa using hks k hk
   rw [zi]at hgood hadv
   refine ⟨E',qh c0 cB,rfl,InvD.next h hL hd (hM.le fun _=>Nat.zero_le _) ?_ (by rw [e1];rfl) hB (hgood.le ?_) (hadv.le ?_) (fun k _=>by rw [hμ]) (fun d hd' j=>by rw [hμ];exact h.fr d (hfr d hd').1 j)⟩
   ·intro d' x hdd hx
    cases hdd
    simp only [St.put,qI,if_pos,Option.some.injEq]at hx
    subst hx
    exact yW hr (jr E' c0)
   ·rw [zi];exact hBle
   ·rw [zi];exact hBle
end
end Go.Vm
namespace Go.Vm
variable [Lay]
def qkb(l:List Nat) (x:Nat):List Nat:=if l.contains x then l else x::l
def qez(ops:Array Oper):List (List Nat):=
 ops.toList.foldl (fun acc o=>
  acc++[((o.after.toList.filter fun e=>Region.binds .any e).map (·.on)).foldl (fun l k=>(acc.getD k []).foldl qkb (qkb l k)) []]) []
def qb2(plan:List Dp) (is:List AI) (anc:List (List Nat)):Bool:=
 (List.range is.length).all fun i=>(List.range i).all fun j=>match plan[j]?,is[j]?,plan[i]?,is[i]? with
  |some pj,some aj,some pi,some ai=>((anc.getD i []).contains j||qiX pj aj pi ai)&&(pj.k==0||pi.k==0||qaj (qz aj) (qz ai))
  |_,_,_,_=>false
def qeP:List Key→Bool
 |[]=>true
 |k::ks=> !ks.contains k&&qeP ks
def qeT(n:Nat) (p:Dp) (h ai:AI):Bool:=
 ((p.k==0&&qib (qeB h))||p.k==1||(p.k==2&&roI (qeB h)))&&qeP p.ks&&
   (p.k==0||(match qz ai with|some d=>decide (n≤d)&&p.ks.all (fun k=>k.1 != d)|none=>true))
def kh(n:Nat):List Dp→List AI→List AI→Bool
 |[],[],[]=>true
 |p::ps,h::hs,i::is=>qeT n p h i&&kh n ps hs is
 |_,_,_=>false
def dOk(P:Program) (n:Nat) (ops:Array Oper) (plan:List Dp) (hs is:List AI):Bool:=
 P.follows .mixedOrders&&qeS ops (qez ops)&&qhT ops&&qb2 plan is (qez ops)&&kh n plan hs is
theorem qmO: ∀ {ks:List Key},qeP ks=true→ks.Nodup
 |[],h=>List.nodup_nil
 |k::ks,h=>by
  simp only [qeP,Bool.and_eq_true,Bool.not_eq_true',List.contains_eq_mem,decide_eq_false_iff_not]at h
  exact List.nodup_cons.2 ⟨h.1,qmO h.2⟩
theorem qhX {n:Nat}: ∀ {plan:List Dp} {hs is:List AI},kh n plan hs is=true→plan.length=is.length∧hs.length=is.length∧
 ∀ (i:Nat) (p:Dp) (h ai:AI),plan[i]? =some p→hs[i]? =some h→is[i]? =some ai→qeT n p h ai=true
 |[],[],[],h=>⟨rfl,rfl,fun i p h ai h1=>by simp at h1⟩
 |p::ps,h::hs,a::is,hk=>by
  simp only [kh,Bool.and_eq_true]at hk
  obtain ⟨h1,h2,h3⟩:=qhX hk.2
  refine ⟨by simp [h1],by simp [h2],fun i p' h' a' e1 e2 e3=> ?_⟩
  cases i with
  |zero=>simp at e1 e2 e3;subst e1;subst e2;subst e3;exact hk.1
  |succ i=>exact h3 i p' h' a' (by simpa using e1) (by simpa using e2) (by simpa using e3)
 |[],[],_::_,h=>by simp [kh]at h
 |[],_::_,_,h=>by simp [kh]at h
 |_::_,[],_,h=>by simp [kh]at h
 |_::_,_::_,[],h=>by simp [kh]at h
def JK(call:qX) (plan:List Dp) (is:List AI) (i:Nat) (s:FS):Option FS:=
 match plan[i]?,is[i]? with
 |some p,some ai=>ZA call p ai s
 |_,_=>none
theorem qkh {call:qX} {plan:List Dp} {is:List AI}: ∀ (ps:List Dp) (as:List AI) (k:Nat) (st st1:St),plan.drop k=ps→is.drop k=as→zU call ps as st=some st1→
 j5 (JK call plan is) (List.range' k as.length) (Yu st)=some (Yu st1)
 |[],[],k,st,st1,h1,h2,h=>by
  simp only [zU,Option.some.injEq]at h;subst h;rfl
 |p::ps,a::as,k,st,st1,h1,h2,h=>by
  simp only [zU]at h
  split at h
  case h_2=>cases h
  rename_i st2 hs
  have hp:plan[k]? =some p:=by
   have:(plan.drop k)[0]? =some p:=by rw [h1];rfl
   simpa using this
  have ha:is[k]? =some a:=by
   have:(is.drop k)[0]? =some a:=by rw [h2];rfl
   simpa using this
  simp only [List.length_cons,List.range'_succ,j5,JK,hp,ha,qz1 hs]
  exact qkh ps as (k+1) st2 st1 (by rw [← List.drop_drop,h1];rfl) (by rw [← List.drop_drop,h2];rfl) h
 |[],_::_,k,st,st1,h1,h2,h=>by simp [zU]at h
 |_::_,[],k,st,st1,h1,h2,h=>by simp [zU]at h
section
variable {P:Program} {N n:Nat} {E:Env} {c:Cnt} {st:St} {tmps:Array Value}
theorem qo4: ∀ (ds:List Nat) {st:St} {E:Env} {c:Cnt},FRel N E st tmps c→(∀ d ∈ ds,n≤d)→
 ∃ E' c',E'.w=E.w∧E'.I=E.I∧KN n E E'∧FRel N E' (xV ds st) tmps c'∧cle c' c∧(∀ d ∈ ds,∀ j,E'.μ (d,j)=none)∧(∀ d,(∀ j,E.μ (d,j)=none)→ ∀ j,E'.μ (d,j)=none)
 |[],st,E,c,h,hd=>⟨E,c,rfl,rfl,KN.refl,h,qT _,fun d hd=>(by cases hd),fun d h=>h⟩
 |d::ds,st,E,c,h,hd=>by
  obtain ⟨c1,h1,h2,h3⟩:=Yw d h.σ h.T
  obtain ⟨E',c',w1,i1,k1,f1,l1,m1,m2⟩:=qo4 ds (st:=zo d st) (E:=E.drop d) (c:=c1) ⟨h.sz,h1,h2,(h.g.drop d).le h3⟩ (fun e he=>hd e (List.mem_cons_of_mem _ he))
  have hdn:=hd d (List.mem_cons_self)
  refine ⟨E',c',w1,i1,fun k hk=> ?_,f1,xi l1 h3,fun e he=> ?_,fun e he=> ?_⟩
  ·rw [k1 k hk]
   simp only [Env.drop];rw [if_neg (by omega)]
  ·rcases List.mem_cons.1 he with rfl|he
   ·exact m2 e (fun j=>jT E e j)
   ·exact m1 e he
  ·exact m2 e fun j=>by
    simp only [Env.drop]
    split
    ·rfl
    ·exact he j
end
end Go.Vm
namespace Go.Vm
variable [Lay]
section
variable {P:Program} {N n:Nat} {ops:Array Oper} {o:Oper} {E:Env} {c:Cnt} {st st':St} {a:Act} {call:qX} {ai h:AI}
theorem qyw(hC:jJ P call) (hq:roI h=true) (ht:yX P N o h=some ai) (hs:qj call st ai=some st') (hf:FRel N E st a.tmps c) {Q:Exit→Act→World→Prop} {K:Act→World→Prop}
 (hK: ∀ y E3 c5 r,E3.μ=E.μ→Rel E3.cl r y c5→Good E3 c5→Adv E c0 E3 c5→st'=ky o.dst r st→K (a.put o.dst y) E3.w):o.wp P a E.w K Q:=by
 unfold roI at hq
 split at hq
 case h_2=>cases hq
 rename_i d hh hs' fz
 simp only [yX]at ht
 split at ht
 case isFalse=>cases ht
 rename_i hd
 simp only [Zu,Bool.and_eq_true,decide_eq_true_eq]at hd
 obtain ⟨hd,hn⟩:=hd
 unfold XH at ht
 split at ht
 case h_2=>cases ht
 rename_i cl ho
 split at ht
 case h_2=>cases ht
 rename_i f hfn
 obtain ⟨f',xs',h1,h2,rfl⟩:=QM ht
 simp only [qj]at hs
 split at hs
 case h_2=>cases hs
 rename_i fv hfv
 split at hs
 case h_2=>cases hs
 rename_i g first caps xs hcal hxs
 have hrf:=qL hf.σ h1 hfv
 have hrx:=Jf hf.σ h2 hxs
 unfold callee at hcal
 split at hcal
 case h_2=>cases hcal
 rename_i g0 fi0 ca0
 simp only [Option.some.injEq,Prod.mk.injEq]at hcal
 obtain ⟨rfl,rfl,rfl⟩:=hcal
 simp only [Rel]at hrf
 obtain ⟨fs,cs,c1,c2,hv,hr1,hr2,hcc⟩:=hrf
 obtain ⟨rfl,rfl⟩:=cz hcc.symm.symm rfl
 have hL:qk E (_++xs++_) (fs.toList++cl.args.toList.map a.eval++cs.toList) c0:=jw (jw hr1 hrx) hr2
 simp only [kB]at hs
 split at hs
 case h_2=>cases hs
 rename_i r outs hcall
 split at hs
 case isFalse=>cases hs
 rename_i hnt
 simp only [Option.some.injEq]at hs
 have hA:=qob hC (fz:=fz) hcall hnt hL hf.T hf.g
 have hrun:(execOp a.eval o).run P E.w=(callFunc g0 (fs.toList++cl.args.toList.map a.eval++cs.toList).toArray).run P E.w:=by
  rw [execOp];simp only [ho,resolve,hfn,hv,Deferred.ofValue,invoke,Sem.run_bind,Sem.run_pure,Result.andThen_ok]
  congr 2
  apply Array.ext'
  simp
 unfold Oper.wp
 rw [hrun]
 have hK': ∀ y w',(∃ E3 c5,E3.w=w'∧E3.μ=E.μ∧Rel E3.cl (fzV fz r) y c5∧Good E3 c5∧(∀ b,b < E.w.heap.size→w'.heap[b]? =E.w.heap[b]?)∧Adv E c0 E3 c5)→K (a.put o.dst y) w':=by
  rintro y w' ⟨E3,c5,rfl,k1,k2,k3,-,k4⟩
  exact hK y E3 c5 _ k1 k2 k3 k4 (by rw [hd];exact hs.symm)
 unfold Q8 at hA
 split at hA
 ·rename_i g' args w' he
  rw [he]
  obtain ⟨rfl,hc⟩:=hA
  refine hc.mono ?_
  rintro e w'' ⟨y,rfl,h3⟩
  exact hK' y w'' h3
 ·rename_i y w' he
  rw [he]
  exact hK' y w' hA
 ·exact hA.elim
theorem qi0 {ops':Array Oper}: ∀ {os:List Oper} {hs is:List AI},kp P N n ops' os hs=some is→os.length=is.length∧ ∀ (i:Nat) (o:Oper),os[i]? =some o→
 ∃ h ai,hs[i]? =some h∧is[i]? =some ai∧trI P N n ops' o h=some ai
 |[],[],is,h=>by simp only [kp,Option.some.injEq]at h;subst h;exact ⟨rfl,fun i o h=>by simp at h⟩
 |[],_::_,is,h=>by simp [kp]at h
 |_::_,[],is,h=>by simp [kp]at h
 |o::os,x::hs,is,h=>by
  simp only [kp]at h
  split at h
  case h_2=>cases h
  rename_i i is' h1 h2
  simp only [Option.some.injEq]at h;subst h
  obtain ⟨h3,h4⟩:=qi0 h2
  refine ⟨by simp [h3],fun j o' hj=> ?_⟩
  cases j with
  |zero=>simp at hj;subst hj;exact ⟨x,i,rfl,rfl,h1⟩
  |succ j=>simpa using h4 j o' (by simpa using hj)
end
end Go.Vm
namespace Go.Vm
variable [Lay]
section
variable {P:Program} {N n:Nat} {ops:Array Oper} {call:qX} {plan:List Dp} {hs is:List AI}
theorem qqY {listed:Array Bool} {i:Nat} {p:Dp} {ai:AI} (hl:listed.size=ops.size) (hi:i < ops.size) (hp:plan[i]? =some p) (ha:is[i]? =some ai) (hlen:is.length=ops.size)
 (hpairs:qb2 plan is (qez ops)=true) {d:Nat} (h:kD plan is (listed.setIfInBounds i true) d):kD plan is listed d∧(p.k ≠ 0→qz ai ≠ some d):=by
 obtain ⟨j,q,aj,h1,h2,h3,h4,h5⟩:=h
 have hne:j ≠ i:=by
  rintro rfl
  have:(listed.setIfInBounds j true).getD j true=true:=by simp [Array.getD_eq_getD_getElem?,hl,hi]
  rw [this]at h1;cases h1
 rw [getD_set_ne true (Ne.symm hne)]at h1
 refine ⟨⟨j,q,aj,h1,h2,h3,h4,h5⟩,fun hk hd=> ?_⟩
 simp only [qb2,List.all_eq_true,List.mem_range]at hpairs
 have hj:j < is.length:=(List.getElem?_eq_some_iff.1 h3).1
 rcases Nat.lt_or_gt_of_ne hne with hlt|hlt
 ·have:=hpairs i (by omega) j hlt
  simp only [h2,h3,hp,ha,Bool.and_eq_true,Bool.or_eq_true,beq_iff_eq]at this
  have h6:=this.2
  rcases h6 with (h6|h6)|h6
  ·exact h4 h6
  ·exact hk h6
  ·rw [h5,hd]at h6;simp [qaj]at h6
 ·have:=hpairs j hj i hlt
  simp only [h2,h3,hp,ha,Bool.and_eq_true,Bool.or_eq_true,beq_iff_eq]at this
  have h6:=this.2
  rcases h6 with (h6|h6)|h6
  ·exact hk h6
  ·exact h4 h6
  ·rw [h5,hd]at h6;simp [qaj]at h6
theorem qoW {o:Oper} {h ai:AI} (ht:yX P N o h=some ai): ∀ t,o.dst=some t→t < N:=by
 cases h<;>simp only [yX]at ht<;>(first|(cases ht;done)|skip)<;>(split at ht)<;>(first|(cases ht;done)|skip)<;>rename_i hd
 case st.isTrue=>
  intro t h;have hd':o.dst=none:=by simpa using hd
  rw [hd']at h;cases h
 case mset.isTrue=>
  intro t h;have hd':o.dst=none:=by simpa using hd
  rw [hd']at h;cases h
 case mes.isTrue=>
  intro t h;have hd':o.dst=none:=by simpa using hd
  rw [hd']at h;cases h
 case call.isTrue=>
  simp only [Zu,Bool.and_eq_true,decide_eq_true_eq]at hd
  intro t h
  obtain ⟨h1,h2⟩:=hd
  rw [← h1,h]at h2;simpa using h2
 all_goals
  intro t h
  obtain ⟨h1,h2⟩:=zD hd
  rw [h1]at h;cases h;exact h2
theorem qAf {o:Oper} {h ai:AI} (ht:trI P N n ops o h=some ai): ∀ t,o.dst=some t→t < N:=by
 unfold trI at ht
 split at ht
 ·split at ht
  case h_2=>cases ht
  split at ht
  case isFalse=>cases ht
  rename_i hc
  rw [Option.map_eq_some_iff]at ht
  obtain ⟨i',hi',rfl⟩:=ht
  exact qoW hi'
 ·split at ht
  case isFalse=>cases ht
  rename_i hc
  simp only [Bool.and_eq_true]at hc
  intro t h
  obtain ⟨h1,h2⟩:=zD hc.2
  rw [h1]at h;cases h;exact h2
 ·split at ht
  case isFalse=>cases ht
  exact qoW ht
theorem qqL(hC:jJ P call) (hlen:is.length=ops.size) (hpl:plan.length=is.length) (htr:kp P N n ops ops.toList hs=some is) (hops:kh n plan hs is=true) (hpairs:qb2 plan is (qez ops)=true)
 {E0:Env} {k0:Cnt} {a0:Act} {Q:Exit→Act→World→Prop} (listed:Array Bool) (i:Nat) (s s1:FS) (a:Act) (w:World) (K:Act→World→Prop) (hsz:listed.size=ops.size)
 (hi:i ∈ Region.ready .any ops listed) (hF:JK call plan is i s=some s1) (hI: ∃ E c,E.w=w∧InvD N n E0 k0 a0 (kD plan is listed) s a E c)
 (hK: ∀ a' w',(∃ E c,E.w=w'∧InvD N n E0 k0 a0 (kD plan is (listed.setIfInBounds i true)) s1 a' E c)→K a' w'):wpOp P ops Q i K a w:=by
 obtain ⟨E,c,rfl,hI⟩:=hI
 obtain ⟨h0,o,ho,-⟩:=mem_ready.1 hi
 have hin:i < ops.size:=(Array.getElem?_eq_some_iff.1 ho).1
 obtain ⟨h,ai,hh,hai,ht⟩:=(qi0 htr).2 i o (by simpa using ho)
 unfold JK at hF
 split at hF
 case h_2=>cases hF
 rename_i p ai' hp hai'
 rw [hai]at hai';cases hai'
 have hop:=(qhX hops).2.2 i p h ai hp hh hai
 obtain ⟨st',hg,hsome,rfl⟩:=qcn.1 hF
 simp only [qeT,Bool.and_eq_true,Bool.or_eq_true,beq_iff_eq]at hop
 obtain ⟨⟨hkind,hnd⟩,hal⟩:=hop
 have hnd:=qmO hnd
 obtain ⟨L,hL,hT⟩:=hI.T
 obtain ⟨cK,cR,hFR,hcR,hle⟩:=hI.sub hL hT (qR ai) hnd
 have hfs:=fun d=> @qqY _ ops plan is listed i p ai hsz hin hp hai hlen hpairs d
 obtain ⟨hdst,hcases⟩:=qAe ht hg hFR
 have hal':p.k ≠ 0→(∀ d,qz ai=some d→n≤d)∧(∀ k ∈ p.ks,qz ai ≠ some k.1)∧(∀ d,qz ai=some d→kD plan is listed d):=by
  intro hk
  have h1:=hal.resolve_left hk
  refine ⟨fun d hd=> ?_,fun k hk' hd=> ?_,fun d hd=>⟨i,p,ai,h0,hp,hai,hk,hd⟩⟩
  ·rw [hd]at h1;simp only [Bool.and_eq_true,decide_eq_true_eq]at h1;exact h1.1
  ·rw [hd]at h1
   simp only [Bool.and_eq_true,decide_eq_true_eq,List.all_eq_true,bne_iff_ne,ne_eq]at h1
   exact h1.2 k hk' rfl
 have hdN: ∀ t,qz ai=some t→t < N:=by rw [hdst];exact qAf ht
 have hstay:p.k=0→st'=st'→(∀ (x:V) (y:Value),(qz ai=none)→InvD N n E0 k0 a0 (kD plan is (listed.setIfInBounds i true)) (y9 (qz ai) st'.σ s.1,xb p (qz ai) st'.T s.2) (a.put (qz ai) y) E c):=by
  intro hk _ x y hn
  have e1:y9 none st'.σ s.1=s.1:=by funext t;simp [y9]
  have e2:xb p none st'.T s.2=s.2:=by funext k;simp [xb,qhZ hk]
  rw [hn,e1,e2]
  exact ⟨hI.sz,hI.df,hI.σ,hI.T,hI.g,hI.kn,hI.adv,fun d hd=>hI.fr d (hfs d hd).1⟩
 have hquiet:p.k=0→ ∀ d x y,qz ai=some d→st'=St.put {σ:=y7 s.1 (qR ai),T:=yc s.2 p.ks} d x→Rel E x y c0→K (a.put o.dst y) E.w:=by
  intro hk d x y hd hst hx
  refine hK _ _ ⟨E,c,rfl, ?_⟩
  rw [← hdst,hd,hst]
  exact hI.quiet hk (hdN d hd) hx fun d' hd'=>(hfs d' hd').1
 have hro:p.k=2→ ∀ y E3 c5 r,E3.μ=E.μ→Rel E3.cl r y c5→Good E3 c5→Adv E c0 E3 c5→st'=ky o.dst r {σ:=y7 s.1 (qR ai),T:=yc s.2 p.ks}→K (a.put o.dst y) E3.w:=by
  intro hk y E3 c5 r k1 k2 k3 k4 k5
  have hk0:p.k ≠ 0:=by omega
  obtain ⟨g1,g2,g3⟩:=hal' hk0
  rw [← hdst]at k5 ⊢
  obtain ⟨E4,c4,hw4,hI4⟩:=hI.ro (fr':=kD plan is (listed.setIfInBounds i true)) hL hT hk hdN g3 (fun d hd=>⟨(hfs d hd).1,(hfs d hd).2 hk0⟩) g1 g2 k5 (fun _ _=>trivial) k1 k2 k3 k4
  rw [← hw4]
  exact hK _ _ ⟨E4,c4,rfl,hI4⟩
 unfold wpOp
 rw [ho]
 simp only
 by_cases hk1:p.k=1
 ·refine qoZ hC ht hg hFR ?_
  intro y E' c' hF' hkn hkp hA
  obtain ⟨g1,g2,g3⟩:=hal' (by omega)
  rw [← hdst]at hF' hkp ⊢
  obtain ⟨c'',hI'⟩:=hI.write (fr':=kD plan is (listed.setIfInBounds i true)) hL hcR hle hk1 hdN g3 (fun d hd=>⟨(hfs d hd).1,(hfs d hd).2 (by omega)⟩) hF' hkn hkp hA
  exact hK _ _ ⟨E',c'',rfl,hI'⟩
 rcases hkind with (⟨hk,hq⟩|hk)|⟨hk,hq⟩
 ·rcases hcases with ⟨hw,hn1,hn2⟩|⟨hw,ai1,h1,h2⟩
  ·rw [hw,if_neg (by simp)]
   cases hd:qz ai with
   |none=>
    have:=hstay hk rfl (.d) undef hd
    rw [hdst]at this
    exact hK _ _ ⟨E,c,rfl,by rw [hdst];exact this⟩
   |some d=>exact hquiet hk d yB undef hd (hn2 d (by rw [← hdst,hd])).2 qo2
  ·rw [if_pos hw]
   refine .inl (qqw (qAd hq h1 h2 hFR) ?_)
   intro d x y hd hdn hst hx
   exact hquiet hk d x y (by rw [hdst,hd]) hst hx
 ·exact absurd hk hk1
 ·rcases hcases with ⟨hw,hn1,hn2⟩|⟨hw,ai1,h1,h2⟩
  ·rw [hw,if_neg (by simp)]
   refine hro hk undef E c0 yB rfl (by simp [yB,undef,Rel,yD]) (hI.g.le fun _=>Nat.zero_le _) (Adv.refl _ _) ?_
   cases hd:o.dst with
   |none=>simp only [ky];exact hn1 hd
   |some d=>
    simp only [ky,Ya,yB,zf,Bool.not_true,Bool.false_eq_true,if_false]
    exact (hn2 d hd).2
  ·rw [if_pos hw]
   exact .inl (qyw hC hq h1 h2 hFR fun y E3 c5 r k1 k2 k3 k4 k5=>hro hk y E3 c5 r k1 k2 k3 k4 k5)
end
end Go.Vm
namespace Go.Vm
variable [Lay]
section
variable {P:Program} {N n:Nat} {ops:Array Oper} {call:qX} {plan:List Dp} {hs is:List AI}
theorem qey: ∀ {plan:List Dp} {hs is:List AI},kh n plan hs is=true→ ∀ d ∈ yd plan is,n≤d
 |[],[],[],h,d,hd=>by simp [yd]at hd
 |p::ps,h::hs,a::is,hk,d,hd=>by
  simp only [kh,Bool.and_eq_true]at hk
  simp only [yd]at hd
  split at hd
  ·exact qey hk.2 d hd
  ·rename_i hp
   split at hd
   ·rename_i e he
    rcases List.mem_cons.1 hd with rfl|hd
    ·have h1:=hk.1
     simp only [qeT,Bool.and_eq_true,Bool.or_eq_true,beq_iff_eq,he,decide_eq_true_eq]at h1
     exact (h1.2.resolve_left hp).1
    ·exact qey hk.2 d hd
   ·exact qey hk.2 d hd
 |[],[],_::_,h,d,hd=>by simp [kh]at h
 |[],_::_,_,h,d,hd=>by simp [kh]at h
 |_::_,[],_,h,d,hd=>by simp [kh]at h
 |_::_,_::_,[],h,d,hd=>by simp [kh]at h
theorem qke: ∀ {plan:List Dp} {is:List AI} {i:Nat} {p:Dp} {ai:AI} {d:Nat},plan[i]? =some p→is[i]? =some ai→p.k ≠ 0→qz ai=some d→d ∈ yd plan is
 |[],is,i,p,ai,d,h1,h2,h3,h4=>by simp at h1
 |q::ps,[],i,p,ai,d,h1,h2,h3,h4=>by simp at h2
 |q::ps,b::is,0,p,ai,d,h1,h2,h3,h4=>by
  simp at h1 h2;subst h1;subst h2
  simp only [yd,if_neg h3,h4];exact List.mem_cons_self
 |q::ps,b::is,i+1,p,ai,d,h1,h2,h3,h4=>by
  have:=qke (plan:=ps) (is:=is) (by simpa using h1) (by simpa using h2) h3 h4
  simp only [yd]
  split
  ·exact this
  ·split
   ·exact List.mem_cons_of_mem _ this
   ·exact this
theorem qqK(hC:jJ P call) (hchk:dOk P n ops plan hs is=true) (htr:kp P N n ops ops.toList hs=some is) {st st1:St} {a:Act} {E:Env} {c:Cnt}
 (hrun:zU call plan is (xV (yd plan is) st)=some st1) (hnd:Yn st1.T=true) (hf:FRel N E st a.tmps c) {Q:Exit→Act→World→Prop}
 (hQ: ∀ a' E' c',FRel N E' st1 a'.tmps c'→a'.defers=a.defers→KN n E E'→Adv E c E' c'→Q .normal a' E'.w) {id:Nat}:(Code.region id ops true).wp P Q a E.w:=by
 simp only [dOk,Bool.and_eq_true]at hchk
 obtain ⟨⟨⟨⟨hm,hanc⟩,hback⟩,hpairs⟩,hops⟩:=hchk
 obtain ⟨hl1,hl2,-⟩:=qhX hops
 have hlen:is.length=ops.size:=by have:=(qi0 htr).1;rw [Array.length_toList]at this;exact this.symm
 let E1:Env:={E with w:={E.w with drawn:=E.w.drawn+1}}
 have hM: ∀ c,Mono E E1 c:=fun c=>⟨fun τ b hb=>⟨hb,rfl⟩,fun b _=>rfl,fun k l hk=>hk⟩
 have hf1:FRel N E1 st a.tmps c:=⟨hf.sz,kJ hf.σ (hM _),yj hf.T (hM _),⟨hf.g.one,hf.g.imm,hf.g.sub,hf.g.bnd,hf.g.lay.next (fun b hb=>hb) (fun b hb=>rfl)⟩⟩
 have hA1:Adv E c E1 c:=⟨fun b n h=>h,rfl,rfl,rfl,Nat.le_refl _,fun _ _ _=>rfl,fun _ _ h=>h,fun _ h=> .inl h,fun _ _ h=> .inl h⟩
 obtain ⟨E2,c2,hw2,hI2,hk2,hf2,hle2,hfree,-⟩:=qo4 (n:=n) (yd plan is) hf1 (qey hops)
 have hA2:Adv E c E2 c2:=hA1.trans (Qz hw2 hI2 hle2)
 have hK2:KN n E E2:=fun k hk=>hk2 k hk
 refine wp_region_any hm ?_
 have hsz:(Array.replicate ops.size false).size=ops.size:=by simp
 have hget: ∀ i,i < ops.size→(Array.replicate ops.size false).getD i true=false:=fun i hi=>by simp [Array.getD_eq_getD_getElem?,hi]
 have hrem:xQ ops.size (Array.replicate ops.size false)=List.range ops.size:=by
  unfold xQ
  rw [List.filter_eq_self]
  intro i hi
  rw [hget i (List.mem_range.1 hi)];rfl
 have hInv0:InvD N n E c a (kD plan is (Array.replicate ops.size false)) (Yu (xV (yd plan is) st)) a E2 c2:=
  ⟨hf2.sz,rfl,fun t x hx=>hf2.σ t x hx,⟨_,fun k=>rfl,hf2.T⟩,hf2.g,hK2,hA2,fun d ⟨i,p,ai,_,h2,h3,h4,h5⟩=>hfree d (qke h2 h3 h4 h5)⟩
 refine qAq (F:=JK call plan is) hanc hback ?_ (fun listed s a' w'=> ∃ E' c',E'.w=w'∧InvD N n E c a (kD plan is listed) s a' E' c')
  (qqL hC hlen hl1 htr hops hpairs) (s':=Yu st1) ?_ ops.size _ (Yu (xV (yd plan is) st)) a _ hsz (by rw [hrem];simp) ?_ ?_ ⟨E2,c2,hw2,hInv0⟩
 ·intro j i hj hi hcon s s1 s2 h1 h2
  simp only [qb2,List.all_eq_true,List.mem_range]at hpairs
  have:=hpairs i (by omega) j hj
  unfold JK at h1 h2 ⊢
  split at h1
  case h_2=>cases h1
  rename_i pj aj e1 e2
  split at h2
  case h_2=>cases h2
  rename_i pi ai e3 e4
  simp only [e1,e2,e3,e4,Bool.and_eq_true,Bool.or_eq_true]at this
  rcases this.1 with h3|h3
  ·rw [hcon]at h3;cases h3
  ·obtain ⟨s1',g1,g2⟩:=qz6 h3 h1 h2
   exact ⟨s1',g1,g2⟩
 ·rintro listed a' w' ⟨E',c',rfl,hI⟩
  obtain ⟨L,hL,hT⟩:=hI.T
  obtain ⟨c'',h1,h2⟩:=qoV hnd hT (fun k x hk=>by rw [hL];exact hk)
  exact hQ a' E' c'' ⟨hI.sz,fun t x hx=>hI.σ t x hx,h1,hI.g.le h2⟩ hI.df hI.kn (hI.adv.le h2)
 ·intro k o hk hl
  rw [hget k (Array.getElem?_eq_some_iff.1 hk).1]at hl;cases hl
 ·rw [hrem,List.range_eq_range', ← hlen]
  exact qkh plan is 0 _ _ rfl rfl hrun
end
end Go.Vm
namespace Go.Vm
variable [Lay]
section
variable {E E':Env}
end
def zV(E:Env):Env:={E with μ:=fun k=>if NB≤k.1 then some (.emp none)else E.μ k}
mutual
theorem qbY(E:Env) (d i:Nat) (nm:Bool) (hd:nm=true→NB≤d): ∀ (x:V) (y:Value) (c:Cnt),Rel E x y c→Rel (zV E) (qP d i nm x) y c
 | .v x,y,c,h=>by simpa only [Rel,qP]using h
 | .p k a b,y,c,h=>by
   simp only [qP]
   split
   ·simp only [Rel]at h ⊢;exact h.1
   ·rename_i hk
    simp only [Rel,zV,if_neg hk]at h ⊢;exact h
 | .s k a b,y,c,h=>by
   simp only [qP]
   split
   ·simp only [Rel]at h ⊢;exact h.1
   ·rename_i hk
    simp only [Rel,zV,if_neg hk]at h ⊢;exact h
 | .q τ xs a b,y,c,h=>by simp only [Rel,qP]at h ⊢;exact h
 | .i τ xs,y,c,h=>by simp only [Rel,qP]at h ⊢;exact h
 | .o e xs,y,c,h=>by simp only [Rel,qP]at h ⊢;exact h
 | .n e,y,c,h=>by
   simp only [qP]
   split
   ·rename_i hn
    simp only [Rel]at h ⊢
    obtain ⟨rfl,rfl⟩:=h
    refine ⟨by trivial,.inl ⟨none,by simp only [zV,if_pos (hd hn)], ?_⟩⟩
    simp
   ·simpa only [Rel]using h
 | .b x,y,c,h=>by simp only [Rel,qP]at h ⊢;exact h
 | .f fn xs ys,y,c,h=>by
   simp only [Rel,qP]at h ⊢
   obtain ⟨fs,cs,c1,c2,hy,h1,h2,h3⟩:=h
   exact ⟨fs,cs,c1,c2,hy,qbX E d i false (fun h=>by cases h) xs _ _ h1,qbX E d i false (fun h=>by cases h) ys _ _ h2,h3⟩
 | .a xs,y,c,h=>by
   simp only [Rel,qP]at h ⊢
   obtain ⟨vs,hy,h⟩:=h
   exact ⟨vs,hy,qbX E d i nm hd xs _ _ h⟩
 | .t xs,y,c,h=>by
   simp only [Rel,qP]at h ⊢
   obtain ⟨vs,hy,h⟩:=h
   exact ⟨vs,hy,qbX E d i false (fun h=>by cases h) xs _ _ h⟩
 | .m k,y,c,h=>by
   simp only [qP]
   split
   ·simp only [Rel]at h ⊢;exact h.1
   ·rename_i hk
    simp only [Rel,zV,if_neg hk]at h ⊢;exact h
 | .w none es,y,c,h=>by simp only [Rel,qP]at h ⊢;exact h
 | .w (some _) es,y,c,h=>by simp only [Rel,qP]at h ⊢;exact h
 | .d,y,c,h=>by simpa only [Rel,qP]using h
theorem qbX(E:Env) (d i:Nat) (nm:Bool) (hd:nm=true→NB≤d): ∀ (xs:List V) (ys:List Value) (c:Cnt),qk E xs ys c→qk (zV E) (zP d i nm xs) ys c
 |[],ys,c,h=>by simpa only [qk,zP]using h
 |x::xs,ys,c,h=>by
  simp only [qk,zP]at h ⊢
  obtain ⟨y,ys',c1,c2,hy,h1,h2,h3⟩:=h
  exact ⟨y,ys',c1,c2,hy,qbY E d i nm hd x _ _ h1,qbX E d (i+1) nm hd xs _ _ h2,h3⟩
end
theorem qhL(d:Nat) (nm:Bool): ∀ (xs:List V) (i:Nat),(zP d i nm xs).length=xs.length
 |[],_=>rfl
 |x::xs,i=>by simp only [zP,List.length_cons,qhL d nm xs (i+1)]
theorem qhM(d i:Nat) (nm:Bool) (x:V):(qP d i nm x).cells.length=x.cells.length:=by
 cases x<;>simp only [qP]<;>first
  |rfl
  |(split<;>rfl)
  |(simp only [V.cells,qhL])
theorem qmz(E:Env) (d:Nat) {e:Nat}: ∀ (xs:List V) (i:Nat) (ys:List Value) (c:Cnt),ql E e xs ys c→ql (zV E) e (zP d i false xs) ys c
 |[],i,ys,c,h=>h
 |x::xs,i,ys,c,h=>by
  simp only [ql,zP]at h ⊢
  obtain ⟨y,ys',c1,c2,h1,h2,h3,h4,h5,h6,h7⟩:=h
  exact ⟨y,ys',c1,c2,h1,h2,by rw [qhM];exact h3,h4,qbY E d i false (fun h=>by cases h) _ _ _ h5,qmz E d xs (i+1) _ _ h6,h7⟩
theorem qig {E E':Env} (hc:E'.cl=E.cl) {e:Nat} {xs:List V} {ys:List Value} {c:Cnt} (h:ql E e xs ys c) (hx:qF xs=true):ql E' e xs ys c:=
 yQ (by rw [hc];exact qfb h hx) (jr E' c)
theorem qvL(E:Env) (d i:Nat) (bx:Bool) (hd:NB≤d) {e:Nat} {xs:List V} {ys:List Value} {c:Cnt} (h:ql E e xs ys c):ql (zV E) e (kU d i bx xs) ys c:=by
 have hall: ∀ xs,ql E e xs ys c→ql (zV E) e (if qF xs then xs else zP 0 0 false xs) ys c:=by
  intro xs h
  split
  ·rename_i hc;exact qig (E:=E) (E':=zV E) rfl h hc
  ·exact qmz E 0 xs 0 ys c h
 unfold kU
 split
 ·rename_i x
  have hone: ∀ g:V→V,(∀ y c,Rel E x y c→Rel (zV E) (g x) y c)→(g x).cells.length=x.cells.length→ql (zV E) e [g x] ys c:=by
   intro g hg hl
   simp only [ql]at h ⊢
   obtain ⟨y,ys',c1,c2,h1,h2,h3,h4,h5,h6,h7⟩:=h
   exact ⟨y,ys',c1,c2,h1,h2,by rw [hl];exact h3,h4,hg _ _ h5,h6,h7⟩
  split
  ·exact hone (qP d i true) (fun y c h=>qbY E d i true (fun _=>hd) x y c h) (qhM _ _ _ _)
  ·split
   ·rename_i hc;exact qig (E:=E) (E':=zV E) rfl h (by simp only [qF,hc,Bool.and_self])
   ·exact hone (qP 0 0 false) (fun y c h=>qbY E 0 0 false (fun h=>by cases h) x y c h) (qhM _ _ _ _)
 ·exact hall _ h
theorem qld(E:Env) {k:Key} (hk:NB≤k.1) (e:Nat):xG (zV E) k (e,[]) c0:= .inr (.inl ⟨⟨none,by simp only [zV,if_pos hk]⟩,rfl,rfl⟩)
theorem qhK(E:Env) (d:Nat) (hd:NB≤d): ∀ (xs:List V) (i:Nat),qq (zV E) (QK d i xs) c0
 |[],i=>by simp only [QK,qq]
 |x::xs,i=>by
  cases x<;>simp only [QK]<;>first
   |exact qhK E d hd xs (i+1)
   |exact ⟨c0,c0,qld E hd _,qhK E d hd xs (i+1),rfl⟩
theorem qmC(E:Env) (d i:Nat) (hd:NB≤d) (x:V):qq (zV E) (yx d i x) c0:=by
 cases x<;>simp only [yx]<;>first
  |exact qhK E d hd _ i
  |exact ⟨c0,c0,qld E hd _,rfl,rfl⟩
  |rfl
theorem qvM {E:Env} {σ:Sl} {tmps:Array Value} (h:zM E σ tmps):zM (zV E) (ka σ) tmps:=by
 have hget: ∀ (σ:Sl) t z,qI (ka σ) t=some z→ ∃ x,qI σ t=some x∧z=qP (NB+t) 0 true x:=by
  intro σ
  induction σ with
  |nil=>intro t z h;simp [ka,qI]at h
  |cons p r ih=>
   obtain ⟨u,x⟩:=p
   intro t z h
   simp only [ka,qI]at h ⊢
   split at h
   ·rename_i hu;subst hu
    simp only [Option.some.injEq]at h
    rw [if_pos rfl];exact ⟨x,rfl,h.symm⟩
   ·rename_i hu;rw [if_neg hu];exact ih t z h
 intro t z hz
 obtain ⟨x,hx,rfl⟩:=hget σ t z hz
 obtain ⟨y,h1,h2⟩:=h t x hx
 exact ⟨y,h1,qbY E _ 0 true (fun _=>Nat.le_add_right _ _) x y c0 h2⟩
theorem qmA(E:Env): ∀ (σ:Sl),qq (zV E) (kV σ) c0
 |[]=>rfl
 |(t,x)::r=>by
  simp only [kV]
  have:=xU (qmC E (NB+t) 0 (Nat.le_add_right _ _) x) (qmA E r)
  rwa [zi]at this
theorem qmB {E:Env} (bx:List Key): ∀ {T:Mem} {c:Cnt},qq E T c→ ∃ c',qq (zV E) (xn bx T) c'∧cle c' c
 |[],c,h=>⟨c,h,qT _⟩
 |(k,e,xs)::r,c,h=>by
  obtain ⟨c1,c2,h1,h2,rfl⟩:=h
  obtain ⟨c3,h3,h4⟩:=qmB bx h2
  simp only [xn]
  split
  ·exact ⟨c3,h3,xi h4 (xx _ _)⟩
  ·rename_i hk
   have hom:qq (zV E) (Xr (2*NB+k.1) (10*k.2) (xL k bx) xs) c0:=by
    unfold Xr
    split
    ·split
     ·exact qmC E _ _ (by omega) _
     ·rfl
    ·rfl
   have hob:xG (zV E) k (e,kU (2*NB+k.1) (10*k.2) (xL k bx) xs) c1:=by
    rcases h1 with ⟨b,ents,clk,es,q1,q2,q3,q4,q5⟩|⟨⟨A,hA⟩,hn,hc⟩|⟨b,base,lim,cells,T,fz,c5,g1,g2,g3,g4,g5,g6,rfl⟩
    ·simp only at q4;subst q4
     refine .inl ⟨b,ents,clk,es,by simp only [zV,if_neg hk];exact q1,q2,q3, ?_,q5⟩
     simp [kU,qP,clE,clB]
    ·simp only at hn;subst hn
     refine .inr (.inl ⟨⟨A,by simp only [zV,if_neg hk];exact hA⟩, ?_,hc⟩)
     simp [kU,qF]
    ·have hlen:(kU (2*NB+k.1) (10*k.2) (xL k bx) xs).length=xs.length:=by
      unfold kU
      split
      ·split
       ·rfl
       ·split<;>rfl
      ·split
       ·rfl
       ·exact qhL _ _ _ _
     refine .inr (.inr ⟨b,base,lim,cells,T,fz,c5,by simp only [zV,if_neg hk];exact g1,g2,g3,g4, ?_, ?_,rfl⟩)
     ·simp only at g5 ⊢;rw [hlen];exact g5
     ·simp only at g6 ⊢;rw [hlen];exact qvL E _ _ _ (by omega) g6
   refine ⟨qh c1 c3, ?_,kz (qT _) h4⟩
   have:=xU hom (show qq (zV E) ((k,e,kU (2*NB+k.1) (10*k.2) (xL k bx) xs)::xn bx r) (qh c1 c3)from ⟨c1,c3,hob,h3,rfl⟩)
   rwa [zi]at this
def jz(tb:List Key) (E:Env):Env:={E with μ:=fun k=>if k.1=CN then (tb[k.2]?).bind E.μ else E.μ k}
theorem qlE {k:Key}: ∀ {tb:List Key} {i j:Nat},Yg k i tb=some j→i≤j∧tb[j - i]? =some k
 |[],i,j,h=>by simp [Yg]at h
 |u::r,i,j,h=>by
  simp only [Yg]at h
  split at h
  ·rename_i hu;simp only [Option.some.injEq]at h;subst h;subst hu;simp
  ·obtain ⟨h1,h2⟩:=qlE h
   refine ⟨by omega, ?_⟩
   rw [show j - i=(j - (i+1))+1 by omega]
   simpa using h2
theorem Xy {tb:List Key} {E:Env} {k k':Key} {l:Loc} (h:xR tb k=some k') (hl:E.μ k=some l):(jz tb E).μ k'=some l:=by
 unfold xR at h
 split at h
 ·rename_i i hi
  simp only [Option.some.injEq]at h;subst h
  obtain ⟨-,h2⟩:=qlE hi
  simp only [Nat.sub_zero]at h2
  simp only [jz,if_true,h2,Option.bind_some,hl]
 ·split at h
  ·cases h
  ·rename_i hk
   simp only [Option.some.injEq]at h;subst h
   simp only [jz,if_neg hk,hl]
mutual
theorem qip(tb:List Key) (E:Env): ∀ (x:V) (y:Value) (c:Cnt),Rel E x y c→Rel (jz tb E) (qV tb x) y c
 | .v x,y,c,h=>by simpa only [Rel,qV]using h
 | .p k a b,y,c,h=>by
   simp only [qV]
   simp only [Rel]at h
   obtain ⟨h0,b',base,e,lim,h1,h2⟩:=h
   split
   ·rename_i k' hk
    simp only [Rel]
    exact ⟨h0,b',base,e,lim,Xy hk h1,h2⟩
   ·simp only [Rel];exact h0
 | .s k a b,y,c,h=>by
   simp only [qV]
   simp only [Rel]at h
   obtain ⟨h0,h⟩:=h
   split
   ·rename_i k' hk
    simp only [Rel]
    refine ⟨h0, ?_⟩
    rcases h with ⟨A,h1,h2⟩|⟨b',base,e,lim,cap,A,h1,h2⟩
    ·exact .inl ⟨A,Xy hk h1,h2⟩
    ·exact .inr ⟨b',base,e,lim,cap,A,Xy hk h1,h2⟩
   ·simp only [Rel];exact h0
 | .q τ xs a b,y,c,h=>by simp only [Rel,qV]at h ⊢;exact h
 | .i τ xs,y,c,h=>by simp only [Rel,qV]at h ⊢;exact h
 | .o e xs,y,c,h=>by simp only [Rel,qV]at h ⊢;exact h
 | .n e,y,c,h=>by simpa only [Rel,qV]using h
 | .b x,y,c,h=>by simp only [Rel,qV]at h ⊢;exact h
 | .f fn xs ys,y,c,h=>by
   simp only [Rel,qV]at h ⊢
   obtain ⟨fs,cs,c1,c2,hy,h1,h2,h3⟩:=h
   exact ⟨fs,cs,c1,c2,hy,qce tb E xs _ _ h1,qce tb E ys _ _ h2,h3⟩
 | .a xs,y,c,h=>by
   simp only [Rel,qV]at h ⊢
   obtain ⟨vs,hy,h⟩:=h
   exact ⟨vs,hy,qce tb E xs _ _ h⟩
 | .t xs,y,c,h=>by
   simp only [Rel,qV]at h ⊢
   obtain ⟨vs,hy,h⟩:=h
   exact ⟨vs,hy,qce tb E xs _ _ h⟩
 | .m k,y,c,h=>by
   simp only [qV]
   simp only [Rel]at h
   obtain ⟨h0,b',h1,h2⟩:=h
   split
   ·rename_i k' hk
    simp only [Rel]
    exact ⟨h0,b',Xy hk h1,h2⟩
   ·simp only [Rel];exact h0
 | .w none es,y,c,h=>by simp only [Rel,qV]at h ⊢;exact h
 | .w (some _) es,y,c,h=>by simp only [Rel,qV]at h ⊢;exact h
 | .d,y,c,h=>by simpa only [Rel,qV]using h
theorem qce(tb:List Key) (E:Env): ∀ (xs:List V) (ys:List Value) (c:Cnt),qk E xs ys c→qk (jz tb E) (zX tb xs) ys c
 |[],ys,c,h=>by simpa only [qk,zX]using h
 |x::xs,ys,c,h=>by
  simp only [qk,zX]at h ⊢
  obtain ⟨y,ys',c1,c2,hy,h1,h2,h3⟩:=h
  exact ⟨y,ys',c1,c2,hy,qip tb E x _ _ h1,qce tb E xs _ _ h2,h3⟩
end
theorem qio(tb:List Key): ∀ (xs:List V),(zX tb xs).length=xs.length
 |[]=>rfl
 |x::xs=>by simp only [zX,List.length_cons,qio tb xs]
theorem qyp(tb:List Key) (x:V):(qV tb x).cells.length=x.cells.length:=by
 cases x<;>simp only [qV]<;>first
  |rfl
  |(split<;>rfl)
  |(simp only [V.cells,qio])
theorem qn6(tb:List Key) (E:Env) {e:Nat}: ∀ (xs:List V) (ys:List Value) (c:Cnt),ql E e xs ys c→ql (jz tb E) e (zX tb xs) ys c
 |[],ys,c,h=>h
 |x::xs,ys,c,h=>by
  simp only [ql,zX]at h ⊢
  obtain ⟨y,ys',c1,c2,h1,h2,h3,h4,h5,h6,h7⟩:=h
  exact ⟨y,ys',c1,c2,h1,h2,by rw [qyp];exact h3,h4,qip tb E _ _ _ h5,qn6 tb E xs _ _ h6,h7⟩
theorem qyo {E:Env} (tb:List Key) {σ:Sl} {tmps:Array Value} (h:zM E σ tmps):zM (jz tb E) (QQ tb σ) tmps:=by
 have hget: ∀ (σ:Sl) t z,qI (QQ tb σ) t=some z→ ∃ x,qI σ t=some x∧z=qV tb x:=by
  intro σ
  induction σ with
  |nil=>intro t z h;simp [QQ,qI]at h
  |cons p r ih=>
   obtain ⟨u,x⟩:=p
   intro t z h
   simp only [QQ,qI]at h ⊢
   split at h
   ·rename_i hu;subst hu
    simp only [Option.some.injEq]at h
    rw [if_pos rfl];exact ⟨x,rfl,h.symm⟩
   ·rename_i hu;rw [if_neg hu];exact ih t z h
 intro t z hz
 obtain ⟨x,hx,rfl⟩:=hget σ t z hz
 obtain ⟨y,h1,h2⟩:=h t x hx
 exact ⟨y,h1,qip tb E x y c0 h2⟩
theorem qn7 {E:Env} (tb:List Key): ∀ {T:Mem} {c:Cnt},qq E T c→ ∃ c',qq (jz tb E) (jA tb T) c'∧cle c' c
 |[],c,h=>⟨c,h,qT _⟩
 |(k,e,xs)::r,c,h=>by
  obtain ⟨c1,c2,h1,h2,rfl⟩:=h
  obtain ⟨c3,h3,h4⟩:=qn7 tb h2
  simp only [jA]
  split
  ·rename_i k' hk
   have hob:xG (jz tb E) k' (e,if qF xs then xs else zX tb xs) c1:=by
    have hlen:(if qF xs then xs else zX tb xs).length=xs.length:=by
     split
     ·rfl
     ·exact qio _ _
    rcases h1 with ⟨b,ents,clk,es,q1,q2,q3,q4,q5⟩|⟨⟨A,hA⟩,hn,hc⟩|⟨b,base,lim,cells,T,fz,c5,g1,g2,g3,g4,g5,g6,rfl⟩
    ·simp only at q4;subst q4
     exact .inl ⟨b,ents,clk,es,Xy hk q1,q2,q3,by simp [qF,clE,clB],q5⟩
    ·simp only at hn;subst hn
     exact .inr (.inl ⟨⟨A,Xy hk hA⟩,by simp [qF],hc⟩)
    ·refine .inr (.inr ⟨b,base,lim,cells,T,fz,c5,Xy hk g1,g2,g3,g4, ?_, ?_,rfl⟩)
     ·simp only at g5 ⊢;rw [hlen];exact g5
     ·simp only at g6 ⊢;rw [hlen]
      split
      ·rename_i hc;exact qig (E:=E) (E':=jz tb E) rfl g6 hc
      ·exact qn6 tb E xs _ _ g6
   exact ⟨qh c1 c3,⟨c1,c3,hob,h3,rfl⟩,kz (qT _) h4⟩
  ·exact ⟨c3,h3,xi h4 (xx _ _)⟩
theorem qqu(n:Nat):qam (zd n):=by
 intro E T x y c1 c2 hT h
 unfold zd
 split
 ·rename_i hc;exact ⟨c1,c2,hT,qim h hc,qT _,rfl⟩
 ·exact Jb n E T x y c1 c2 hT h
theorem qqr {E:Env} {T:Mem} {c:Cnt} (k:Key) (h:qq E T c): ∃ c',qq E (Xd T k) c'∧cle c' c:=by
 unfold Xd
 split
 ·exact ⟨c,h,qT _⟩
 ·rename_i ob hg
  split
  ·exact ⟨c,h,qT _⟩
  ·obtain ⟨e,xs⟩:=ob
   obtain ⟨c1,c2,h1,h2,rfl⟩:=yA h hg
   rcases h1 with ⟨b,ents,clk,es,q1,q2,q3,q4,q5⟩|⟨⟨A,hA⟩,hn,rfl⟩|⟨b,base,lim,cells,Tt,fz,c5,g1,g2,g3,g4,g5,g6,rfl⟩
   ·rename_i hcl
    simp only at q4;subst q4
    simp [qF,clE,clB]at hcl
   ·simp only at hn;subst hn
    refine ⟨qh c0 c2,⟨c0,c2,.inr (.inl ⟨⟨A,hA⟩,by simp [qB],rfl⟩),by simpa [qB]using h2,rfl⟩,qT _⟩
   ·obtain ⟨d1,d2,k1,k2,k3⟩:=qij (qqu 30) h2 g6
    have hlen:=qeN (zd 30) (qG T k) xs
    refine ⟨qh (qh (qH b) d2) d1,⟨qh (qH b) d2,d1,.inr (.inr ⟨b,base,lim,cells,Tt,fz,d2,g1,g2,g3,g4, ?_, ?_,rfl⟩),k1,rfl⟩, ?_⟩
    ·simp only at g5 ⊢;rw [hlen];exact g5
    ·simp only at g6 ⊢;rw [hlen];exact yQ k2 (jr E d2)
    ·intro z;have:=k3 z;simp only [qh]at*;omega
theorem qg2 {E:Env} (bx:List Key): ∀ (ks:List Key) {T:Mem} {c:Cnt},qq E T c→ ∃ c',qq E (QF bx ks T) c'∧cle c' c
 |[],T,c,h=>⟨c,h,qT _⟩
 |k::ks,T,c,h=>by
  simp only [QF]
  split
  ·exact qg2 bx ks h
  ·obtain ⟨c1,h1,h2⟩:=qqr k h
   obtain ⟨c3,h3,h4⟩:=qg2 bx ks h1
   exact ⟨c3,h3,xi h4 h2⟩
theorem qzm {E:Env} {T:Mem} {c:Cnt} (bx k0:List Key) (h:qq E T c): ∃ c',qq E (XB bx k0 T) c'∧cle c' c:=by
 unfold XB
 obtain ⟨c1,h1,h1'⟩:=qg2 bx k0 h
 obtain ⟨c3,h3,h3'⟩:=qfC k0 h1
 exact ⟨c3,h3,xi h3' h1'⟩
theorem qqh {E:Env} {σ:Sl} {T:Mem} {tmps:Array Value} {c:Cnt} (n:Nat) (bx:List Key) (hσ:zM E σ tmps) (hT:qq E T c):
 ∃ E' c',E'.w=E.w∧E'.I=E.I∧(∀ k:Key,k.1 < CN→E'.μ k=E.μ k)∧zM E' (Yb n bx σ T).σ tmps∧qq E' (Yb n bx σ T).T c'∧cle c' c:=by
 obtain ⟨c1,h1,h1'⟩:=qmB bx hT
 have h2:=xU (qmA E σ) h1
 rw [zi]at h2
 obtain ⟨c4,h4,h4'⟩:=qfC (xK (ka σ)++xI (kV σ++xn bx T) bx) h2
 obtain ⟨c3,h3,h3'⟩:=qn7 (kT n (xK (ka σ)++xI (kV σ++xn bx T) bx)) h4
 refine ⟨jz (kT n (xK (ka σ)++xI (kV σ++xn bx T) bx)) (zV E),c3,rfl,rfl, ?_,qyo _ (qvM hσ),h3,xi h3' (xi h4' h1')⟩
 intro k hk
 have e1: ¬ k.1=CN:=by omega
 have e2: ¬ NB≤k.1:=by unfold CN at hk;unfold NB;omega
 simp only [jz,if_neg e1,zV,if_neg e2]
theorem qnl {N:Nat} {E:Env} {st:St} {tmps:Array Value} {c:Cnt} (ls:List Nat) (ks:List Key) (hf:FRel N E st tmps c):
 ∃ E' c',E'.w=E.w∧E'.I=E.I∧(∀ k:Key,k.1 < CN→E'.μ k=E.μ k)∧FRel N E' (ki ls ks st) tmps c'∧cle c' c:=by
 obtain ⟨c1,h1,h1'⟩:=qzm (xh (zG st.σ ls)) (xK (zG st.σ ls)++xI st.T (xh (zG st.σ ls))) hf.T
 obtain ⟨E',c',hw,hI,hμ,hσ,hT,hle⟩:=qqh (qbD ks) (xh (zG st.σ ls)) (qoj hf.σ ls) h1
 have hle':=xi hle h1'
 exact ⟨E',c',hw,hI,hμ,⟨hf.sz,hσ,hT,Zm hw hI hle' hf.g⟩,hle'⟩
end Go.Vm
namespace Go.Vm
variable [Lay]
theorem qvW {N:Nat} {E:Env} {st:St} {tmps:Array Value} {c:Cnt} (d:Nat) (k:Key) (i:Nat) (hf:FRel N E st tmps c):
 ∃ E' c',E'.w=E.w∧E'.I=E.I∧(∀ k:Key,k.1 ≠ d→E'.μ k=E.μ k)∧FRel N E' (Js d k i (zo d st)) tmps c'∧cle c' c:=by
 obtain ⟨c1,hσ1,hT1,hle1⟩:=Yw d hf.σ hf.T
 have hself:FRel N (E.drop d) (zo d st) tmps c1:=⟨hf.sz,hσ1,hT1,(hf.g.drop d).le hle1⟩
 have hdrop: ∀ k:Key,k.1 ≠ d→(E.drop d).μ k=E.μ k:=(qcf E d).hμ
 have hnone: ∃ E' c',E'.w=E.w∧E'.I=E.I∧(∀ k:Key,k.1 ≠ d→E'.μ k=E.μ k)∧FRel N E' (zo d st) tmps c'∧cle c' c:=
  ⟨E.drop d,c1,rfl,rfl,hdrop,hself,hle1⟩
 unfold Js
 split
 case h_2=>exact hnone
 rename_i ob hg
 split
 case h_2=>exact hnone
 rename_i x hx
 obtain ⟨co,cr,hob,hrest,rfl⟩:=yA hT1 hg
 rcases hob with ⟨b,ents,clk,es,q1,q2,q3,q4,q5⟩|⟨⟨A0,hn1⟩,hn2,-⟩|⟨b,base,lim,cells,ty,fz,ce,hμ,hw,hl,hf',hs,hr,rfl⟩
 ·rw [q4]at hx
  have hi:i=0:=by
   cases i with
   |zero=>rfl
   |succ i=>simp at hx
  subst hi
  simp only [List.getElem?_cons_zero,Option.some.injEq]at hx
  subst hx
  have e1:(qQ d 0 (.w (some true) es)).2.2=[]:=rfl
  have e2:(qQ d 0 (.w (some true) es)).1= .w (some true) es:=rfl
  rw [e1,e2,q4]
  exact ⟨E.drop d,_,rfl,rfl,hdrop,⟨hf.sz,hσ1,⟨co,cr,.inl ⟨b,ents,clk,es,q1,q2,q3,rfl,q5⟩,hrest,rfl⟩,(hf.g.drop d).le hle1⟩,hle1⟩
 ·rw [hn2]at hx;simp at hx
 obtain ⟨yv,d0,d1,d2,e1,hs1,hl1,ho1,hr0,hr1,hr2,rfl⟩:=qfe hr hx
 obtain ⟨E2,cO,hn,hzz,hTO,hleO⟩:=qeU (d:=d) (j:=0) (fun i _=>jT E d i) hr1
 have hcl:=qmS d 0 x
 have hidx:i < ob.2.length:=(List.getElem?_eq_some_iff.1 hx).1
 have hR:=qih hx (yQ hr0 (hn.mono _)) hs1 (by rw [hcl];exact hl1) ho1 hzz (yQ hr2 (hn.mono _))
 have hseg:(seg cells base (ob.2.length*ob.1)).take (i*ob.1)++yv.cells.toList++(seg cells base (ob.2.length*ob.1)).drop (i*ob.1+ob.1)=seg cells base (ob.2.length*ob.1):=by
  rw [← e1,List.append_assoc, ← List.drop_drop,List.take_append_drop,List.take_append_drop]
 rw [hseg]at hR
 have hO:xG E2 k (ob.1,ob.2.set i (qQ d 0 x).1) (qh (qH b) (qh (qh d0 c0) d2)):=
  .inr (.inr ⟨b,base,lim,cells,ty,fz,_,hn.hμ _ _ hμ,by rw [hn.hw];exact hw,hl,hf',by simpa using hs,by simpa using hR,rfl⟩)
 have hTT:qq E2 ((qQ d 0 x).2.2++((k,ob.1,ob.2.set i (qQ d 0 x).1)::qG (zo d st).T k)) (qh cO (qh (qh (qH b) (qh (qh d0 c0) d2)) cr)):=
  xU hTO ⟨_,_,hO,yj hrest (hn.mono _),rfl⟩
 have hcle:cle (qh cO (qh (qh (qH b) (qh (qh d0 c0) d2)) cr)) c:=by
  intro z
  have q1:=hle1 z;have q2:=hleO z
  simp only [qh,c0]at*;omega
 exact ⟨E2,_,hn.hw,hn.hI,fun k hk=>by rw [hn.hout k (fun h=>hk h)];exact hdrop k hk,⟨hf.sz,kJ hσ1 (hn.mono _),hTT,Zm hn.hw hn.hI hcle (hf.g.drop d)⟩,hcle⟩
theorem qhW {N n:Nat}: ∀ (os:List (Nat × Key × Nat)) {E:Env} {st:St} {tmps:Array Value} {c:Cnt},(os.all fun o=>decide (n≤o.1))=true→FRel N E st tmps c→
 ∃ E' c',E'.w=E.w∧E'.I=E.I∧KN n E E'∧FRel N E' (QL os st) tmps c'∧cle c' c
 |[],E,st,tmps,c,_,hf=>⟨E,c,rfl,rfl,KN.refl,hf,qT _⟩
 |(d,k,i)::os,E,st,tmps,c,ho,hf=>by
  simp only [List.all_cons,Bool.and_eq_true,decide_eq_true_eq]at ho
  obtain ⟨E1,c1,h1,h2,h3,h4,h5⟩:=qvW d k i hf
  obtain ⟨E2,c2,g1,g2,g3,g4,g5⟩:=qhW os ho.2 h4
  exact ⟨E2,c2,g1.trans h1,g2.trans h2,KN.trans (fun k hk=>h3 k (by omega)) g3,g4,xi g5 h5⟩
theorem qqM(n:Nat) (σ:Sl) (d r:Nat) (i:Option Nat) (h:n≤d):((Zl σ d r i).all fun o=>decide (n≤o.1))=true:=by
 unfold Zl
 split
 ·simp [h]
 ·split
  ·split
   ·simp [h]
   ·rfl
  ·rfl
 ·rfl
theorem qmR {N n:Nat}: ∀ (os:List (Nat × Nat × Option Nat)) {E:Env} {st:St} {tmps:Array Value} {c:Cnt},(os.all fun o=>decide (n≤o.1))=true→FRel N E st tmps c→
 ∃ E' c',E'.w=E.w∧E'.I=E.I∧KN n E E'∧FRel N E' (Yp os st) tmps c'∧cle c' c
 |[],E,st,tmps,c,_,hf=>⟨E,c,rfl,rfl,KN.refl,hf,qT _⟩
 |(d,r,i)::os,E,st,tmps,c,ho,hf=>by
  simp only [List.all_cons,Bool.and_eq_true,decide_eq_true_eq]at ho
  obtain ⟨E1,c1,h1,h2,h3,h4,h5⟩:=qhW (Zl st.σ d r i) (qqM n st.σ d r i ho.1) hf
  obtain ⟨E2,c2,g1,g2,g3,g4,g5⟩:=qmR os ho.2 h4
  exact ⟨E2,c2,g1.trans h1,g2.trans h2,KN.trans h3 g3,g4,xi g5 h5⟩
end Go.Vm
namespace Go.Vm
variable [Lay]
section
variable (P:Program) (N n:Nat)
def trC:Code→AC→Option AC
 |code,.opn os hx=>match trC code hx with
  |some x'=>if (os.all fun o=>decide (n≤o.1))=true then some (.opn os x')else none
  |none=>none
 |code,.opd os hx=>match trC code hx with
  |some x'=>if (os.all fun o=>decide (n≤o.1))=true then some (.opd os x')else none
  |none=>none
 |code,.nam ls ks hx=>match trC code hx with
  |some x'=>if n≤CN then some (.nam ls ks x')else none
  |none=>none
 |code,.keep ls hx=>match trC code hx with
  |some x'=>some (.keep ls x')
  |none=>none
 | .skip,.skip=>some .skip
 | .ret,.ret=>some .ret
 | .exit id,.exit _=>some (.exit id)
 | .region _ ops false,.reg hs=>(kp P N n ops ops.toList hs).map .reg
 | .region _ ops true,.dreg plan hs=>match kp P N n ops ops.toList hs with
   |some is=>if dOk P n ops plan hs is then some (.dreg plan is)else none
   |none=>none
 | .seq x y,.seq hx hy=>match trC x hx,trC y hy with
   |some x',some y'=>some (.seq x' y')
   |_,_=>none
 | .cond c x y,.cond hc hx hy=>match trO c hc,trC x hx,trC y hy with
   |some c',some x',some y'=>some (.cond c' x' y')
   |_,_,_=>none
 | .block id x,.block _ hx=>match trC x hx with
   |some x'=>some (.block id x')
   |none=>none
 | .loop x,.loop ls ks hx=>match trC x hx with
   |some x'=>if n≤CN then some (.loop ls ks x')else none
   |none=>none
 |_,_=>none
end
section
variable {P:Program} {N n:Nat} {E:Env} {c:Cnt} {st st':St} {a:Act} {call:qX}
theorem Adv.seq {E E' E'':Env} {c c' c'':Cnt} (h:Adv E c E' c') (h':Adv E' c' E'' c''):Adv E c E'' c'':=h.trans h'
theorem qkj(hC:jJ P call) (ops:Array Oper) {Q:Exit→Act→World→Prop}: ∀ (os:List Oper) (k:Nat) (hs is:List AI) (st:St) (a:Act) (E:Env) (c:Cnt),
 ops.toList.drop k=os→kp P N n ops os hs=some is→xf call is st=some st'→FRel N E st a.tmps c→(∀ a' E' c',FRel N E' st' a'.tmps c'→a'.defers=a.defers→KN n E E'→Adv E c E' c'→Q .normal a' E'.w)→
 wpOps P ops Q (List.range' k os.length) a E.w
 |[],k,hs,is,st,a,E,c,hd,ht,hr,hf,hQ=>by
  cases hs with
  |cons=>simp [kp]at ht
  |nil=>
   simp only [kp,Option.some.injEq]at ht;subst ht
   simp only [xf,Option.some.injEq]at hr;subst hr
   simp only [List.length_nil,List.range'_zero,wpOps]
   exact hQ a E c hf rfl KN.refl (Adv.refl _ _)
 |o::os,k,hs,is,st,a,E,c,hd,ht,hr,hf,hQ=>by
  cases hs with
  |nil=>simp [kp]at ht
  |cons h hs=>
   simp only [kp]at ht
   split at ht
   case h_2=>cases ht
   rename_i i is' h1 h2
   simp only [Option.some.injEq]at ht;subst ht
   simp only [xf]at hr
   split at hr
   case h_2=>cases hr
   rename_i st1 hst1
   have hk:ops[k]? =some o:=by
    have:(ops.toList.drop k)[0]? =some o:=by rw [hd];rfl
    simpa using this
   have hd':ops.toList.drop (k+1)=os:=by
    rw [← List.drop_drop,hd];rfl
   simp only [List.length_cons,List.range'_succ,wpOps,hk]
   refine qoZ hC h1 hst1 hf ?_
   intro y E' c' hF hkn hkp hA
   refine qkj hC ops os (k+1) hs is' st1 (a.put o.dst y) E' c' hd' h2 hr hF ?_
   intro a'' E'' c'' hF' hdf' hkn' hA'
   exact hQ a'' E'' c'' hF' (hdf'.trans (qnm _ _ _)) (hkn.trans hkn') (hA.seq hA')
def xOf:AX→Exit
 | .normal=> .normal
 | .exit id=> .exit id
 | .ret=> .ret
def Ql(n N:Nat) (E:Env) (c:Cnt) (st':St) (a:Act) (x:AX):Exit→Act→World→Prop:=
 fun e a' w'=>e=xOf x∧a'.defers=a.defers∧ ∃ E' c',E'.w=w'∧FRel N E' st' a'.tmps c'∧KN n E E'∧Adv E c E' c'
theorem Ql.then {E E':Env} {c c':Cnt} {a a':Act} {x:AX} {e:Exit} {a'':Act} {w:World} (h:Ql n N E' c' st' a' x e a'' w) (hd:a'.defers=a.defers) (hk:KN n E E') (hA:Adv E c E' c'):
 Ql n N E c st' a x e a'' w:=by
 obtain ⟨h1,h2,E'',c'',h3,h4,h5,h6⟩:=h
 exact ⟨h1,h2.trans hd,E'',c'',h3,h4,hk.trans h5,hA.seq h6⟩
theorem qkd(hC:jJ P call): ∀ (f:Nat),
 (∀ (code:Code) (h ac:AC) (st st':St) (x:AX),trC P N n code h=some ac→qx call f ac st=some (x,st')→
  ∀ (a:Act) (E:Env) (c:Cnt),FRel N E st a.tmps c→code.wp P (Ql n N E c st' a x) a E.w)∧
 (∀ (body:Code) (ls:List Nat) (ks:List Key) (h ac:AC) (st st':St) (x:AX),n≤CN→trC P N n body h=some ac→qx call f (.loop ls ks ac) st=some (x,st')→
  ∀ (a:Act) (E:Env) (c:Cnt),FRel N E st a.tmps c→Code.rounds P body (Ql n N E c st' a x) f a E.w)
 |0=>⟨fun code h ac st st' x ht hr=>by simp [qx]at hr,fun body ls ks h ac st st' x hn ht hr=>by simp [qx]at hr⟩
 |f+1=>by
  have IH:=qkd hC f
  have hloop: ∀ (body:Code) (ls:List Nat) (ks:List Key) (h ac:AC) (st st':St) (x:AX),n≤CN→trC P N n body h=some ac→qx call (f+1) (.loop ls ks ac) st=some (x,st')→
   ∀ (a:Act) (E:Env) (c:Cnt),FRel N E st a.tmps c→Code.rounds P body (Ql n N E c st' a x) (f+1) a E.w:=by
   intro body ls ks h ac st st' x hn ht hr a E0 c hf
   rw [rounds_succ]
   simp only [qx]at hr
   obtain ⟨E,c1,hw0,hI0,hμ0,hp,hle⟩:=qnl (tmps:=a.tmps) ls ks hf
   have hA0:Adv E0 c E c1:=Qz hw0 hI0 hle
   have hk0:KN n E0 E:=fun k hk=>hμ0 k (by omega)
   rw [← hw0]
   split at hr
   ·rename_i st1 h1
    refine wp_mono (IH.1 _ _ _ _ _ _ ht h1 a E c1 hp) ?_
    rintro e a' w' ⟨rfl,hdf,E',c',rfl,hF,hk,hA⟩
    simp only [xOf,Exit.then]
    have:=IH.2 body ls ks h ac st1 st' x hn ht hr a' E' c' hF
    have hmono: ∀ (m:Nat) (a1:Act) (w1:World),Code.rounds P body (Ql n N E' c' st' a' x) m a1 w1→Code.rounds P body (Ql n N E0 c st' a x) m a1 w1:=by
     intro m
     induction m with
     |zero=>intro a1 w1 h;exact h.elim
     |succ m ih=>
      intro a1 w1 h
      rw [rounds_succ]at h ⊢
      refine wp_mono h ?_
      intro e a2 w2 hq
      cases e<;>simp only [Exit.then]at hq ⊢ <;>(first|exact ih _ _ hq|exact hq.then hdf (hk0.trans hk) (hA0.seq hA))
    exact hmono _ _ _ this
   ·rename_i r hnn
    have hb:=IH.1 _ _ _ _ _ _ ht hr a E c1 hp
    refine wp_mono hb ?_
    rintro e a' w' ⟨rfl,hdf,E',c',rfl,hF,hk,hA⟩
    have hx:x ≠ .normal:=by rintro rfl;exact hnn _ hr
    cases x with
    |normal=>exact absurd rfl hx
    |exit id=>exact ⟨rfl,hdf,E',c',rfl,hF,hk0.trans hk,hA0.seq hA⟩
    |ret=>exact ⟨rfl,hdf,E',c',rfl,hF,hk0.trans hk,hA0.seq hA⟩
  refine ⟨?_,hloop⟩
  intro code h ac st st' x ht hr a E c hf
  have hself:Ql n N E c st a .normal .normal a E.w:=⟨rfl,rfl,E,c,rfl,hf,KN.refl,Adv.refl _ _⟩
  unfold trC at ht
  split at ht
  ·rename_i os hx
   split at ht
   case h_2=>cases ht
   rename_i x' h1
   split at ht
   case isFalse=>cases ht
   rename_i ho
   simp only [Option.some.injEq]at ht;subst ht
   simp only [qx]at hr
   obtain ⟨E1,c1,hw0,hI0,hk0,hF,hle⟩:=qhW (n:=n) os ho hf
   rw [← hw0]
   refine wp_mono (IH.1 _ _ _ _ _ _ h1 hr a E1 c1 hF) ?_
   intro e a' w' hq
   exact hq.then rfl hk0 (Qz hw0 hI0 hle)
  ·rename_i os hx
   split at ht
   case h_2=>cases ht
   rename_i x' h1
   split at ht
   case isFalse=>cases ht
   rename_i ho
   simp only [Option.some.injEq]at ht;subst ht
   simp only [qx]at hr
   obtain ⟨E1,c1,hw0,hI0,hk0,hF,hle⟩:=qmR (n:=n) os ho hf
   rw [← hw0]
   refine wp_mono (IH.1 _ _ _ _ _ _ h1 hr a E1 c1 hF) ?_
   intro e a' w' hq
   exact hq.then rfl hk0 (Qz hw0 hI0 hle)
  ·rename_i ls ks hx
   split at ht
   case h_2=>cases ht
   rename_i x' h1
   split at ht
   case isFalse=>cases ht
   rename_i ho
   simp only [Option.some.injEq]at ht;subst ht
   simp only [qx]at hr
   obtain ⟨E1,c1,hw0,hI0,hk0,hF,hle⟩:=qnl (tmps:=a.tmps) ls ks hf
   rw [← hw0]
   refine wp_mono (IH.1 _ _ _ _ _ _ h1 hr a E1 c1 hF) ?_
   intro e a' w' hq
   exact hq.then rfl (fun k hk=>hk0 k (by omega)) (Qz hw0 hI0 hle)
  ·split at ht
   case h_2=>cases ht
   rename_i x' h1
   simp only [Option.some.injEq]at ht;subst ht
   simp only [qx]at hr
   exact IH.1 _ _ _ _ _ _ h1 hr a E c ⟨hf.sz,qoj hf.σ _,hf.T,hf.g⟩
  ·simp only [Option.some.injEq]at ht;subst ht
   simp only [qx,Option.some.injEq,Prod.mk.injEq]at hr
   obtain ⟨rfl,rfl⟩:=hr
   exact wp_skip hself
  ·simp only [Option.some.injEq]at ht;subst ht
   simp only [qx,Option.some.injEq,Prod.mk.injEq]at hr
   obtain ⟨rfl,rfl⟩:=hr
   exact wp_ret ⟨rfl,rfl,E,c,rfl,hf,KN.refl,Adv.refl _ _⟩
  ·simp only [Option.some.injEq]at ht;subst ht
   simp only [qx,Option.some.injEq,Prod.mk.injEq]at hr
   obtain ⟨rfl,rfl⟩:=hr
   exact wp_exit ⟨rfl,rfl,E,c,rfl,hf,KN.refl,Adv.refl _ _⟩
  ·rename_i id ops hs
   rw [Option.map_eq_some_iff]at ht
   obtain ⟨is,h1,rfl⟩:=ht
   simp only [qx,Option.map_eq_some_iff,Prod.mk.injEq]at hr
   obtain ⟨st1,h2,rfl,rfl⟩:=hr
   refine wp_region ?_
   have:=qkj (Q:=Ql n N E c st1 a .normal) hC ops ops.toList 0 hs is st a E c rfl h1 h2 hf ?_
   ·rw [Array.length_toList, ← List.range_eq_range']at this
    exact this
   ·intro a' E' c' hF hdf hk hA
    exact ⟨rfl,hdf,E',c',rfl,hF,hk,hA⟩
  ·rename_i id ops plan hs
   split at ht
   case h_2=>cases ht
   rename_i is h1
   split at ht
   case isFalse=>cases ht
   rename_i hk
   simp only [Option.some.injEq]at ht;subst ht
   simp only [qx]at hr
   split at hr
   case h_2=>cases hr
   rename_i st1 h2
   split at hr
   case isFalse=>cases hr
   rename_i hnd
   simp only [Option.some.injEq,Prod.mk.injEq]at hr
   obtain ⟨rfl,rfl⟩:=hr
   exact qqK hC hk h1 h2 hnd hf fun a' E' c' hF hdf hk hA=>⟨rfl,hdf,E',c',rfl,hF,hk,hA⟩
  ·rename_i cx cy hx hy
   split at ht
   case h_2=>cases ht
   rename_i x' y' h1 h2
   simp only [Option.some.injEq]at ht;subst ht
   simp only [qx]at hr
   refine wp_seq ?_
   split at hr
   ·rename_i st1 h3
    refine wp_mono (IH.1 _ _ _ _ _ _ h1 h3 a E c hf) ?_
    rintro e a' w' ⟨rfl,hdf,E',c',rfl,hF,hk,hA⟩
    simp only [xOf,Exit.then]
    exact wp_mono (IH.1 _ _ _ _ _ _ h2 hr a' E' c' hF) fun e a2 w2 hq=>hq.then hdf hk hA
   ·rename_i r hnn
    refine wp_mono (IH.1 _ _ _ _ _ _ h1 hr a E c hf) ?_
    intro e a' w' hq
    have hx:x ≠ .normal:=by rintro rfl;exact hnn _ hr
    have he:=hq.1
    cases x with
    |normal=>exact absurd rfl hx
    |exit id=>subst he;exact hq
    |ret=>subst he;exact hq
  ·rename_i cc cx cy hc hx hy
   split at ht
   case h_2=>cases ht
   rename_i c' x' y' h0 h1 h2
   simp only [Option.some.injEq]at ht;subst ht
   simp only [qx]at hr
   split at hr
   ·rename_i hb
    have:=qL hf.σ h0 hb
    simp only [Rel]at this
    exact wp_cond_true this.1 (IH.1 _ _ _ _ _ _ h1 hr a E c hf)
   ·rename_i hb
    have:=qL hf.σ h0 hb
    simp only [Rel]at this
    exact wp_cond_false this.1 (IH.1 _ _ _ _ _ _ h2 hr a E c hf)
   ·cases hr
  ·rename_i id cx id' hx
   split at ht
   case h_2=>cases ht
   rename_i x' h1
   simp only [Option.some.injEq]at ht;subst ht
   simp only [qx]at hr
   refine wp_block ?_
   split at hr
   ·rename_i id2 st1 h3
    refine wp_mono (IH.1 _ _ _ _ _ _ h1 h3 a E c hf) ?_
    rintro e a' w' ⟨rfl,hdf,E',c',rfl,hF,hk,hA⟩
    simp only [xOf,Exit.inBlock]
    split at hr
    ·rename_i he
     simp only [Option.some.injEq,Prod.mk.injEq]at hr
     obtain ⟨rfl,rfl⟩:=hr
     rw [if_pos he]
     exact ⟨rfl,hdf,E',c',rfl,hF,hk,hA⟩
    ·rename_i he
     simp only [Option.some.injEq,Prod.mk.injEq]at hr
     obtain ⟨rfl,rfl⟩:=hr
     rw [if_neg he]
     exact ⟨rfl,hdf,E',c',rfl,hF,hk,hA⟩
   ·rename_i r hnn
    refine wp_mono (IH.1 _ _ _ _ _ _ h1 hr a E c hf) ?_
    intro e a' w' hq
    have he:=hq.1
    cases x with
    |normal=>subst he;exact hq
    |exit id=>exact absurd hr (hnn _ _)
    |ret=>subst he;exact hq
  ·rename_i cx ls ks hx
   split at ht
   case h_2=>cases ht
   rename_i x' h1
   split at ht
   case isFalse=>cases ht
   rename_i hn
   simp only [Option.some.injEq]at ht;subst ht
   exact wp_loop_rounds (f+1) (hloop cx ls ks hx x' st st' x hn h1 hr a E c hf)
  ·cases ht
end
end Go.Vm
namespace Go.Vm
variable [Lay]
def jb(P:Program):List ResultVar→Option (List AR)
 |[]=>some []
 | .tmp t::r=>(jb P r).map (.tmp t:: ·)
 | .cell a t::r=>kH (jD P t) (jb P r) fun q rs=> .cell a q.1 q.2::rs
def qi(P:Program) (fn:Func) (h:AF):Option AF:=
 match fn.body with
 |some code=>match trC P fn.ntmps h.nargs code h.body,jb P fn.results.toList with
  |some b,some rs=>if decide (h.nargs≤fn.ntmps)&&fn.name != "runtime.NumGoroutine" then some {nargs:=h.nargs,ntmps:=fn.ntmps,res:=rs,body:=b} else none
  |_,_=>none
 |none=>none
def kM(P:Program) (prog:Nat→Option AE):Prop:=
 ∀ f e,prog f=some e→match e with
  | .fn af=> ∃ fn h,P.funcs[f]? =some fn∧qi P fn h=some af
  | .prim g=> ∀ args r outs,g args=some (r,outs)→Q9 P f args r outs
section
variable {P:Program} {N n:Nat} {E:Env} {c:Cnt} {st st':St} {a:Act} {call:qX}
theorem qmT: ∀ (xs:List V) (i:Nat) (E:Env) (vs:List Value) (c:Cnt),(∀ k:Key,i≤k.1→E.μ k=none)→qk E xs vs c→
 ∃ E' c',E'.w=E.w∧E'.I=E.I∧(∀ k l,E.μ k=some l→E'.μ k=some l)∧(∀ k:Key,i+xs.length≤k.1→E'.μ k=none)∧
  qk E' (zn i xs).1 vs c0∧qq E' (zn i xs).2 c'∧cle c' c
 |[],i,E,vs,c,hf,h=>by
  simp only [qk]at h
  exact ⟨E,c0,rfl,rfl,fun _ _ h=>h,fun k hk=>hf k (by simpa using hk),by simp only [zn,qk];exact ⟨h.1,trivial⟩,rfl,fun _=>Nat.zero_le _⟩
 |x::xs,i,E,vs,c,hf,h=>by
  simp only [qk]at h
  obtain ⟨y,t,c1,c2,rfl,h1,h2,rfl⟩:=h
  obtain ⟨E1,d1,j',hn,hr1,ht1,hl1⟩:=qhV (d:=i) (fun j=>hf (i,j) (Nat.le_refl _)) h1
  obtain ⟨E2,d2,hw2,hI2,hμ2,hfree2,hr2,ht2,hl2⟩:=qmT xs (i+1) E1 t c2 (fun k hk=>by rw [hn.hout k (by omega)];exact hf k (by omega)) (xA h2 (hn.mono _))
  have hm: ∀ c,Mono E1 E2 c:=fun c=>⟨fun τ b hb=>⟨by rw [hI2];exact hb,by rw [hw2]⟩,fun b _=>by rw [hw2],hμ2⟩
  refine ⟨E2,qh d1 d2,hw2.trans hn.hw,hI2.trans hn.hI,fun k l hk=>hμ2 k l (hn.hμ k l hk),fun k hk=>hfree2 k (by simp only [List.length_cons]at hk;omega), ?_, ?_,kz hl1 hl2⟩
  ·simp only [zn,qk]
   exact ⟨y,t,c0,c0,rfl,yW hr1 (hm _),hr2,rfl⟩
  ·simp only [zn]
   exact xU (yj ht1 (hm _)) ht2
theorem qlu: ∀ (xs:List V) (i t:Nat) (x:V),qI (xC i xs) t=some x→ ∃ j,t=i+j∧xs[j]? =some x
 |[],i,t,x,h=>by simp [xC,qI]at h
 |y::ys,i,t,x,h=>by
  simp only [xC,qI]at h
  split at h
  ·rename_i he;subst he
   exact ⟨0,rfl,by simpa using h⟩
  ·obtain ⟨j,h1,h2⟩:=qlu ys (i+1) t x h
   exact ⟨j+1,by omega,by simpa using h2⟩
theorem qyL {xs:List V} {vs:List Value} {rest:Array Value} (h:qk E xs vs c0):zM E (xC 0 xs) (vs.toArray++rest):=by
 intro t x hx
 obtain ⟨j,rfl,hj⟩:=qlu xs 0 t x hx
 obtain ⟨y,c1,c2,hy,hr,hc,-⟩:=qe9 h hj
 have h0:c1=c0:=funext fun b=>by have:=congrFun hc b;simp only [c0,qh]at this ⊢;omega
 subst h0
 have hlt:j < vs.length:=(List.getElem?_eq_some_iff.1 hy).1
 refine ⟨y, ?_,hr⟩
 rw [Nat.zero_add,Array.getElem?_append_left (by simpa using hlt)]
 simpa using hy
theorem qyt {r:ResultVar} {x:V} {T T':Mem} {tmps:Array Value} {ar:AR} {cT:Cnt} (hr:jb P [r]=some [ar]) (hσ:zM E st.σ tmps) (hT:qq E T cT) (h:QR {σ:=st.σ,T:=T} ar=some (x,T')):
 ∃ v d1 d2,((match r with
  | .tmp t=>pure (tmps.getD t undef)
  | .cell a t=>do loadVar t (← asAddr (tmps.getD a undef))):Sem Value).run P E.w= .ok v E.w∧Rel E x v d1∧qq E T' d2∧cle (qh d1 d2) cT:=by
 cases r with
 |tmp t=>
  simp only [jb,Option.map_some,Option.some.injEq,List.cons.injEq,and_true]at hr
  subst hr
  simp only [QR,Option.map_eq_some_iff,Prod.mk.injEq]at h
  obtain ⟨y,hy,rfl,rfl⟩:=h
  obtain ⟨v,hv,hrv⟩:=hσ _ _ hy
  refine ⟨v,c0,cT, ?_,hrv,hT,by rw [zi];exact qT _⟩
  simp only [Sem.run_pure,Array.getD_eq_getD_getElem?,hv,Option.getD_some]
 |cell a t=>
  simp only [jb]at hr
  obtain ⟨q,rs,hq,hrs,he⟩:=QM hr
  simp only [Option.some.injEq]at hrs
  subst hrs
  simp only [List.cons.injEq,and_true]at he
  subst he
  simp only [QR]at h
  split at h
  case h_2=>cases h
  rename_i k hk
  split at h
  case h_2=>cases h
  rename_i e0 xe hg
  rw [Option.bind_eq_some_iff]at h
  obtain ⟨y,hy,h⟩:=h
  split at h
  case isFalse=>cases h
  rename_i hlen
  simp only [Option.some.injEq,Prod.mk.injEq]at h
  obtain ⟨rfl,rfl⟩:=h
  obtain ⟨v,hv,hrv⟩:=hσ _ _ hk
  simp only [Rel]at hrv
  obtain ⟨-,b',base',e',kF,hμ',rfl⟩:=hrv
  obtain ⟨co,cr,hob,hrest,rfl⟩:=yA hT hg
  rcases hob with ⟨_,_,_,_,hn1,-⟩|⟨-,hn1,-⟩|⟨b,base,lim,cells,ty,fz,ce,hμ,hw,hl,hf,hs,hr',rfl⟩
  ·rw [hn1]at hμ';cases hμ'
  ·cases hn1
  rw [hμ]at hμ';cases hμ'
  simp only [List.length_singleton,Nat.one_mul]at hs hr'
  obtain ⟨u,hu,hus,hul,huo,hR⟩:=qcc hr'
  obtain ⟨vz,f0,f1,f2,hz,hzl,hzle,hzc,hz0,hz2,rfl,hzT,hzF⟩:=qmj hR (by rw [hul,hus]) huo hy
  have haddr:tmps.getD a undef= .pointer (some ⟨b',base',none⟩):=by
   simp only [Array.getD_eq_getD_getElem?,hv,Option.getD_some]
   simp
  unfold jD at hq
  split at hq
  case h_2=>cases hq
  rename_i dd i hud hi
  simp only [Option.some.injEq]at hq;subst hq
  refine ⟨vz,f1,cr, ?_,hz,hrest,fun z=>by simp only [qh];omega⟩
  simp only [haddr,asAddr,Sem.run_bind,Sem.run_pure,Result.andThen_ok]
  have hrun:=qiu (P:=P) (w:=E.w) (t:=t) (o:=base') hud hi hw
  cases hag:Z7 dd with
  |true=>
   obtain ⟨q1,q2⟩:=hzT hag
   have hsz:u.cells.size=i.size:=by omega
   rw [q2]
   have e2:u.cells.toList.take i.size=seg cells base' i.size:=by
    rw [← hu,qor];congr 1;omega
   simp only [List.drop_zero,e2]
   exact hrun.1 hag (by omega)
  |false=>
   have q1:=hzF hag
   have h8:(seg cells base' e0)[0]? =some vz:=by rw [hu];simpa using q1
   exact hrun.2 hag vz (by simpa using Ys h8)
theorem qn9 {tmps:Array Value} (hσ:zM E st.σ tmps): ∀ {rs:List ResultVar} {ars:List AR} {T T':Mem} {xs:List V} {cT:Cnt},jb P rs=some ars→qq E T cT→kY st.σ T ars=some (xs,T')→
 ∃ vs d1 d2,(rs.mapM fun
  | .tmp t=>pure (tmps.getD t undef)
  | .cell a t=>do loadVar t (← asAddr (tmps.getD a undef)):Sem (List Value)).run P E.w= .ok vs E.w∧qk E xs vs d1∧qq E T' d2∧cle (qh d1 d2) cT
 |[],ars,T,T',xs,cT,hr,hT,h=>by
  simp only [jb,Option.some.injEq]at hr;subst hr
  simp only [kY,Option.some.injEq,Prod.mk.injEq]at h
  obtain ⟨rfl,rfl⟩:=h
  exact ⟨[],c0,cT,by simp,by simp [qk],hT,by rw [zi];exact qT _⟩
 |r::rs,ars,T,T',xs,cT,hr,hT,h=>by
  have hsplit: ∃ ar ars',ars=ar::ars'∧jb P [r]=some [ar]∧jb P rs=some ars':=by
   cases r with
   |tmp t=>
    simp only [jb,Option.map_eq_some_iff]at hr
    obtain ⟨q,h1,rfl⟩:=hr
    exact ⟨_,_,rfl,rfl,h1⟩
   |cell a t=>
    simp only [jb]at hr
    obtain ⟨q,qs,h1,h2,rfl⟩:=QM hr
    exact ⟨_,_,rfl,by simp [jb,kH,h1],h2⟩
  obtain ⟨ar,ars',rfl,h1,h2⟩:=hsplit
  simp only [kY]at h
  split at h
  case h_2=>cases h
  rename_i x T1 hx
  split at h
  case h_2=>cases h
  rename_i xs' T2 hxs
  simp only [Option.some.injEq,Prod.mk.injEq]at h
  obtain ⟨rfl,rfl⟩:=h
  obtain ⟨v,d1,d2,g1,g2,g3,g4⟩:=qyt h1 hσ hT hx
  obtain ⟨vs,e1,e2,k1,k2,k3,k4⟩:=qn9 hσ h2 g3 hxs
  refine ⟨v::vs,qh d1 e1,e2, ?_, ?_,k3,fun b=>by have:=g4 b;have:=k4 b;simp only [qh]at*;omega⟩
  ·rw [List.mapM_cons,Sem.run_bind,g1,Result.andThen_ok,Sem.run_bind,k1,Result.andThen_ok]
   rfl
  ·simp only [qk];exact ⟨v,vs,d1,e1,rfl,g2,k2,rfl⟩
theorem qvR {xs:List V} {vs:List Value} (h:qk E xs vs c):Rel E (jt xs) (if h:vs.toArray.size=1 then vs.toArray[0]else .tuple vs.toArray) c:=by
 have hl:=xz h
 match xs,vs,hl,h with
 |[x],[v],_,h=>
  obtain ⟨y,h1,h2⟩:=qca h
  simp only [List.cons.injEq,and_true]at h1;subst h1
  simpa [jt]using h2
 |[],[],_,h=>
  simp only [qk]at h
  simp [jt,Rel,qk,h.2]
 |x::y::xs,v::u::vs,_,h=>
  simp only [jt]
  rw [dif_neg (by simp)]
  simp only [Rel]
  exact ⟨_,rfl,by simpa using h⟩
theorem qyH {g:ResultVar→Sem Value} {l:Array ResultVar} {w:World} {vs:List Value} (h:(l.toList.mapM g).run P w= .ok vs w):(l.mapM g).run P w= .ok vs.toArray w:=by
 rw [Array.mapM_eq_mapM_toList]
 simp only [map_eq_pure_bind,Sem.run_bind,h,Result.andThen_ok,Sem.run_pure]
theorem qka {prog:Nat→Option AE} (hK:kM P prog): ∀ n,jJ P (zq prog n)
 |0=>fun f xs r outs h=>by simp [zq]at h
 |n+1=>by
  have IH:=qka hK n
  intro f xs r outs h
  simp only [zq]at h
  split at h
  ·rename_i g hg
   have:=hK f _ hg
   exact this xs r outs h
  ·rename_i af haf
   obtain ⟨fn,hh,hfn,htr⟩:=hK f _ haf
   split at h
   case isFalse=>cases h
   rename_i hlen
   unfold qi at htr
   split at htr
   case h_2=>cases htr
   rename_i code hcode
   split at htr
   case h_2=>cases htr
   rename_i b rs hb hrs
   split at htr
   case isFalse=>cases htr
   rename_i hcond
   simp only [Bool.and_eq_true,decide_eq_true_eq,bne_iff_ne,ne_eq]at hcond
   obtain ⟨hnt,hname⟩:=hcond
   simp only [Option.some.injEq]at htr;subst htr
   simp only at hlen h
   intro E vs c hxs hg
   have hcf:(callFunc f vs.toArray).run P E.w= .ok (.enter f vs.toArray) E.w:=by
    have hne:(fn.name== "runtime.NumGoroutine")=false:=by simpa using hname
    simp [callFunc,hfn,hname,hcode]
   rw [hcf]
   refine ⟨rfl, ?_⟩
   obtain ⟨E0,c1,hw0,hI0,-,hfree,hxs0,hT0,hle0⟩:=qmT xs 0 E.cl vs c (fun k _=>rfl) hxs
   rw [Nat.zero_add]at hfree
   have hvl:=xz hxs
   have hg0:Good E0 c1:=Zm (E:=E) hw0 hI0 hle0 hg
   have hsz:(vs.toArray++Array.replicate (fn.ntmps - vs.toArray.size) undef).size=fn.ntmps:=by
    simp only [Array.size_append,List.size_toArray,Array.size_replicate];omega
   have hF:FRel fn.ntmps E0 {σ:=xC 0 (zn 0 xs).1,T:=(zn 0 xs).2} (vs.toArray++Array.replicate (fn.ntmps - vs.toArray.size) undef) c1:=
    ⟨hsz,qyL hxs0,hT0,hg0⟩
   have hA0:Adv E c E0 c1:=Qz hw0 hI0 hle0
   have hfin: ∀ (x:AX) (st:St),(x= .normal∨x= .ret)→qx (zq prog n) n b {σ:=xC 0 (zn 0 xs).1,T:=(zn 0 xs).2}=some (x,st)→
    qC {nargs:=hh.nargs,ntmps:=fn.ntmps,res:=rs,body:=b} (zn 0 xs).1 st=some (r,outs)→
    Calls P f vs.toArray E.w (fun e w''=> ∃ y,e= .returned y∧ ∃ E' cr co,E'.w=w''∧Rel E'.cl r y cr∧qk E'.cl outs vs co∧Good E' (qh cr co)∧Adv E c E' (qh cr co)):=by
    intro x st hx he hfi
    refine calls_of_wp hfn hcode ?_
    rw [show E.w=E0.w from hw0.symm]
    refine wp_mono ((qkd IH n).1 code hh.body b _ st x hb he _ E0 c1 hF) ?_
    rintro e a' w' ⟨rfl,hdf,E',c',rfl,hF',hkn,hA⟩
    simp only [qC]at hfi
    split at hfi
    case h_2=>cases hfi
    rename_i vals T' hres
    simp only [Option.some.injEq,Prod.mk.injEq]at hfi
    obtain ⟨rfl,rfl⟩:=hfi
    obtain ⟨ws,d1,d2,k1,k2,k3,k4⟩:=qn9 (P:=P) hF'.σ hrs hF'.T hres
    have hres':(results fn a'.tmps).run P E'.w= .ok (if h:ws.toArray.size=1 then ws.toArray[0]else .tuple ws.toArray) E'.w:=by
     unfold results
     rw [Sem.run_bind]
     refine Eq.trans (congrArg (fun r=>Result.andThen r _) (qyH (l:=fn.results) k1)) ?_
     rfl
    obtain ⟨e1,e2,g1,g2,g3,-⟩:=Jb 30 E' T' _ _ d2 d1 k3 (qvR k2)
    have hargs:qk E' (zn 0 xs).1 vs c0:=by
     refine xA hxs0 ⟨fun τ bb hb=>⟨hA.sub τ bb hb,hA.frame bb (hg0.imm τ bb hb).2 (hg0.imm τ bb hb).1⟩,fun bb hb=>absurd rfl hb,fun k l hk=> ?_⟩
     by_cases hkk:k.1 < hh.nargs
     ·rw [hkn k hkk];exact hk
     ·rw [hfree k (by omega)]at hk;cases hk
    obtain ⟨e3,e4,g4,g5,g6⟩:=Xu (Jb 30) g1 hargs
    have hle:cle (qh e2 e4) c':=fun bb=>by
     have:=k4 bb;have:=g3 bb;have:=g6 bb;simp only [qh,c0]at*;omega
    have hpost:a'.defers=[]∧ ∃ v,(results fn a'.tmps).run P E'.w= .ok v E'.w∧(∃ y,Ending.returned v= .returned y∧ ∃ E'' cr co,E''.w=E'.w∧Rel E''.cl (qA 30 T' (jt vals)).1 y cr∧
     qk E''.cl (qB (qA 30) (qA 30 T' (jt vals)).2 (zn 0 xs).1).1 vs co∧Good E'' (qh cr co)∧Adv E c E'' (qh cr co)):=
     ⟨hdf,_,hres',_,rfl,E',e2,e4,rfl,g2,g5,hF'.g.le hle,(hA0.trans hA).le hle⟩
    rcases hx with rfl|rfl<;>exact hpost
   split at h
   ·rename_i st he
    exact hfin .normal st (.inl rfl) he h
   ·rename_i st he
    exact hfin .ret st (.inr rfl) he h
   ·cases h
  ·cases h
end
end Go.Vm
namespace Go.Vm
section lim
variable {α:Type}
open Classical in
noncomputable def kF(f:Nat→Option α):Option α:=if h: ∃ n,(f n).isSome then f h.choose else none
def qjg(f:Nat→Option α):Prop:= ∀ n m r,n≤m→f n=some r→f m=some r
theorem qgY {f:Nat→Option α} (h: ∀ n r,f n=some r→f (n+1)=some r):qjg f:=by
 intro n m r hnm
 induction hnm with
 |refl=>exact id
 |step _ ih=>exact fun h'=>h _ _ (ih h')
theorem qmg {f:Nat→Option α} (hc:qjg f) {r:α}:kF f=some r↔ ∃ n,f n=some r:=by
 unfold kF
 constructor
 ·intro h
  split at h
  ·exact ⟨_,h⟩
  ·cases h
 ·rintro ⟨n,hn⟩
  have hex: ∃ n,(f n).isSome:=⟨n,by simp [hn]⟩
  rw [dif_pos hex]
  have hs:=hex.choose_spec
  obtain ⟨r',hr'⟩:=Option.isSome_iff_exists.1 hs
  have h1:=hc _ _ _ (Nat.le_max_left n hex.choose) hn
  have h2:=hc _ _ _ (Nat.le_max_right n hex.choose) hr'
  rw [h1]at h2
  rw [hr']
  exact h2.symm
theorem jo {x y:Option α} (h: ∀ r,x=some r↔y=some r):x=y:=by
 cases x with
 |none=>cases y with
  |none=>rfl
  |some b=>exact absurd ((h b).2 rfl) (by simp)
 |some a=>exact ((h a).1 rfl).symm
end lim
def CLe(c c':qX):Prop:= ∀ f xs r,c f xs=some r→c' f xs=some r
section
variable {c c':qX} {st st':St}
theorem qqI(h:CLe c c') {d:Option Nat} {g:Nat} {xs:List V} {m:Md} (hr:kB c d g xs m st=some st'):kB c' d g xs m st=some st':=by
 unfold kB at hr ⊢
 cases m with
 |ro fz=>
  simp only at hr ⊢
  cases he:c g (kK st.T xs)with
  |none=>rw [he]at hr;cases hr
  |some r=>rw [he]at hr;rw [h _ _ _ he];exact hr
 |io fz=>
  simp only at hr ⊢
  cases he:c g (qB (qA 30) st.T xs).1 with
  |none=>rw [he]at hr;cases hr
  |some r=>rw [he]at hr;rw [h _ _ _ he];exact hr
theorem qkl(h:CLe c c') {i:AI} (hr:qj c st i=some st'):qj c' st i=some st':=by
 cases i
 case call d f args m=>
  simp only [qj]at hr ⊢
  split at hr
  ·split at hr
   ·exact qqI h hr
   ·cases hr
  ·cases hr
 all_goals exact hr
theorem qhm(h:CLe c c') {i:AI} (hr:qm c st i=some st'):qm c' st i=some st':=by
 cases i
 case gd j want d i=>
  simp only [qm]at hr ⊢
  split at hr
  ·split at hr
   ·rename_i hb;rw [if_pos hb];exact qkl h hr
   ·rename_i hb;rw [if_neg hb];exact hr
  ·exact hr
  ·cases hr
 all_goals (simp only [qm]at hr ⊢;exact qkl h hr)
theorem qbA(h:CLe c c'): ∀ {is:List AI} {st:St},xf c is st=some st'→xf c' is st=some st'
 |[],_,hr=>hr
 |i::is,st,hr=>by
  simp only [xf]at hr ⊢
  cases he:qm c st i with
  |none=>rw [he]at hr;cases hr
  |some s=>rw [he]at hr;rw [qhm h he];exact qbA h hr
theorem qoL(h:CLe c c') {p:Dp} {i:AI} (hr:xS c p i st=some st'):xS c' p i st=some st':=by
 unfold xS at hr ⊢
 cases he:qm c {σ:=zG st.σ (qR i),T:=xP st.T p.ks} i with
 |none=>rw [he]at hr;cases hr
 |some s=>rw [he]at hr;rw [qhm h he];exact hr
theorem qbz(h:CLe c c'): ∀ {ps:List Dp} {is:List AI} {st:St},zU c ps is st=some st'→zU c' ps is st=some st'
 |[],[],_,hr=>hr
 |[],_::_,_,hr=>by simp [zU]at hr
 |_::_,[],_,hr=>by simp [zU]at hr
 |p::ps,i::is,st,hr=>by
  simp only [zU]at hr ⊢
  cases he:xS c p i st with
  |none=>rw [he]at hr;cases hr
  |some s=>rw [he]at hr;rw [qoL h he];exact qbz h hr
theorem ya(h:CLe c c'): ∀ (n m:Nat) (code:AC) (st:St) (r:AX × St),n≤m→qx c n code st=some r→qx c' m code st=some r
 |0,_,_,_,_,_,hr=>by simp [qx]at hr
 |n+1,0,_,_,_,hle,_=>by omega
 |n+1,m+1,code,st,r,hle,hr=>by
  have hle':n≤m:=by omega
  have IH:=fun code st r=>ya h n m code st r hle'
  cases code with
  |skip=>simpa only [qx]using hr
  |ret=>simpa only [qx]using hr
  |exit id=>simpa only [qx]using hr
  |reg is=>
   simp only [qx,Option.map_eq_some_iff]at hr ⊢
   obtain ⟨s,hs,rfl⟩:=hr
   exact ⟨s,qbA h hs,rfl⟩
  |dreg plan is=>
   simp only [qx]at hr ⊢
   cases he:zU c plan is (xV (yd plan is) st)with
   |none=>rw [he]at hr;cases hr
   |some s=>rw [he]at hr;rw [qbz h he];exact hr
  |seq x y=>
   simp only [qx]at hr ⊢
   cases he:qx c n x st with
   |none=>rw [he]at hr;cases hr
   |some s=>
    rw [he]at hr;rw [IH _ _ _ he]
    obtain ⟨e,s⟩:=s
    cases e<;>first|exact IH _ _ _ hr|exact hr
  |cond a x y=>
   simp only [qx]at hr ⊢
   split at hr
   ·exact IH _ _ _ hr
   ·exact IH _ _ _ hr
   ·cases hr
  |block id x=>
   simp only [qx]at hr ⊢
   cases he:qx c n x st with
   |none=>rw [he]at hr;cases hr
   |some s=>rw [he]at hr;rw [IH _ _ _ he];exact hr
  |opn os x=>
   simp only [qx]at hr ⊢
   exact IH _ _ _ hr
  |opd os x=>
   simp only [qx]at hr ⊢
   exact IH _ _ _ hr
  |nam ls ks x=>
   simp only [qx]at hr ⊢
   exact IH _ _ _ hr
  |keep ls x=>
   simp only [qx]at hr ⊢
   exact IH _ _ _ hr
  |loop ls ks x=>
   simp only [qx]at hr ⊢
   cases he:qx c n x (ki ls ks st)with
   |none=>rw [he]at hr;cases hr
   |some s=>
    rw [he]at hr;rw [IH _ _ _ he]
    obtain ⟨e,s⟩:=s
    cases e<;>first|exact IH _ _ _ hr|exact hr
end
theorem kN(prog:Nat→Option AE): ∀ (n:Nat),CLe (zq prog n) (zq prog (n+1))
 |0=>fun f xs r h=>by simp [zq]at h
 |n+1=>by
  have IH:=kN prog n
  intro f xs r h
  rw [zq]at h ⊢
  split at h
  ·rename_i g hg;exact h
  ·rename_i af haf
   split at h
   case isFalse=>cases h
   rename_i hlen
   rw [if_pos hlen]
   cases he:qx (zq prog n) n af.body {σ:=xC 0 (zn 0 xs).1,T:=(zn 0 xs).2} with
   |none=>rw [he]at h;cases h
   |some s=>rw [he]at h;rw [ya IH n (n+1) _ _ _ (by omega) he];exact h
  ·cases h
theorem Qx(prog:Nat→Option AE) {n m:Nat} (h:n≤m):CLe (zq prog n) (zq prog m):=by
 intro f xs r
 exact qgY (f:=fun n=>zq prog n f xs) (fun n r=>kN prog n f xs r) n m r h
section
variable (prog:Nat→Option AE)
noncomputable def cw:qX:=fun f xs=>kF fun n=>zq prog n f xs
noncomputable def xw(c:AC) (st:St):Option (AX × St):=kF fun n=>qx (zq prog n) n c st
variable {prog}
theorem Jd {f:Nat} {xs:List V} {r:V × List V}:cw prog f xs=some r↔ ∃ n,zq prog n f xs=some r:=
 qmg (qgY fun n r=>kN prog n f xs r)
theorem zE {c:AC} {st:St} {r:AX × St}:xw prog c st=some r↔ ∃ n,qx (zq prog n) n c st=some r:=
 qmg (qgY fun n r=>ya (kN prog n) n (n+1) c st r (by omega))
theorem qj9(n:Nat):CLe (zq prog n) (cw prog):=fun _ _ _ h=>Jd.2 ⟨n,h⟩
variable {st st':St}
theorem qqH {d:Option Nat} {g:Nat} {xs:List V} {m:Md} (h:kB (cw prog) d g xs m st=some st'): ∃ n,kB (zq prog n) d g xs m st=some st':=by
 unfold kB at h
 cases m with
 |ro fz=>
  simp only at h
  cases he:cw prog g (kK st.T xs)with
  |none=>rw [he]at h;cases h
  |some r=>rw [he]at h;obtain ⟨n,hn⟩:=Jd.1 he;exact ⟨n,by unfold kB;simp only [hn];exact h⟩
 |io fz=>
  simp only at h
  cases he:cw prog g (qB (qA 30) st.T xs).1 with
  |none=>rw [he]at h;cases h
  |some r=>rw [he]at h;obtain ⟨n,hn⟩:=Jd.1 he;exact ⟨n,by unfold kB;simp only [hn];exact h⟩
theorem qkk {i:AI} (h:qj (cw prog) st i=some st'): ∃ n,qj (zq prog n) st i=some st':=by
 cases i
 case call d f args m=>
  simp only [qj]at h ⊢
  split at h
  ·rename_i f' hf
   split at h
   ·rename_i hc ha
    obtain ⟨n,hn⟩:=qqH h
    exact ⟨n,by rw [hn]⟩
   ·cases h
  ·cases h
 all_goals exact ⟨0,h⟩
theorem qlz {i:AI} (h:qm (cw prog) st i=some st'): ∃ n,qm (zq prog n) st i=some st':=by
 cases i
 case gd j want d i=>
  simp only [qm]at h ⊢
  split at h
  ·split at h
   ·rename_i hb;obtain ⟨n,hn⟩:=qkk h;exact ⟨n,by rw [if_pos hb];exact hn⟩
   ·rename_i hb;exact ⟨0,by rw [if_neg hb];exact h⟩
  ·exact ⟨0,h⟩
  ·cases h
 all_goals (simp only [qm]at h ⊢;exact qkk h)
theorem qki: ∀ {is:List AI} {st:St},xf (cw prog) is st=some st'→ ∃ n,xf (zq prog n) is st=some st'
 |[],_,h=>⟨0,h⟩
 |i::is,st,h=>by
  simp only [xf]at h ⊢
  cases he:qm (cw prog) st i with
  |none=>rw [he]at h;cases h
  |some s=>
   rw [he]at h
   obtain ⟨n,hn⟩:=qlz he
   obtain ⟨m,hm⟩:=qki h
   refine ⟨max n m, ?_⟩
   rw [qhm (Qx prog (Nat.le_max_left n m)) hn]
   exact qbA (Qx prog (Nat.le_max_right n m)) hm
theorem qz2 {p:Dp} {i:AI} (h:xS (cw prog) p i st=some st'): ∃ n,xS (zq prog n) p i st=some st':=by
 unfold xS at h
 cases he:qm (cw prog) {σ:=zG st.σ (qR i),T:=xP st.T p.ks} i with
 |none=>rw [he]at h;cases h
 |some s=>
  rw [he]at h
  obtain ⟨n,hn⟩:=qlz he
  exact ⟨n,by unfold xS;rw [hn];exact h⟩
theorem qkg: ∀ {ps:List Dp} {is:List AI} {st:St},zU (cw prog) ps is st=some st'→ ∃ n,zU (zq prog n) ps is st=some st'
 |[],[],_,h=>⟨0,h⟩
 |[],_::_,_,h=>by simp [zU]at h
 |_::_,[],_,h=>by simp [zU]at h
 |p::ps,i::is,st,h=>by
  simp only [zU]at h ⊢
  cases he:xS (cw prog) p i st with
  |none=>rw [he]at h;cases h
  |some s=>
   rw [he]at h
   obtain ⟨n,hn⟩:=qz2 he
   obtain ⟨m,hm⟩:=qkg h
   refine ⟨max n m, ?_⟩
   rw [qoL (Qx prog (Nat.le_max_left n m)) hn]
   exact qbz (Qx prog (Nat.le_max_right n m)) hm
theorem qAM:xw prog .skip st=some (.normal,st):=zE.2 ⟨1,rfl⟩
theorem qAK:xw prog .ret st=some (.ret,st):=zE.2 ⟨1,rfl⟩
theorem qAD {id:Nat}:xw prog (.exit id) st=some (.exit id,st):=zE.2 ⟨1,rfl⟩
theorem qAJ {is:List AI}:xw prog (.reg is) st=(xf (cw prog) is st).map fun st=>(.normal,st):=by
 apply jo
 intro r
 rw [zE]
 constructor
 ·rintro ⟨n,h⟩
  cases n with
  |zero=>simp [qx]at h
  |succ n=>
   simp only [qx,Option.map_eq_some_iff]at h ⊢
   obtain ⟨s,hs,rfl⟩:=h
   exact ⟨s,qbA (qj9 _) hs,rfl⟩
 ·intro h
  simp only [Option.map_eq_some_iff]at h
  obtain ⟨s,hs,rfl⟩:=h
  obtain ⟨n,hn⟩:=qki hs
  refine ⟨n+1, ?_⟩
  simp only [qx,Option.map_eq_some_iff]
  exact ⟨s,qbA (kN prog n) hn,rfl⟩
theorem qAC {plan:List Dp} {is:List AI}:xw prog (.dreg plan is) st=match zU (cw prog) plan is (xV (yd plan is) st)with
 |some st=>if Yn st.T then some (.normal,st)else none
 |none=>none:=by
 apply jo
 intro r
 rw [zE]
 constructor
 ·rintro ⟨n,h⟩
  cases n with
  |zero=>simp [qx]at h
  |succ n=>
   simp only [qx]at h
   cases he:zU (zq prog (n+1)) plan is (xV (yd plan is) st)with
   |none=>rw [he]at h;cases h
   |some s=>rw [he]at h;rw [qbz (qj9 _) he];exact h
 ·intro h
  cases he:zU (cw prog) plan is (xV (yd plan is) st)with
  |none=>rw [he]at h;cases h
  |some s=>
   rw [he]at h
   obtain ⟨n,hn⟩:=qkg he
   refine ⟨n+1, ?_⟩
   simp only [qx]
   rw [qbz (kN prog n) hn];exact h
theorem qAL {x y:AC}:xw prog (.seq x y) st=match xw prog x st with
 |some (.normal,st')=>xw prog y st'
 |r=>r:=by
 apply jo
 intro r
 rw [zE]
 constructor
 ·rintro ⟨n,h⟩
  cases n with
  |zero=>simp [qx]at h
  |succ n=>
   simp only [qx]at h
   cases he:qx (zq prog (n+1)) n x st with
   |none=>rw [he]at h;cases h
   |some s=>
    rw [he]at h
    have hx:xw prog x st=some s:=zE.2 ⟨n+1,ya (fun _ _ _ h=>h) n (n+1) _ _ _ (by omega) he⟩
    rw [hx]
    obtain ⟨e,s⟩:=s
    cases e
    ·exact zE.2 ⟨n+1,ya (fun _ _ _ h=>h) n (n+1) _ _ _ (by omega) h⟩
    ·exact h
    ·exact h
 ·intro h
  cases he:xw prog x st with
  |none=>rw [he]at h;cases h
  |some s=>
   rw [he]at h
   obtain ⟨n,hn⟩:=zE.1 he
   obtain ⟨e,s⟩:=s
   cases e
   ·obtain ⟨m,hm⟩:=zE.1 h
    refine ⟨max n m+1, ?_⟩
    simp only [qx]
    rw [ya (Qx prog (by omega)) n (max n m) _ _ _ (by omega) hn]
    exact ya (Qx prog (by omega)) m (max n m) _ _ _ (by omega) hm
   all_goals
    refine ⟨n+1, ?_⟩
    simp only [qx]
    rw [ya (Qx prog (by omega)) n n _ _ _ (by omega) hn]
    exact h
theorem qAB {a:AO} {x y:AC}:xw prog (.cond a x y) st=match ev st.σ a with
 |some (.v (.bool true))=>xw prog x st
 |some (.v (.bool false))=>xw prog y st
 |_=>none:=by
 apply jo
 intro r
 rw [zE]
 constructor
 ·rintro ⟨n,h⟩
  cases n with
  |zero=>simp [qx]at h
  |succ n=>
   simp only [qx]at h
   split at h
   ·rename_i hv;rw [hv];exact zE.2 ⟨n+1,ya (fun _ _ _ h=>h) n (n+1) _ _ _ (by omega) h⟩
   ·rename_i hv;rw [hv];exact zE.2 ⟨n+1,ya (fun _ _ _ h=>h) n (n+1) _ _ _ (by omega) h⟩
   ·cases h
 ·intro h
  split at h
  ·rename_i hv
   obtain ⟨n,hn⟩:=zE.1 h
   exact ⟨n+1,by simp only [qx,hv];exact ya (kN prog n) n n _ _ _ (by omega) hn⟩
  ·rename_i hv
   obtain ⟨n,hn⟩:=zE.1 h
   exact ⟨n+1,by simp only [qx,hv];exact ya (kN prog n) n n _ _ _ (by omega) hn⟩
  ·cases h
theorem qAA {id:Nat} {x:AC}:xw prog (.block id x) st=match xw prog x st with
 |some (.exit id',st')=>if id'=id then some (.normal,st')else some (.exit id',st')
 |r=>r:=by
 apply jo
 intro r
 rw [zE]
 constructor
 ·rintro ⟨n,h⟩
  cases n with
  |zero=>simp [qx]at h
  |succ n=>
   simp only [qx]at h
   cases he:qx (zq prog (n+1)) n x st with
   |none=>rw [he]at h;cases h
   |some s=>
    rw [he]at h
    rw [zE.2 ⟨n+1,ya (fun _ _ _ h=>h) n (n+1) _ _ _ (by omega) he⟩]
    exact h
 ·intro h
  cases he:xw prog x st with
  |none=>rw [he]at h;cases h
  |some s=>
   rw [he]at h
   obtain ⟨n,hn⟩:=zE.1 he
   refine ⟨n+1, ?_⟩
   simp only [qx]
   rw [ya (kN prog n) n n _ _ _ (by omega) hn]
   exact h
theorem qAE {ls:List Nat} {x:AC}:xw prog (.keep ls x) st=xw prog x {σ:=zG st.σ ls,T:=st.T}:=by
 apply jo
 intro r
 rw [zE,zE]
 constructor
 ·rintro ⟨n,h⟩
  cases n with
  |zero=>simp [qx]at h
  |succ n=>
   simp only [qx]at h
   exact ⟨n+1,ya (fun _ _ _ h=>h) n (n+1) _ _ _ (by omega) h⟩
 ·rintro ⟨n,h⟩
  exact ⟨n+1,by simp only [qx];exact ya (kN prog n) n n _ _ _ (by omega) h⟩
theorem qAI {os:List (Nat × Key × Nat)} {x:AC}:xw prog (.opn os x) st=xw prog x (QL os st):=by
 apply jo
 intro r
 rw [zE,zE]
 constructor
 ·rintro ⟨n,h⟩
  cases n with
  |zero=>simp [qx]at h
  |succ n=>
   simp only [qx]at h
   exact ⟨n+1,ya (fun _ _ _ h=>h) n (n+1) _ _ _ (by omega) h⟩
 ·rintro ⟨n,h⟩
  exact ⟨n+1,by simp only [qx];exact ya (kN prog n) n n _ _ _ (by omega) h⟩
theorem qAG {ls:List Nat} {ks:List Key} {x:AC}:xw prog (.nam ls ks x) st=xw prog x (ki ls ks st):=by
 apply jo
 intro r
 rw [zE,zE]
 constructor
 ·rintro ⟨n,h⟩
  cases n with
  |zero=>simp [qx]at h
  |succ n=>
   simp only [qx]at h
   exact ⟨n+1,ya (fun _ _ _ h=>h) n (n+1) _ _ _ (by omega) h⟩
 ·rintro ⟨n,h⟩
  exact ⟨n+1,by simp only [qx];exact ya (kN prog n) n n _ _ _ (by omega) h⟩
theorem qAH {os:List (Nat × Nat × Option Nat)} {x:AC}:xw prog (.opd os x) st=xw prog x (Yp os st):=by
 apply jo
 intro r
 rw [zE,zE]
 constructor
 ·rintro ⟨n,h⟩
  cases n with
  |zero=>simp [qx]at h
  |succ n=>
   simp only [qx]at h
   exact ⟨n+1,ya (fun _ _ _ h=>h) n (n+1) _ _ _ (by omega) h⟩
 ·rintro ⟨n,h⟩
  exact ⟨n+1,by simp only [qx];exact ya (kN prog n) n n _ _ _ (by omega) h⟩
theorem qAF {ls:List Nat} {ks:List Key} {x:AC}:xw prog (.loop ls ks x) st=match xw prog x (ki ls ks st)with
 |some (.normal,st')=>xw prog (.loop ls ks x) st'
 |r=>r:=by
 apply jo
 intro r
 rw [zE]
 constructor
 ·rintro ⟨n,h⟩
  cases n with
  |zero=>simp [qx]at h
  |succ n=>
   rw [qx]at h
   cases he:qx (zq prog (n+1)) n x (ki ls ks st)with
   |none=>rw [he]at h;cases h
   |some s=>
    rw [he]at h
    have hx:xw prog x (ki ls ks st)=some s:=zE.2 ⟨n+1,ya (fun _ _ _ h=>h) n (n+1) _ _ _ (by omega) he⟩
    rw [hx]
    obtain ⟨e,s⟩:=s
    cases e
    ·exact zE.2 ⟨n+1,ya (fun _ _ _ h=>h) n (n+1) _ _ _ (by omega) h⟩
    ·exact h
    ·exact h
 ·intro h
  cases he:xw prog x (ki ls ks st)with
  |none=>rw [he]at h;cases h
  |some s=>
   rw [he]at h
   obtain ⟨n,hn⟩:=zE.1 he
   obtain ⟨e,s⟩:=s
   cases e
   ·obtain ⟨m,hm⟩:=zE.1 h
    refine ⟨max n m+1, ?_⟩
    rw [qx]
    rw [ya (Qx prog (by omega)) n (max n m) _ _ _ (by omega) hn]
    exact ya (Qx prog (by omega)) m (max n m) _ _ _ (by omega) hm
   all_goals
    refine ⟨n+1, ?_⟩
    rw [qx]
    rw [ya (Qx prog (by omega)) n n _ _ _ (by omega) hn]
    exact h
theorem qk9 {f:Nat} {args:List V}:cw prog f args=match prog f with
 |some (.prim g)=>g args
 |some (.fn af)=>
  if args.length=af.nargs then
   match xw prog af.body {σ:=xC 0 (zn 0 args).1,T:=(zn 0 args).2} with
   |some (.normal,st)|some (.ret,st)=>qC af (zn 0 args).1 st
   |_=>none
  else none
 |none=>none:=by
 apply jo
 intro r
 rw [Jd]
 constructor
 ·rintro ⟨n,h⟩
  cases n with
  |zero=>simp [zq]at h
  |succ n=>
   rw [zq]at h
   split at h
   ·rename_i hp;rw [hp];exact h
   ·rename_i af hp
    rw [hp]
    split at h
    case isFalse=>cases h
    rename_i hlen
    show (if args.length=af.nargs then _ else _)=_
    rw [if_pos hlen]
    cases he:qx (zq prog n) n af.body {σ:=xC 0 (zn 0 args).1,T:=(zn 0 args).2} with
    |none=>rw [he]at h;cases h
    |some s=>
     rw [he]at h
     rw [zE.2 ⟨n,he⟩];exact h
   ·cases h
 ·intro h
  split at h
  ·rename_i hp;exact ⟨1,by rw [zq,hp];exact h⟩
  ·rename_i af hp
   split at h
   case isFalse=>cases h
   rename_i hlen
   cases he:xw prog af.body {σ:=xC 0 (zn 0 args).1,T:=(zn 0 args).2} with
   |none=>rw [he]at h;cases h
   |some s=>
    obtain ⟨n,hn⟩:=zE.1 he
    refine ⟨n+1, ?_⟩
    rw [zq,hp]
    simp only [if_pos hlen]
    rw [he]at h
    rw [hn];exact h
  ·cases h
end
end Go.Vm
namespace Go.Vm
def I(n:Int):V:= .v (.int .i64 n)
def U8(n:Int):V:= .v (.int .u8 n)
def U32(n:Int):V:= .v (.int .u32 n)
def B(b:Bool):V:= .v (.bool b)
def S(l:List UInt8):V:= .v (.string ⟨l.toArray⟩)
def Fc(g:Nat):V:= .f (.func g) [] []
def w64(n:Int):Int:=IntKind.i64.wrap n
theorem qp {n:Int} (h1: -9223372036854775808≤n) (h2:n < 9223372036854775808):w64 n=n:=by
 have h: ∀ m:Int,m=n % 18446744073709551616→(if (true&&decide (m ≥ 9223372036854775808))=true then m - 18446744073709551616 else m)=n:=by
  intro m hm
  simp only [Bool.true_and,decide_eq_true_eq]
  split<;>omega
 exact h _ rfl
def kP(r:Option (AX × St)) (k:St→Option (AX × St)):Option (AX × St):=
 match r with
 |some (.normal,st)=>k st
 |r=>r
def kQ {α:Type} (r:Option St) (k:St→Option α):Option α:=
 match r with
 |some st=>k st
 |none=>none
def qt {α:Type} (r:Option V) (k:V→Option α):Option α:=
 match r with
 |some y=>k y
 |none=>none
def Zi {α:Type} (r:Option Mem) (k:Mem→Option α):Option α:=
 match r with
 |some y=>k y
 |none=>none
def yt {α:Type} (r:Option (List V)) (k:List V→Option α):Option α:=
 match r with
 |some y=>k y
 |none=>none
def qeF {α:Type} (r:Option V) (x y:α) (z:α):α:=
 match r with
 |some (.v (.bool true))=>x
 |some (.v (.bool false))=>y
 |_=>z
def Yq(id:Nat) (r:Option (AX × St)):Option (AX × St):=
 match r with
 |some (.exit id',st')=>if id'=id then some (.normal,st')else some (.exit id',st')
 |r=>r
def QH {α:Type} (r:Option (AX × St)) (k:St→Option α):Option α:=
 match r with
 |some (.normal,st)|some (.ret,st)=>k st
 |_=>none
@[congr] theorem qKw {r r':Option (AX × St)} {k:St→Option (AX × St)} (h:r=r'):kP r k=kP r' k:=by rw [h]
@[congr] theorem qKI {α:Type} {r r':Option St} {k:St→Option α} (h:r=r'):kQ r k=kQ r' k:=by rw [h]
@[congr] theorem qKM {α:Type} {r r':Option V} {k:V→Option α} (h:r=r'):qt r k=qt r' k:=by rw [h]
@[congr] theorem qKt {α:Type} {r r':Option Mem} {k:Mem→Option α} (h:r=r'):Zi r k=Zi r' k:=by rw [h]
@[congr] theorem qKq {α:Type} {r r':Option (List V)} {k:List V→Option α} (h:r=r'):yt r k=yt r' k:=by rw [h]
@[congr] theorem qMC {α:Type} {r r':Option V} {x y z:α} (h:r=r'):qeF r x y z=qeF r' x y z:=by rw [h]
@[congr] theorem qN9 {α:Type} {r r':Option (AX × St)} {k:St→Option α} (h:r=r'):QH r k=QH r' k:=by rw [h]
section
variable {α:Type} {k:St→Option (AX × St)} {st:St} {id id':Nat}
@[go_sem] theorem qKA:kP (some (.normal,st)) k=k st:=(rfl)
@[go_sem] theorem qKB:kP (some (.ret,st)) k=some (.ret,st):=(rfl)
@[go_sem] theorem qKx:kP (some (.exit id,st)) k=some (.exit id,st):=(rfl)
@[go_sem] theorem qKz:kP none k=none:=(rfl)
@[go_sem] theorem qKy {p:Prop} [Decidable p] {a b:Option (AX × St)}:kP (if p then a else b) k=if p then kP a k else kP b k:=by split<;>rfl
@[go_sem] theorem qKL {k:St→Option α}:kQ (some st) k=k st:=(rfl)
@[go_sem] theorem qKK {k:St→Option α}:kQ none k=none:=(rfl)
@[go_sem] theorem qKJ {k:St→Option α} {p:Prop} [Decidable p] {a b:Option St}:kQ (if p then a else b) k=if p then kQ a k else kQ b k:=by split<;>rfl
@[go_sem] theorem qKP {x:V} {k:V→Option α}:qt (some x) k=k x:=(rfl)
@[go_sem] theorem qKO {k:V→Option α}:qt none k=none:=(rfl)
@[go_sem] theorem qKN {k:V→Option α} {p:Prop} [Decidable p] {a b:Option V}:qt (if p then a else b) k=if p then qt a k else qt b k:=by split<;>rfl
@[go_sem] theorem qKv {x:Mem} {k:Mem→Option α}:Zi (some x) k=k x:=(rfl)
@[go_sem] theorem qKu {k:Mem→Option α}:Zi none k=none:=(rfl)
@[go_sem] theorem qKs {x:List V} {k:List V→Option α}:yt (some x) k=k x:=(rfl)
@[go_sem] theorem qKr {k:List V→Option α}:yt none k=none:=(rfl)
@[go_sem] theorem qMB {b:Bool} {x y z:α}:qeF (some (B b)) x y z=if b=true then x else y:=by cases b<;>rfl
@[go_sem] theorem qTc:Yq id (some (.exit id',st))=if id'=id then some (.normal,st)else some (.exit id',st):=(rfl)
@[go_sem] theorem qTf:Yq id (some (.normal,st))=some (.normal,st):=(rfl)
@[go_sem] theorem qTg:Yq id (some (.ret,st))=some (.ret,st):=(rfl)
@[go_sem] theorem qTe:Yq id none=none:=(rfl)
@[go_sem] theorem qTd {p:Prop} [Decidable p] {a b:Option (AX × St)}:Yq id (if p then a else b)=if p then Yq id a else Yq id b:=by split<;>rfl
@[go_sem] theorem qOc {k:St→Option α}:QH (some (.normal,st)) k=k st:=(rfl)
@[go_sem] theorem qOd {k:St→Option α}:QH (some (.ret,st)) k=k st:=(rfl)
@[go_sem] theorem qOb {k:St→Option α}:QH none k=none:=(rfl)
@[go_sem] theorem qOa {k:St→Option α} {p:Prop} [Decidable p] {a b:Option (AX × St)}:QH (if p then a else b) k=if p then QH a k else QH b k:=by split<;>rfl
end
noncomputable def cr(prog:Nat→Option AE) (f:Nat) (xs:List V):Option V:=(cw prog f xs).map Prod.fst
section
variable {prog:Nat→Option AE} {st:St}
theorem qn {f:Nat} {af:AF} {args:List V} (h:prog f=some (.fn af)) (hl:args.length=af.nargs):
 cr prog f args=QH (xw prog af.body {σ:=xC 0 (zn 0 args).1,T:=(zn 0 args).2}) fun st=>
  (kY st.σ st.T af.res).map fun r=>(qA 30 r.2 (jt r.1)).1:=by
 unfold cr
 rw [qk9,h]
 simp only [if_pos hl]
 cases he:xw prog af.body {σ:=xC 0 (zn 0 args).1,T:=(zn 0 args).2} with
 |none=>rfl
 |some s=>
  obtain ⟨e,s⟩:=s
  have hf:(qC af (zn 0 args).1 s).map Prod.fst=(kY s.σ s.T af.res).map fun r=>(qA 30 r.2 (jt r.1)).1:=by
   unfold qC
   cases kY s.σ s.T af.res<;>rfl
  cases e
  ·exact hf
  ·rfl
  ·exact hf
theorem qK {f:Nat} {af:AF} {args:List V} (h:prog f=some (.fn af)) (hl:args.length=af.nargs):
 cw prog f args=QH (xw prog af.body {σ:=xC 0 (zn 0 args).1,T:=(zn 0 args).2}) fun st=>qC af (zn 0 args).1 st:=by
 rw [qk9,h]
 simp only [if_pos hl]
 cases he:xw prog af.body {σ:=xC 0 (zn 0 args).1,T:=(zn 0 args).2} with
 |none=>rfl
 |some s=>obtain ⟨e,s⟩:=s;cases e<;>rfl
@[go_sem] theorem qV0:xw prog .skip st=some (.normal,st):=qAM
@[go_sem] theorem qVY:xw prog .ret st=some (.ret,st):=qAK
@[go_sem] theorem qVS {id:Nat}:xw prog (.exit id) st=some (.exit id,st):=qAD
@[go_sem] theorem qVX {is:List AI}:xw prog (.reg is) st=kQ (xf (cw prog) is st) fun st=>some (.normal,st):=by
 rw [qAJ];cases xf (cw prog) is st<;>rfl
@[go_sem] theorem qVR {plan:List Dp} {is:List AI}:xw prog (.dreg plan is) st=kQ (zU (cw prog) plan is (xV (yd plan is) st)) fun st=>if Yn st.T=true then some (.normal,st)else none:=by
 rw [qAC];cases zU (cw prog) plan is (xV (yd plan is) st)<;>rfl
@[go_sem] theorem qVZ {x y:AC}:xw prog (.seq x y) st=kP (xw prog x st) fun st'=>xw prog y st':=by
 rw [qAL]
 cases xw prog x st with
 |none=>rfl
 |some s=>obtain ⟨e,s⟩:=s;cases e<;>rfl
@[go_sem] theorem qVQ {a:AO} {x y:AC}:xw prog (.cond a x y) st=qeF (ev st.σ a) (xw prog x st) (xw prog y st) none:=by
 rw [qAB];rfl
@[go_sem] theorem qVP {id:Nat} {x:AC}:xw prog (.block id x) st=Yq id (xw prog x st):=by
 rw [qAA]
 cases xw prog x st with
 |none=>rfl
 |some s=>obtain ⟨e,s⟩:=s;cases e<;>rfl
@[go_sem] theorem qVU {ls:List Nat} {ks:List Key} {x:AC}:xw prog (.nam ls ks x) st=xw prog x (ki ls ks st):=qAG
@[go_sem] theorem qVV {os:List (Nat × Nat × Option Nat)} {x:AC}:xw prog (.opd os x) st=xw prog x (Yp os st):=qAH
@[go_sem] theorem qVW {os:List (Nat × Key × Nat)} {x:AC}:xw prog (.opn os x) st=xw prog x (QL os st):=qAI
@[go_sem] theorem qVT {ls:List Nat} {x:AC} {σ:Sl} {T:Mem}:xw prog (.keep ls x) ⟨σ,T⟩=xw prog x ⟨zG σ ls,T⟩:=qAE
theorem qAy {ls:List Nat} {ks:List Key} {x:AC}:xw prog (.loop ls ks x) st=kP (xw prog x (ki ls ks st)) fun st'=>xw prog (.loop ls ks x) st':=by
 rw [qAF]
 cases xw prog x (ki ls ks st)with
 |none=>rfl
 |some s=>obtain ⟨e,s⟩:=s;cases e<;>rfl
variable {σ:Sl} {T:Mem} {call:qX}
@[go_sem] theorem qJL:xf call [] st=some st:=(rfl)
@[go_sem] theorem qJK {i:AI} {is:List AI}:xf call (i::is) st=kQ (qm call st i) fun st=>xf call is st:=by
 simp only [xf];cases qm call st i<;>rfl
def gdK(b:Option V) (want:Bool) (x y:Option St):Option St:=
 match b with
 |some (.v (.bool b))=>if b=want then x else y
 |some (.v _)=>y
 |_=>none
@[congr] theorem qO9 {b b':Option V} {w:Bool} {x y:Option St} (h:b=b'):gdK b w x y=gdK b' w x y:=by rw [h]
@[go_sem] theorem qO8 {b w:Bool} {x y:Option St}:gdK (some (B b)) w x y=if b=w then x else y:=(rfl)
@[go_sem] theorem qPa {w:Bool} {x y:Option St}:gdK (some yB) w x y=y:=(rfl)
@[go_sem] theorem qOI {j:Nat} {w:Bool} {d:Nat} {i:AI}:qm call ⟨σ,T⟩ (.gd j w (some d) i)=gdK (qI σ j) w (qj call ⟨σ,T⟩ i) (some ⟨(d,yB)::σ,T⟩):=by
 simp only [qm,gdK]
 cases qI σ j with
 |none=>rfl
 |some x=>cases x<;>first|rfl|(rename_i v;cases v<;>rfl)
@[go_sem] theorem qOJ {j:Nat} {w:Bool} {i:AI}:qm call ⟨σ,T⟩ (.gd j w none i)=gdK (qI σ j) w (qj call ⟨σ,T⟩ i) (some ⟨σ,T⟩):=by
 simp only [qm,gdK]
 cases qI σ j with
 |none=>rfl
 |some x=>cases x<;>first|rfl|(rename_i v;cases v<;>rfl)
@[go_sem] theorem qOr {n:Nat}:ev σ (.t n)=qI σ n:=(rfl)
@[go_sem] theorem qOq {x:V}:ev σ (.c x)=some x:=(rfl)
@[go_sem] theorem qOm:evL σ []=some []:=(rfl)
@[go_sem] theorem qOl {x:AO} {xs:List AO}:evL σ (x::xs)=qt (ev σ x) fun y=>yt (evL σ xs) fun ys=>some (y::ys):=by
 simp only [evL];cases ev σ x<;>cases evL σ xs<;>rfl
@[go_sem] theorem qOn:evO σ none=some none:=(rfl)
@[go_sem] theorem qOo {x:AO}:evO σ (some x)=qt (ev σ x) fun y=>some (some y):=by
 simp only [evO];cases ev σ x<;>rfl
attribute [go_sem] qI qu qG qot qO qE xM QJ Jk qhx QG qcg xV
def pkS(o:Option V) (t:Nat) (r:Sl):Sl:=match o with|some x=>(t,x)::r|none=>r
@[congr] theorem qTv {o o':Option V} {t:Nat} {r:Sl} (h:o=o'):pkS o t r=pkS o' t r:=by rw [h]
@[go_sem] theorem qTx {x:V} {t:Nat} {r:Sl}:pkS (some x) t r=(t,x)::r:=(rfl)
@[go_sem] theorem qTw {t:Nat} {r:Sl}:pkS none t r=r:=(rfl)
@[go_sem] theorem qTs {σ:Sl}:zG σ []=[]:=(rfl)
@[go_sem] theorem qxT: ∀ (ls:List Nat),zG [] ls=[]
 |[]=>rfl
 |t::r=>by simp only [zG,qI,qxT r]
@[go_sem] theorem qTr {q:Nat × V} {σ:Sl} {t:Nat} {r:List Nat}:zG (q::σ) (t::r)=pkS (qI (q::σ) t) t (zG (q::σ) r):=by
 simp only [zG,pkS]
 cases qI (q::σ) t<;>rfl
def pkT(o:Option Ob) (k:Key) (a b:Mem):Mem:=match o with|some x=>(k,x)::a|none=>b
@[congr] theorem qTy {o o':Option Ob} {k:Key} {a b:Mem} (h:o=o'):pkT o k a b=pkT o' k a b:=by rw [h]
@[go_sem] theorem qTA {x:Ob} {k:Key} {a b:Mem}:pkT (some x) k a b=(k,x)::a:=(rfl)
@[go_sem] theorem qTz {k:Key} {a b:Mem}:pkT none k a b=b:=(rfl)
@[go_sem] theorem qTu {T:Mem}:y8 T []=[]:=by cases T<;>rfl
@[go_sem] theorem qxU: ∀ (ks:List Key),y8 [] ks=[]
 |[]=>rfl
 |k::r=>by simp only [y8,qu,qxU r]
@[go_sem] theorem qTt {q:Key × Ob} {T:Mem} {k:Key} {r:List Key}:y8 (q::T) (k::r)=pkT (qu (q::T) k) k (y8 (qG (q::T) k) r) (y8 (q::T) r):=by
 simp only [y8,pkT]
 cases qu (q::T) k<;>rfl
@[go_sem] theorem qTq {T:Mem}:xP T []=[]:=(rfl)
@[go_sem] theorem qxS: ∀ (ks:List Key),xP [] ks=[]
 |[]=>rfl
 |k::r=>by simp only [xP,qu,qxS r]
@[go_sem] theorem qTp {q:Key × Ob} {T:Mem} {k:Key} {r:List Key}:xP (q::T) (k::r)=pkT (qu (q::T) k) k (xP (q::T) r) (xP (q::T) r):=by
 simp only [xP,pkT]
 cases qu (q::T) k<;>rfl
def wT(d:Nat) (T:Mem):Mem:=QJ d (QG d (qcg (Jk d T) T))
@[go_sem] theorem qi4 {d:Nat}:zo d ⟨σ,T⟩=⟨xM d σ,wT d T⟩:=(rfl)
def kE {α:Type} (c:Bool) (x:Option α):Option α:=if c=true then x else none
@[congr] theorem qPb {α:Type} {b b':Bool} {x:Option α} (h:b=b'):kE b x=kE b' x:=by rw [h]
@[go_sem] theorem qPd {α:Type} {x:Option α}:kE true x=x:=(rfl)
@[go_sem] theorem qPc {α:Type} {x:Option α}:kE false x=none:=(rfl)
def zQ {α:Type} (c:Bool) (x y:α):α:=if c=true then x else y
@[congr] theorem qTm {α:Type} {b b':Bool} {x y:α} (h:b=b'):zQ b x y=zQ b' x y:=by rw [h]
@[go_sem] theorem qTo {α:Type} {x y:α}:zQ true x y=x:=(rfl)
@[go_sem] theorem qTn {α:Type} {x y:α}:zQ false x y=y:=(rfl)
section vals
variable {n:Int} {b:Bool} {l:List UInt8} {g:Nat}
attribute [go_sem] zf yk clB xJ qF yV zg qU qW qJ zt kG QB Zh qI
@[go_sem] theorem qLg {d:Nat} {x:V} {st:St}:ky (some d) x st=Ya d x st:=(rfl)
@[go_sem] theorem qLf {x:V} {st:St}:ky none x st=st:=(rfl)
@[go_sem] theorem qOx {x:V}:fzV true x=zg false x:=(rfl)
@[go_sem] theorem qOw {x:V}:fzV false x=x:=(rfl)
section
variable {cs xs ys:List V} {τ:Bool} {i o e:Nat} {x:V} {k:Key} {fn:Fn}
@[go_sem] theorem qLv:(V.a cs).cells=cs:=(rfl)
@[go_sem] theorem qLI:(V.p k i o).cells=[V.p k i o]:=(rfl)
@[go_sem] theorem qLK:(V.s k i o).cells=[V.s k i o]:=(rfl)
@[go_sem] theorem qLJ:(V.q τ xs i o).cells=[V.q τ xs i o]:=(rfl)
@[go_sem] theorem qLy:(V.i τ xs).cells=[V.i τ xs]:=(rfl)
@[go_sem] theorem qLG:(V.o e xs).cells=[V.o e xs]:=(rfl)
@[go_sem] theorem qLF:(V.n e).cells=[V.n e]:=(rfl)
@[go_sem] theorem qLw:(V.b x).cells=[V.b x]:=(rfl)
@[go_sem] theorem qLx:(V.f fn xs ys).cells=[V.f fn xs ys]:=(rfl)
@[go_sem] theorem qLL:(V.t xs).cells=[V.t xs]:=(rfl)
@[go_sem] theorem qPp:(V.a cs).isA=true:=(rfl)
@[go_sem] theorem qPq:(V.i τ xs).isA=false:=(rfl)
@[go_sem] theorem qPy:(V.o e xs).isA=false:=(rfl)
@[go_sem] theorem qPx:(V.n e).isA=false:=(rfl)
@[go_sem] theorem qPz:(V.s k i o).isA=false:=(rfl)
@[go_sem] theorem qM0:(V.a cs).dead=false:=(rfl)
@[go_sem] theorem qM6:(V.p k i o).dead=false:=(rfl)
@[go_sem] theorem qM8:(V.s k i o).dead=false:=(rfl)
@[go_sem] theorem qM7:(V.q τ xs i o).dead=false:=(rfl)
@[go_sem] theorem qM3:(V.i τ xs).dead=false:=(rfl)
@[go_sem] theorem qM5:(V.o e xs).dead=false:=(rfl)
@[go_sem] theorem qM4:(V.n e).dead=false:=(rfl)
@[go_sem] theorem qM1:(V.b x).dead=false:=(rfl)
@[go_sem] theorem qM2:(V.f fn xs ys).dead=false:=(rfl)
@[go_sem] theorem qL2:clE (V.a cs)=xJ cs:=(rfl)
@[go_sem] theorem qL5:clE (V.i τ xs)=true:=(rfl)
@[go_sem] theorem qL7:clE (V.o e xs)=true:=(rfl)
@[go_sem] theorem qL6:clE (V.n e)=true:=(rfl)
@[go_sem] theorem qL9:clE (V.q τ xs i o)=true:=(rfl)
@[go_sem] theorem qL3:clE (V.b x)=true:=(rfl)
@[go_sem] theorem qMa:clE (V.s k i o)=false:=(rfl)
@[go_sem] theorem qL8:clE (V.p k i o)=false:=(rfl)
@[go_sem] theorem qL4:clE (V.f fn xs ys)=(xJ xs&&xJ ys):=(rfl)
variable {d j:Nat}
@[go_sem] theorem qS3:zw d j (.o e xs)=(.s (d,j) 0 xs.length,j+1,[((d,j),e,xs)]):=(rfl)
@[go_sem] theorem qSZ:zw d j (.b x)=(.p (d,j) 0 0,j+1,[((d,j),x.cells.length,[x])]):=(rfl)
@[go_sem] theorem qS0:zw d j (.i τ xs)=(.i τ xs,j,[]):=(rfl)
@[go_sem] theorem qvV:zw d j (.q τ xs i o)=(.q τ xs i o,j,[]):=(rfl)
@[go_sem] theorem qS2:zw d j (.n e)=(.n e,j,[]):=(rfl)
@[go_sem] theorem qSV:zw d j (I n)=(I n,j,[]):=(rfl)
@[go_sem] theorem qST:zw d j (B b)=(B b,j,[]):=(rfl)
@[go_sem] theorem qSW:zw d j (S l)=(S l,j,[]):=(rfl)
@[go_sem] theorem qSY:zw d j (U8 n)=(U8 n,j,[]):=(rfl)
@[go_sem] theorem qSX:zw d j (U32 n)=(U32 n,j,[]):=(rfl)
@[go_sem] theorem qSU:zw d j (Fc g)=(Fc g,j,[]):=(rfl)
@[go_sem] theorem qSy:qQ d j (.a cs)=(.a (zt d j cs).1,(zt d j cs).2):=(rfl)
@[go_sem] theorem qSA:qQ d j (.f fn xs ys)=(.f fn (zt d j xs).1 (zt d (zt d j xs).2.1 ys).1,(zt d (zt d j xs).2.1 ys).2.1,(zt d j xs).2.2++(zt d (zt d j xs).2.1 ys).2.2):=(rfl)
@[go_sem] theorem qSD:qQ d j (.o e xs)=(.s (d,j) 0 xs.length,j+1,[((d,j),e,xs)]):=(rfl)
@[go_sem] theorem qSz:qQ d j (.b x)=(.p (d,j) 0 0,j+1,[((d,j),x.cells.length,[x])]):=(rfl)
@[go_sem] theorem qSB:qQ d j (.i τ xs)=(.i τ xs,j,[]):=(rfl)
@[go_sem] theorem qSE:qQ d j (.q τ xs i o)=(.q τ xs i o,j,[]):=(rfl)
@[go_sem] theorem qSC:qQ d j (.n e)=(.n e,j,[]):=(rfl)
@[go_sem] theorem qSu:qQ d j (I n)=(I n,j,[]):=(rfl)
@[go_sem] theorem qSt:qQ d j (B b)=(B b,j,[]):=(rfl)
@[go_sem] theorem qSv:qQ d j (S l)=(S l,j,[]):=(rfl)
@[go_sem] theorem qSx:qQ d j (U8 n)=(U8 n,j,[]):=(rfl)
@[go_sem] theorem qSw:qQ d j (U32 n)=(U32 n,j,[]):=(rfl)
@[go_sem] theorem qSS:yi d (.t xs)=(.t (kG d 0 xs).1,(kG d 0 xs).2.2):=(rfl)
@[go_sem] theorem qSL:yi d (.a cs)=(.a (zt d 0 cs).1,(zt d 0 cs).2.2):=(rfl)
@[go_sem] theorem qSN:yi d (.f fn xs ys)=((qQ d 0 (.f fn xs ys)).1,(qQ d 0 (.f fn xs ys)).2.2):=(rfl)
@[go_sem] theorem qSQ:yi d (.o e xs)=(.s (d,0) 0 xs.length,[((d,0),e,xs)]):=(rfl)
@[go_sem] theorem qSM:yi d (.b x)=(.p (d,0) 0 0,[((d,0),x.cells.length,[x])]):=(rfl)
@[go_sem] theorem qSO:yi d (.i τ xs)=(.i τ xs,[]):=(rfl)
@[go_sem] theorem qSR:yi d (.q τ xs i o)=(.q τ xs i o,[]):=(rfl)
@[go_sem] theorem qSP:yi d (.n e)=(.n e,[]):=(rfl)
@[go_sem] theorem qSH:yi d (I n)=(I n,[]):=(rfl)
@[go_sem] theorem qSF:yi d (B b)=(B b,[]):=(rfl)
@[go_sem] theorem qSI:yi d (S l)=(S l,[]):=(rfl)
@[go_sem] theorem qSK:yi d (U8 n)=(U8 n,[]):=(rfl)
@[go_sem] theorem qSJ:yi d (U32 n)=(U32 n,[]):=(rfl)
@[go_sem] theorem qSG:yi d (Fc g)=(Fc g,[]):=(rfl)
end
@[go_sem] theorem qPQ {d:Nat}:qO d (I n)=I n:=(rfl)
@[go_sem] theorem qPO {d:Nat}:qO d (B b)=B b:=(rfl)
@[go_sem] theorem qPR {d:Nat}:qO d (S l)=S l:=(rfl)
@[go_sem] theorem qPT {d:Nat}:qO d (U8 n)=U8 n:=(rfl)
@[go_sem] theorem qPS {d:Nat}:qO d (U32 n)=U32 n:=(rfl)
@[go_sem] theorem qPP {d:Nat}:qO d (Fc g)=Fc g:=(rfl)
@[go_sem] theorem qPV {d:Nat}:qO d yB=yB:=(rfl)
@[go_sem] theorem qLr:(I n).cells=[I n]:=(rfl)
@[go_sem] theorem qLp:(B b).cells=[B b]:=(rfl)
@[go_sem] theorem qLs:(S l).cells=[S l]:=(rfl)
@[go_sem] theorem qLu:(U8 n).cells=[U8 n]:=(rfl)
@[go_sem] theorem qLt:(U32 n).cells=[U32 n]:=(rfl)
@[go_sem] theorem qLq:(Fc g).cells=[Fc g]:=(rfl)
@[go_sem] theorem qPn:(I n).isA=false:=(rfl)
@[go_sem] theorem qPm:(B b).isA=false:=(rfl)
@[go_sem] theorem qPo:(S l).isA=false:=(rfl)
@[go_sem] theorem qMX:(I n).dead=false:=(rfl)
@[go_sem] theorem qMW:(B b).dead=false:=(rfl)
@[go_sem] theorem qMY:(S l).dead=false:=(rfl)
@[go_sem] theorem qMZ:(U8 n).dead=false:=(rfl)
@[go_sem] theorem qSd:(I n).one=true:=(rfl)
@[go_sem] theorem qSb:(B b).one=true:=(rfl)
@[go_sem] theorem qSe:(S l).one=true:=(rfl)
@[go_sem] theorem qSg:(U8 n).one=true:=(rfl)
@[go_sem] theorem qSf:(U32 n).one=true:=(rfl)
@[go_sem] theorem qSc:(Fc g).one=true:=(rfl)
@[go_sem] theorem qSn {k:Key} {i o:Nat}:(V.p k i o).one=true:=(rfl)
@[go_sem] theorem qSp {k:Key} {i o:Nat}:(V.s k i o).one=true:=(rfl)
@[go_sem] theorem qSo {τ:Bool} {xs:List V} {i o:Nat}:(V.q τ xs i o).one=true:=(rfl)
@[go_sem] theorem qSj {τ:Bool} {xs:List V}:(V.i τ xs).one=true:=(rfl)
@[go_sem] theorem qSm {e:Nat} {xs:List V}:(V.o e xs).one=true:=(rfl)
@[go_sem] theorem qSl {e:Nat}:(V.n e).one=true:=(rfl)
@[go_sem] theorem qSh {x:V}:(V.b x).one=true:=(rfl)
@[go_sem] theorem qSi {fn:Fn} {xs ys:List V}:(V.f fn xs ys).one=true:=(rfl)
@[go_sem] theorem qV3:zf (I n)=true:=(rfl)
@[go_sem] theorem qV1:zf (B b)=true:=(rfl)
@[go_sem] theorem qV4:zf (S l)=true:=(rfl)
@[go_sem] theorem qV6:zf (U8 n)=true:=(rfl)
@[go_sem] theorem qV5:zf (U32 n)=true:=(rfl)
@[go_sem] theorem qV2:zf (Fc g)=true:=(rfl)
@[go_sem] theorem qLU:clB (I n)=true:=(rfl)
@[go_sem] theorem qLS:clB (B b)=true:=(rfl)
@[go_sem] theorem qLV:clB (S l)=true:=(rfl)
@[go_sem] theorem qLX:clB (U8 n)=true:=(rfl)
@[go_sem] theorem qLW:clB (U32 n)=true:=(rfl)
@[go_sem] theorem qLT:clB (Fc g)=true:=(rfl)
@[go_sem] theorem qLZ:clE (I n)=true:=(rfl)
@[go_sem] theorem qLY:clE (B b)=true:=(rfl)
@[go_sem] theorem qL0:clE (S l)=true:=(rfl)
@[go_sem] theorem qL1:clE (U8 n)=true:=(rfl)
@[go_sem] theorem qqx {τ:Bool}:zg τ (I n)=I n:=(rfl)
@[go_sem] theorem qMN {τ:Bool}:zg τ (B b)=B b:=(rfl)
@[go_sem] theorem qqy {τ:Bool}:zg τ (S l)=S l:=(rfl)
@[go_sem] theorem qMR {τ:Bool}:zg τ (U8 n)=U8 n:=(rfl)
@[go_sem] theorem qMQ {τ:Bool}:zg τ (U32 n)=U32 n:=(rfl)
@[go_sem] theorem qMO {τ:Bool}:zg τ (Fc g)=Fc g:=(rfl)
@[go_sem] theorem qhN:qW (I n)=true:=(rfl)
@[go_sem] theorem qR1:qW (B b)=true:=(rfl)
@[go_sem] theorem qhO:qW (S l)=true:=(rfl)
@[go_sem] theorem qR5:qW (U8 n)=true:=(rfl)
@[go_sem] theorem qR4:qW (U32 n)=true:=(rfl)
@[go_sem] theorem qR2:qW (Fc g)=true:=(rfl)
@[go_sem] theorem qMh {m:Nat} {T:Mem}:qA (m+1) T (I n)=(I n,T):=(rfl)
@[go_sem] theorem qMf {m:Nat} {T:Mem}:qA (m+1) T (B b)=(B b,T):=(rfl)
@[go_sem] theorem qMi {m:Nat} {T:Mem}:qA (m+1) T (S l)=(S l,T):=(rfl)
@[go_sem] theorem qMk {m:Nat} {T:Mem}:qA (m+1) T (U8 n)=(U8 n,T):=(rfl)
@[go_sem] theorem qMj {m:Nat} {T:Mem}:qA (m+1) T (U32 n)=(U32 n,T):=(rfl)
@[go_sem] theorem qMg {m:Nat} {T:Mem}:qA (m+2) T (Fc g)=(Fc g,T):=(rfl)
@[go_sem] theorem qMo {m:Nat} {T:Mem} {τ:Bool} {xs:List V}:qA (m+1) T (.i τ xs)=(.i τ xs,T):=(rfl)
@[go_sem] theorem qMr {m:Nat} {T:Mem} {e:Nat} {xs:List V}:qA (m+1) T (.o e xs)=(.o e xs,T):=(rfl)
@[go_sem] theorem qkY {m:Nat} {T:Mem} {τ:Bool} {xs:List V} {i o:Nat}:qA (m+1) T (.q τ xs i o)=(.q τ xs i o,T):=(rfl)
@[go_sem] theorem qMm {m:Nat} {T:Mem} {x:V}:qA (m+1) T (.b x)=(.b x,T):=(rfl)
@[go_sem] theorem qMq {m:Nat} {T:Mem} {e:Nat}:qA (m+1) T (.n e)=(.o e [],T):=(rfl)
@[go_sem] theorem qMl {m:Nat} {T:Mem} {cs:List V}:qA (m+1) T (.a cs)=(.a (qB (qA m) T cs).1,(qB (qA m) T cs).2):=(rfl)
@[go_sem] theorem qMu {m:Nat} {T:Mem} {cs:List V}:qA (m+1) T (.t cs)=(.t (qB (qA m) T cs).1,(qB (qA m) T cs).2):=(rfl)
@[go_sem] theorem qMn {m:Nat} {T:Mem} {fn:Fn} {xs ys:List V}:qA (m+1) T (.f fn xs ys)=(.f fn (qB (qA m) T xs).1 (qB (qA m) (qB (qA m) T xs).2 ys).1,(qB (qA m) (qB (qA m) T xs).2 ys).2):=(rfl)
def esV(m:Nat) (T:Mem) (xs:List V):List V × Mem:=zQ (qF xs) (xs,T) (qB (qA m) T xs)
def sK(m:Nat) (T':Mem) (lo len:Nat) (ob:Option Ob) (T:Mem):V × Mem:=
 match ob with
 |none=>(.d,T)
 |some ob=>if lo+len≤ob.2.length then
  (if lo=0 then (.o ob.1 (((esV m T' ob.2).1.drop lo).take len),(esV m T' ob.2).2)
  else (.o ob.1 (esV m T' ((ob.2.drop lo).take len)).1,(esV m T' ((ob.2.drop lo).take len)).2))else (.d,T)
@[go_sem] theorem qMt {m:Nat} {T:Mem} {k:Key} {lo len:Nat}:qA (m+1) T (.s k lo len)=sK m (qG T k) lo len (qu T k) T:=by
 simp only [qA,sK,esV,zQ];cases qu T k<;>rfl
@[go_sem] theorem qUU {m:Nat} {T T':Mem} {lo len e:Nat} {xs:List V}:sK m T' lo len (some (e,xs)) T=if lo+len≤xs.length then (if lo=0 then (.o e (((esV m T' xs).1.drop lo).take len),(esV m T' xs).2)else (.o e (esV m T' ((xs.drop lo).take len)).1,(esV m T' ((xs.drop lo).take len)).2))else (.d,T):=(rfl)
@[go_sem] theorem qUT {m:Nat} {T T':Mem} {lo len:Nat}:sK m T' lo len none T=(.d,T):=(rfl)
@[go_sem] theorem qOk {m:Nat} {T:Mem} {xs:List V}:esV m T xs=zQ (qF xs) (xs,T) (qB (qA m) T xs):=(rfl)
def pK(m:Nat) (T':Mem) (ob:Option Ob) (T:Mem):V × Mem:=
 match ob with
 |some (_,[x])=>(.b ((esV m T' [x]).1.headD .d),(esV m T' [x]).2)
 |_=>(.d,T)
@[go_sem] theorem qMs {m:Nat} {T:Mem} {k:Key}:qA (m+1) T (.p k 0 0)=pK m (qG T k) (qu T k) T:=by
 simp only [qA,pK,esV,zQ]
 cases qu T k with
 |none=>rfl
 |some ob=>obtain ⟨e,xs⟩:=ob;rcases xs with _|⟨x,_|⟨y,r⟩⟩<;>rfl
@[go_sem] theorem qTj {m:Nat} {T T':Mem} {e:Nat} {x:V}:pK m T' (some (e,[x])) T=(.b ((esV m T' [x]).1.headD .d),(esV m T' [x]).2):=(rfl)
@[go_sem] theorem qTi {m:Nat} {T T':Mem}:pK m T' none T=(.d,T):=(rfl)
attribute [go_sem] qB List.headD kK wT qfl
def qUM(T:Mem) (k:Key) (ob:Option Ob):Mem:=
 match ob with
 |none=>T
 |some ob=>zQ (qF ob.2) (kX k ob (qG T k)) (qG T k)
end vals
@[go_sem] theorem qOX {d:Nat} {x:AO}:qm call ⟨σ,T⟩ (.mv d x)=qt (ev σ x) fun y=>some ⟨(d,y)::σ,T⟩:=by
 simp only [qm,qj];cases ev σ x<;>rfl
def qck {α:Type} (c:Option V) (x y:α) (z:α):α:=
 match c with
 |some (.v (.bool true))=>x
 |some (.v (.bool false))=>y
 |_=>z
@[congr] theorem qUY {α:Type} {c c':Option V} {x y z:α} (h:c=c'):qck c x y z=qck c' x y z:=by rw [h]
@[go_sem] theorem qUX {α:Type} {b:Bool} {x y z:α}:qck (some (B b)) x y z=if b=true then x else y:=by cases b<;>rfl
end
end Go.Vm
namespace Go.Vm
section
variable {prog:Nat→Option AE} {st:St} {σ:Sl} {T:Mem} {call:qX}
@[go_sem] theorem qJo {d:Nat} {x:AO}:qj call ⟨σ,T⟩ (.mv d x)=qm call ⟨σ,T⟩ (.mv d x):=(rfl)
@[go_sem] theorem qJs {d:Nat} {x:AO} {y:AO} {z:AO}:qj call ⟨σ,T⟩ (.pick d x y z)=qm call ⟨σ,T⟩ (.pick d x y z):=(rfl)
@[go_sem] theorem qJq {d:Nat} {x:AO}:qj call ⟨σ,T⟩ (.new d x)=qm call ⟨σ,T⟩ (.new d x):=(rfl)
@[go_sem] theorem qI3 {d:Nat} {v:V} {bs:List (Nat × Nat × AO)}:qj call ⟨σ,T⟩ (.build d v bs)=qm call ⟨σ,T⟩ (.build d v bs):=(rfl)
@[go_sem] theorem qJm {d:Nat} {e:Nat} {xs:List AO}:qj call ⟨σ,T⟩ (.mks d e xs)=qm call ⟨σ,T⟩ (.mks d e xs):=(rfl)
@[go_sem] theorem qJk {d:Nat} {e:Nat} {v:V} {n:Nat} {x:AO} {y:AO}:qj call ⟨σ,T⟩ (.mk d e v n x y)=qm call ⟨σ,T⟩ (.mk d e v n x y):=(rfl)
@[go_sem] theorem qJe {d:Nat} {p:Bool} {n:Nat} {x:AO}:qj call ⟨σ,T⟩ (.ld d p n x)=qm call ⟨σ,T⟩ (.ld d p n x):=(rfl)
@[go_sem] theorem qJf {d:Nat} {p:Bool} {n:Nat} {x:AO}:qj call ⟨σ,T⟩ (.ldq d p n x)=qm call ⟨σ,T⟩ (.ldq d p n x):=(rfl)
@[go_sem] theorem qJr {d:Nat} {x:AO}:qj call ⟨σ,T⟩ (.nilc d x)=qm call ⟨σ,T⟩ (.nilc d x):=(rfl)
@[go_sem] theorem qI2 {d:Nat} {op:BinOp} {x:AO} {y:AO}:qj call ⟨σ,T⟩ (.bin d op x y)=qm call ⟨σ,T⟩ (.bin d op x y):=(rfl)
@[go_sem] theorem qI6 {d:Nat} {n:Nat} {p:Bool} {x:AO} {y:AO}:qj call ⟨σ,T⟩ (.eqs d n p x y)=qm call ⟨σ,T⟩ (.eqs d n p x y):=(rfl)
@[go_sem] theorem qJy {d:Nat} {uo:UnOp} {x:AO}:qj call ⟨σ,T⟩ (.un d uo x)=qm call ⟨σ,T⟩ (.un d uo x):=(rfl)
@[go_sem] theorem qJt {d:Nat} {e:Nat} {x:AO} {ox:Option AO} {oy:Option AO}:qj call ⟨σ,T⟩ (.sl d e x ox oy)=qm call ⟨σ,T⟩ (.sl d e x ox oy):=(rfl)
@[go_sem] theorem qJv {d:Nat} {x:AO} {ox:Option AO} {oy:Option AO}:qj call ⟨σ,T⟩ (.ssl d x ox oy)=qm call ⟨σ,T⟩ (.ssl d x ox oy):=(rfl)
@[go_sem] theorem qJu {d:Nat} {x:AO}:qj call ⟨σ,T⟩ (.slen d x)=qm call ⟨σ,T⟩ (.slen d x):=(rfl)
@[go_sem] theorem qI8 {d:Nat} {x:AO} {n:Nat}:qj call ⟨σ,T⟩ (.fa d x n)=qm call ⟨σ,T⟩ (.fa d x n):=(rfl)
@[go_sem] theorem qI9 {d:Nat} {p:Bool} {n:Nat} {x:AO} {m:Nat}:qj call ⟨σ,T⟩ (.fld d p n x m)=qm call ⟨σ,T⟩ (.fld d p n x m):=(rfl)
@[go_sem] theorem qJb {d:Nat} {e:Nat} {x:AO} {y:AO}:qj call ⟨σ,T⟩ (.ia d e x y)=qm call ⟨σ,T⟩ (.ia d e x y):=(rfl)
@[go_sem] theorem qJd {d:Nat} {x:AO} {y:AO}:qj call ⟨σ,T⟩ (.ix d x y)=qm call ⟨σ,T⟩ (.ix d x y):=(rfl)
@[go_sem] theorem qI7 {d:Nat} {x:AO} {n:Nat}:qj call ⟨σ,T⟩ (.ext d x n)=qm call ⟨σ,T⟩ (.ext d x n):=(rfl)
@[go_sem] theorem qJa {d:Nat} {fn:Fn} {xs:List AO} {ys:List AO}:qj call ⟨σ,T⟩ (.fun d fn xs ys)=qm call ⟨σ,T⟩ (.fun d fn xs ys):=(rfl)
@[go_sem] theorem qI1 {d:Nat} {e:Nat} {n:Nat} {x:AO} {y:AO}:qj call ⟨σ,T⟩ (.app d e n x y)=qm call ⟨σ,T⟩ (.app d e n x y):=(rfl)
@[go_sem] theorem qJg {d:Nat} {x:AO}:qj call ⟨σ,T⟩ (.len d x)=qm call ⟨σ,T⟩ (.len d x):=(rfl)
@[go_sem] theorem qJp {d:Nat} {p:Bool} {xs:List AO}:qj call ⟨σ,T⟩ (.mx d p xs)=qm call ⟨σ,T⟩ (.mx d p xs):=(rfl)
@[go_sem] theorem qJc {d:Nat} {ik:IntKind} {x:AO}:qj call ⟨σ,T⟩ (.int d ik x)=qm call ⟨σ,T⟩ (.int d ik x):=(rfl)
@[go_sem] theorem qJx {d:Nat} {x:AO}:qj call ⟨σ,T⟩ (.str d x)=qm call ⟨σ,T⟩ (.str d x):=(rfl)
@[go_sem] theorem qI4 {d:Nat} {x:AO}:qj call ⟨σ,T⟩ (.byt d x)=qm call ⟨σ,T⟩ (.byt d x):=(rfl)
@[go_sem] theorem qJw {n:Nat} {x:AO} {y:AO}:qj call ⟨σ,T⟩ (.st n x y)=qm call ⟨σ,T⟩ (.st n x y):=(rfl)
@[go_sem] theorem qI5 {o:Option Nat} {x:AO} {xs:List AO} {md:Md}:qj call ⟨σ,T⟩ (.call o x xs md)=qm call ⟨σ,T⟩ (.call o x xs md):=(rfl)
@[go_sem] theorem qO1 {d:Nat} {c x y:AO}:qm call ⟨σ,T⟩ (.pick d c x y)=qck (ev σ c) (qt (ev σ x) fun y=>some ⟨(d,y)::σ,T⟩) (qt (ev σ y) fun y=>some ⟨(d,y)::σ,T⟩) none:=by
 simp only [qm,qj,qck]
 split
 ·rename_i h;rw [h];cases ev σ x<;>rfl
 ·rename_i h;rw [h];cases ev σ y<;>rfl
 ·rename_i h1 h2;split
  ·rename_i h;exact absurd h h1
  ·rename_i h;exact absurd h h2
  ·rfl
@[go_sem] theorem qOZ {d:Nat} {x:AO}:qm call ⟨σ,T⟩ (.new d x)=qt (ev σ x) fun y=>kE (yV y.cells) (some ⟨(d,.p (d,0) 0 0)::xM d σ,((d,0),y.cells.length,[qO d y])::wT d T⟩):=by
 simp only [qm,qj];cases ev σ x<;>rfl
def qqf:List V→List (Nat × Nat × V)→Option (List V)
 |z,[]=>some z
 |z,(off,size,y)::r=>kE (!y.dead&&decide (y.cells.length=size∧off+size≤z.length)) (qqf (z.take off++y.cells++z.drop (off+size)) r)
@[go_sem] theorem qLi {z:List V}:jQ σ z []=some z:=(rfl)
@[go_sem] theorem qLh {z:List V} {off size:Nat} {x:AO} {r:List (Nat × Nat × AO)}:jQ σ z ((off,size,x)::r)=
 qt (ev σ x) fun y=>kE (!y.dead&&decide (y.cells.length=size)&&decide (off+size≤z.length)) (jQ σ (z.take off++y.cells++z.drop (off+size)) r):=by
 simp only [jQ]
 cases ev σ x with
 |none=>rfl
 |some y=>
  simp only [qt,kE]
  congr 1
  simp [and_assoc]
@[go_sem] theorem qOA {d:Nat} {z:V} {parts:List (Nat × Nat × AO)}:qm call ⟨σ,T⟩ (.build d z parts)=yt (jQ σ z.cells parts) fun cs=>some ⟨(d,.a cs)::σ,T⟩:=by
 simp only [qm,qj];cases jQ σ z.cells parts<;>rfl
def kO(e:Nat):List V→Bool
 |[]=>true
 |y::ys=>yV y.cells&&(y.cells.length==e)&&kO e ys
theorem qgS(e:Nat): ∀ (ys:List V),kO e ys=ys.all fun y=>yV y.cells&&y.cells.length==e
 |[]=>rfl
 |y::ys=>by simp only [kO,List.all_cons,qgS e ys]
attribute [go_sem] kO
@[go_sem] theorem qOV {d e:Nat} {parts:List AO}:qm call ⟨σ,T⟩ (.mks d e parts)=yt (evL σ parts) fun ys=>
 kE (kO e ys) (some ⟨(d,.s (d,0) 0 ys.length)::xM d σ,((d,0),e,qE d ys)::wT d T⟩):=by
 simp only [qm,qj,qgS];cases evL σ parts<;>rfl
def mkK(e bytes:Nat) (z l c:V) (d:Nat) (σ:Sl) (T:Mem):Option St:=
 match l,c with
 | .v (.int _ l),.v (.int _ c)=>
  if 0≤l∧l=c∧l*bytes≤lim∧l≤lim∧z.cells.length=e∧yV z.cells∧clE z then
   some {σ:=(d,.s (d,0) 0 l.toNat)::(zo d ⟨σ,T⟩).σ,T:=((d,0),e,List.replicate l.toNat z)::(zo d ⟨σ,T⟩).T}
  else none
 |_,_=>none
@[go_sem] theorem qOT {d e bytes:Nat} {z:V} {l c:AO}:qm call ⟨σ,T⟩ (.mk d e z bytes l c)=qt (ev σ l) fun l=>qt (ev σ c) fun c=>mkK e bytes z l c d σ T:=by
 simp only [qm,qj,mkK]
 cases ev σ l with
 |none=>rfl
 |some l=>cases ev σ c with
  |none=>cases l<;>first|rfl|(rename_i v;cases v<;>rfl)
  |some c=>cases l<;>first|rfl|(rename_i v;cases v<;>first|rfl|(cases c<;>first|rfl|(rename_i v;cases v<;>rfl)))
theorem qvC {e bytes:Nat} {z:V} {n d:Nat} (h1:n*bytes≤lim) (h2:n≤lim) (hz:z.cells.length=e) (ho:yV z.cells=true) (hc:clE z=true):
 mkK e bytes z (I n) (I n) d σ T=some ⟨(d,.s (d,0) 0 n)::xM d σ,((d,0),e,List.replicate n z)::wT d T⟩:=by
 simp only [mkK,I]
 rw [if_pos ⟨by omega,trivial,by exact_mod_cast h1,by exact_mod_cast h2,hz,ho,hc⟩]
 simp [qi4]
@[go_sem] theorem qON {d size:Nat} {agg:Bool} {a:AO}:qm call ⟨σ,T⟩ (.ld d agg size a)=qt (ev σ a) fun p=>qt (xO T agg size p) fun y=>
 zQ (zf y) (some ⟨(d,y)::σ,T⟩) (qt (xO (wT d T) agg size p) fun y'=>Zi (ZC (wT d T) p (qQ d 0 y').1) fun T'=>some ⟨(d,(qQ d 0 y').1)::xM d σ,(qQ d 0 y').2.2++T'⟩):=by
 simp only [qm,qj]
 cases ev σ a with
 |none=>rfl
 |some p=>
  simp only [qt]
  cases xO T agg size p with
  |none=>rfl
  |some y=>
   simp only [zQ]
   cases h:zf y
   ·simp only [Bool.not_false,Bool.false_eq_true,if_true,if_false,qi4]
    cases xO (wT d T) agg size p with
    |none=>rfl
    |some y'=>
     simp only
     cases ZC (wT d T) p (qQ d 0 y').1<;>rfl
   ·simp [St.put]
@[go_sem] theorem qOO {d size:Nat} {agg:Bool} {a:AO}:qm call ⟨σ,T⟩ (.ldq d agg size a)=qt (ev σ a) fun p=>qt (xO T agg size p) fun y=>kE (zf y) (some ⟨(d,y)::σ,T⟩):=by
 simp only [qm,qj]
 cases ev σ a with
 |none=>rfl
 |some p=>simp only [qt];cases xO T agg size p<;>rfl
@[go_sem] theorem qO5 {size:Nat} {a x:AO}:qm call ⟨σ,T⟩ (.st size a x)=qt (ev σ a) fun p=>qt (ev σ x) fun y=>
 kE (decide (y.cells.length=size)&&yV y.cells) (Zi (ZC T p y) fun T'=>some ⟨σ,T'⟩):=by
 simp only [qm,qj]
 cases ev σ a with
 |none=>rfl
 |some p=>cases ev σ x with
  |none=>rfl
  |some y=>
   simp only [qt,kE,Bool.and_eq_true,decide_eq_true_eq]
   congr 1
   cases ZC T p y<;>rfl
def qbW(d:Nat) (σ:Sl) (T:Mem):V→Option St
 | .p k idx off=>some ⟨(d,.p k idx off)::σ,T⟩
 | .q τ xs idx off=>some ⟨(d,.q τ xs idx off)::σ,T⟩
 | .f (.func g) first caps=>some ⟨(d,.f (.func g) first caps)::σ,T⟩
 |_=>none
@[go_sem] theorem qQQ {d:Nat} {k:Key} {i o:Nat}:qbW d σ T (.p k i o)=some ⟨(d,.p k i o)::σ,T⟩:=(rfl)
@[go_sem] theorem qQR {d:Nat} {τ:Bool} {xs:List V} {i o:Nat}:qbW d σ T (.q τ xs i o)=some ⟨(d,.q τ xs i o)::σ,T⟩:=(rfl)
@[go_sem] theorem qQP {d g:Nat} {xs ys:List V}:qbW d σ T (.f (.func g) xs ys)=some ⟨(d,.f (.func g) xs ys)::σ,T⟩:=(rfl)
@[go_sem] theorem qQO {d g:Nat}:qbW d σ T (Fc g)=some ⟨(d,Fc g)::σ,T⟩:=(rfl)
@[go_sem] theorem qO0 {d:Nat} {x:AO}:qm call ⟨σ,T⟩ (.nilc d x)=qt (ev σ x) fun y=>qbW d σ T y:=by
 simp only [qm,qj]
 cases ev σ x with
 |none=>rfl
 |some y=>cases y<;>first|rfl|(rename_i f _ _;cases f<;>rfl)
@[go_sem] theorem qOz {d:Nat} {op:BinOp} {x y:AO}:qm call ⟨σ,T⟩ (.bin d op x y)=qt (ev σ x) fun x=>qt (ev σ y) fun y=>qt (qo op x y) fun z=>some ⟨(d,z)::σ,T⟩:=by
 simp only [qm,qj]
 cases ev σ x with
 |none=>rfl
 |some x=>cases ev σ y with
  |none=>rfl
  |some y=>simp only [qt];cases qo op x y<;>rfl
def eqB(k:Nat) (x y:V):Option V:=(eqV k x y).map B
@[go_sem] theorem qOD {d k:Nat} {neg:Bool} {x y:AO}:qm call ⟨σ,T⟩ (.eqs d k neg x y)=qt (ev σ x) fun x=>qt (ev σ y) fun y=>qt ((eqV k x y).map fun r=>B (r != neg)) fun z=>some ⟨(d,z)::σ,T⟩:=by
 simp only [qm,qj]
 cases ev σ x with
 |none=>rfl
 |some x=>cases ev σ y with
  |none=>rfl
  |some y=>simp only [qt];cases eqV k x y<;>rfl
def unV(op:UnOp):V→Option V
 | .v x=>(Op.unary op x).val?.map .v
 |_=>none
@[go_sem] theorem qO7 {d:Nat} {op:UnOp} {x:AO}:qm call ⟨σ,T⟩ (.un d op x)=qt (ev σ x) fun x=>qt (unV op x) fun z=>some ⟨(d,z)::σ,T⟩:=by
 simp only [qm,qj]
 cases ev σ x with
 |none=>rfl
 |some x=>cases x<;>first|rfl|(simp only [qt,unV,Option.map_map];rename_i v;cases (Op.unary op v).val?<;>rfl)
@[go_sem] theorem qVe {b:Bool}:unV .not (B b)=some (B (!b)):=(rfl)
@[go_sem] theorem qVd {n:Int}:unV .neg (I n)=some (I (w64 (0 - n))):=(rfl)
def Zj {α:Type} (r:Option (Option V)) (k:Option V→Option α):Option α:=
 match r with
 |some y=>k y
 |none=>none
@[congr] theorem qKC {α:Type} {r r':Option (Option V)} {k:Option V→Option α} (h:r=r'):Zj r k=Zj r' k:=by rw [h]
@[go_sem] theorem qKD {α:Type} {x:Option V} {k:Option V→Option α}:Zj (some x) k=k x:=(rfl)
@[go_sem] theorem qOp {x:AO}:evO σ (some x)=qt (ev σ x) fun y=>some (some y):=by
 simp only [evO];cases ev σ x<;>rfl
@[go_sem] theorem qO2 {d e:Nat} {x:AO} {lo hi:Option AO}:qm call ⟨σ,T⟩ (.sl d e x lo hi)=qt (ev σ x) fun x=>Zj (evO σ lo) fun lo=>Zj (evO σ hi) fun hi=>qt (qfv T e x lo hi) fun z=>some ⟨(d,z)::σ,T⟩:=by
 simp only [qm,qj]
 cases ev σ x with
 |none=>rfl
 |some x=>cases evO σ lo with
  |none=>rfl
  |some lo=>cases evO σ hi with
   |none=>rfl
   |some hi=>simp only [qt,Zj];cases qfv T e x lo hi<;>rfl
def XF(x:V) (lo hi:Option V):Option V:=
 match x with
 | .v (.string s)=>match x5 0 lo,x5 s.size hi with
  |some l,some h=>if l≤h∧h≤s.size then some (.v (.string (s.extract l h)))else none
  |_,_=>none
 |_=>none
@[go_sem] theorem qO4 {d:Nat} {x:AO} {lo hi:Option AO}:qm call ⟨σ,T⟩ (.ssl d x lo hi)=qt (ev σ x) fun x=>Zj (evO σ lo) fun lo=>Zj (evO σ hi) fun hi=>qt (XF x lo hi) fun z=>some ⟨(d,z)::σ,T⟩:=by
 simp only [qm,qj]
 cases ev σ x with
 |none=>rfl
 |some x=>cases evO σ lo with
  |none=>cases x<;>first|rfl|(rename_i v;cases v<;>rfl)
  |some lo=>cases evO σ hi with
   |none=>cases x<;>first|rfl|(rename_i v;cases v<;>rfl)
   |some hi=>
    simp only [qt,Zj,XF]
    cases x<;>first|rfl|(rename_i v;cases v<;>first|rfl|skip)
    rename_i s
    simp only
    cases x5 0 lo with
    |none=>rfl
    |some l=>cases x5 s.size hi with
     |none=>rfl
     |some h=>simp only;split<;>rfl
def Z9(d:Nat):Option V→Option Int
 |none=>some d
 |some (.v (.int _ i))=>some i
 |_=>none
@[go_sem] theorem qKV {d:Nat}:Z9 d none=some d:=(rfl)
@[go_sem] theorem qKU {d:Nat} {i:Int}:Z9 d (some (I i))=some i:=(rfl)
theorem qz0 {l:List UInt8} {lo hi:Option V} {a b:Int} (h1:Z9 0 lo=some a) (h2:Z9 l.length hi=some b) (h3:0≤a) (h4:a≤b) (h5:b≤l.length):
 XF (S l) lo hi=some (S ((l.take b.toNat).drop a.toNat)):=by
 have e1:x5 0 lo=some a.toNat:=by
  unfold x5;unfold Z9 at h1;split at h1
  ·simp only [Option.some.injEq]at h1;subst h1;simp
  ·simp only [Option.some.injEq]at h1;subst h1;simp [h3]
  ·cases h1
 have e2:x5 l.length hi=some b.toNat:=by
  unfold x5;unfold Z9 at h2;split at h2
  ·simp only [Option.some.injEq]at h2;subst h2;simp
  ·simp only [Option.some.injEq]at h2;subst h2;show (if _ then _ else _)=_;rw [if_pos (by omega)]
  ·cases h2
 have hs:(ByteArray.mk l.toArray).size=l.length:=by simp [ByteArray.size]
 simp only [XF,S,hs,e1,e2]
 rw [if_pos ⟨by omega,by omega⟩]
 congr 3
 apply ByteArray.ext
 apply Array.ext'
 simp only [ByteArray.data_extract,List.extract_toArray,List.toList_toArray,List.extract_eq_take_drop]
 rw [List.drop_take]
def qiF:V→Option V
 | .v (.string s)=>some (.v (.int .i64 s.size))
 |_=>none
@[go_sem] theorem qO3 {d:Nat} {x:AO}:qm call ⟨σ,T⟩ (.slen d x)=qt (ev σ x) fun x=>qt (qiF x) fun z=>some ⟨(d,z)::σ,T⟩:=by
 simp only [qm,qj]
 cases ev σ x with
 |none=>rfl
 |some x=>cases x<;>first|rfl|(rename_i v;cases v<;>rfl)
@[go_sem] theorem qU4 {l:List UInt8}:qiF (S l)=some (I l.length):=by simp [qiF,S,I,ByteArray.size]
def faV(off:Nat):V→Option V
 | .p k idx o=>some (.p k idx (o+off))
 | .q τ xs idx o=>some (.q τ xs idx (o+off))
 |_=>none
@[go_sem] theorem qOt {off:Nat} {k:Key} {i o:Nat}:faV off (.p k i o)=some (.p k i (o+off)):=(rfl)
@[go_sem] theorem qOu {off:Nat} {τ:Bool} {xs:List V} {i o:Nat}:faV off (.q τ xs i o)=some (.q τ xs i (o+off)):=(rfl)
@[go_sem] theorem qOF {d off:Nat} {x:AO}:qm call ⟨σ,T⟩ (.fa d x off)=qt (ev σ x) fun x=>qt (faV off x) fun z=>some ⟨(d,z)::σ,T⟩:=by
 simp only [qm,qj]
 cases ev σ x with
 |none=>rfl
 |some x=>cases x<;>rfl
def qhd(agg:Bool) (size off:Nat):V→Option V
 | .a cs=>qZ agg size (.a cs) off
 |_=>none
@[go_sem] theorem qOv {agg:Bool} {size off:Nat} {cs:List V}:qhd agg size off (.a cs)=qZ agg size (.a cs) off:=(rfl)
@[go_sem] theorem qOG {d size off:Nat} {agg:Bool} {x:AO}:qm call ⟨σ,T⟩ (.fld d agg size x off)=qt (ev σ x) fun x=>qt (qhd agg size off x) fun z=>some ⟨(d,z)::σ,T⟩:=by
 simp only [qm,qj]
 cases ev σ x with
 |none=>rfl
 |some x=>cases x<;>first|rfl|(simp only [qt,qhd];rename_i cs;cases qZ agg size (.a cs) off<;>rfl)
def iaV(T:Mem) (e:Nat) (x i:V):Option V:=
 match i with
 | .v (.int _ i)=>ji T e x i
 |_=>none
@[go_sem] theorem qPe {e:Nat} {x:V} {i:Int}:iaV T e x (I i)=ji T e x i:=(rfl)
@[go_sem] theorem qOK {d e:Nat} {x i:AO}:qm call ⟨σ,T⟩ (.ia d e x i)=qt (ev σ x) fun x=>qt (ev σ i) fun i=>qt (iaV T e x i) fun z=>some ⟨(d,z)::σ,T⟩:=by
 simp only [qm,qj]
 cases ev σ x with
 |none=>rfl
 |some x=>cases ev σ i with
  |none=>rfl
  |some i=>cases i<;>first|rfl|(rename_i v;cases v<;>first|rfl|(simp only [qt,iaV];rename_i j;cases ji T e x j<;>rfl))
def ixV:V→V→Option V
 | .v (.string s),.v (.int _ i)=>(yf i s.size).map fun j=>qY (s.data[j]?.getD 0)
 |_,_=>none
@[go_sem] theorem qOM {d:Nat} {x i:AO}:qm call ⟨σ,T⟩ (.ix d x i)=qt (ev σ x) fun x=>qt (ev σ i) fun i=>qt (ixV x i) fun z=>some ⟨(d,z)::σ,T⟩:=by
 simp only [qm,qj]
 cases ev σ x with
 |none=>rfl
 |some x=>cases ev σ i with
  |none=>cases x<;>first|rfl|(rename_i v;cases v<;>rfl)
  |some i=>
   cases x<;>first|rfl|(rename_i v;cases v<;>first|rfl|skip)
   rename_i s
   cases i<;>first|rfl|(rename_i v;cases v<;>first|rfl|(simp only [qt,ixV];rename_i j;cases yf j s.size<;>rfl))
theorem yn {l:List UInt8} {i:Int} {c:UInt8} (h0:0≤i) (h:l[i.toNat]? =some c):ixV (S l) (I i)=some (U8 c.toNat):=by
 have hl:i.toNat < l.length:=(List.getElem?_eq_some_iff.1 h).1
 have hs:(ByteArray.mk l.toArray).size=l.length:=by simp [ByteArray.size]
 simp only [ixV,S,I,hs,yf]
 rw [if_pos ⟨h0,by omega⟩]
 simp [h,qY,U8]
def qhb(i:Nat):V→Option V
 | .t vs=>vs[i]?
 |_=>none
@[go_sem] theorem qOs {i:Nat} {vs:List V}:qhb i (.t vs)=vs[i]? :=(rfl)
@[go_sem] theorem qOE {d i:Nat} {x:AO}:qm call ⟨σ,T⟩ (.ext d x i)=qt (ev σ x) fun x=>qt (qhb i x) fun z=>some ⟨(d,z)::σ,T⟩:=by
 simp only [qm,qj]
 cases ev σ x with
 |none=>rfl
 |some x=>cases x<;>first|rfl|(simp only [qt,qhb];rename_i vs;cases vs[i]? <;>rfl)
@[go_sem] theorem qOH {d:Nat} {fn:Fn} {first caps:List AO}:qm call ⟨σ,T⟩ (.fun d fn first caps)=yt (evL σ first) fun a=>yt (evL σ caps) fun b=>some ⟨(d,.f fn a b)::σ,T⟩:=by
 simp only [qm,qj]
 cases evL σ first with
 |none=>rfl
 |some a=>cases evL σ caps<;>rfl
def qbU(x:V):Option V:=(Xo x).map fun n=>I n
@[go_sem] theorem qP5 {k:Key} {lo len:Nat}:qbU (.s k lo len)=some (I len):=(rfl)
@[go_sem] theorem qP3 {τ:Bool} {xs:List V}:qbU (.i τ xs)=some (I xs.length):=(rfl)
@[go_sem] theorem qP4 {e:Nat}:qbU (.n e)=some (I 0):=(rfl)
@[go_sem] theorem qOP {d:Nat} {x:AO}:qm call ⟨σ,T⟩ (.len d x)=qt (ev σ x) fun x=>qt (qbU x) fun z=>some ⟨(d,z)::σ,T⟩:=by
 simp only [qm,qj]
 cases ev σ x with
 |none=>rfl
 |some x=>simp only [qt,qbU];cases Xo x<;>rfl
def mxV(max:Bool):List V→Option V
 |[.v (.int k a),.v (.int _ b)]=>some (.v (.int k (if max then (if b > a then b else a)else (if b < a then b else a))))
 |_=>none
@[go_sem] theorem qOY {d:Nat} {max:Bool} {args:List AO}:qm call ⟨σ,T⟩ (.mx d max args)=yt (evL σ args) fun xs=>qt (mxV max xs) fun z=>some ⟨(d,z)::σ,T⟩:=by
 simp only [qm,qj]
 cases evL σ args with
 |none=>rfl
 |some xs=>
  rcases xs with _|⟨x,_|⟨y,_|⟨z,r⟩⟩⟩
  ·rfl
  ·cases x<;>first|rfl|(rename_i v;cases v<;>rfl)
  ·cases x<;>first|rfl|(rename_i v;cases v<;>first|rfl|(cases y<;>first|rfl|(rename_i v;cases v<;>rfl)))
  ·cases x<;>first|rfl|(rename_i v;cases v<;>first|rfl|(cases y<;>first|rfl|(rename_i v;cases v<;>rfl)))
@[go_sem] theorem qQJ {a b:Int}:mxV true [I a,I b]=some (I (if b > a then b else a)):=(rfl)
@[go_sem] theorem qQK {a b:Int}:mxV false [I a,I b]=some (I (if b < a then b else a)):=(rfl)
def qhv(k:IntKind):V→Option V
 | .v (.int _ n)=>some (.v (.int k (k.wrap n)))
 |_=>none
@[go_sem] theorem qOL {d:Nat} {k:IntKind} {x:AO}:qm call ⟨σ,T⟩ (.int d k x)=qt (ev σ x) fun x=>qt (qhv k x) fun z=>some ⟨(d,z)::σ,T⟩:=by
 simp only [qm,qj]
 cases ev σ x with
 |none=>rfl
 |some x=>cases x<;>first|rfl|(rename_i v;cases v<;>rfl)
@[go_sem] theorem qPi {n:Int}:qhv .i64 (U8 n)=some (I (w64 n)):=(rfl)
@[go_sem] theorem qPh {n:Int}:qhv .u8 (I n)=some (U8 (IntKind.u8.wrap n)):=(rfl)
def qiT(xs:Option (List V)):Option V:=
 match xs with
 |some xs=>(jj xs).map fun l=>S l
 |none=>none
@[go_sem] theorem qO6 {d:Nat} {x:AO}:qm call ⟨σ,T⟩ (.str d x)=qt (ev σ x) fun x=>qt (qiT (jm T 1 x)) fun z=>some ⟨(d,z)::σ,T⟩:=by
 simp only [qm,qj]
 cases ev σ x with
 |none=>rfl
 |some x=>
  simp only [qt]
  cases jm T 1 x with
  |none=>rfl
  |some xs=>simp only [qiT];cases jj xs<;>rfl
@[go_sem] theorem qU9 {xs:List V}:qiT (some xs)=(jj xs).map fun l=>S l:=(rfl)
def Xa {α:Type} (f:V) (k:Nat→List V→List V→Option α):Option α:=
 match f with
 | .f (.func g) first caps=>k g first caps
 |_=>none
@[congr] theorem qLk {α:Type} {f f':V} {k:Nat→List V→List V→Option α} (h:f=f'):Xa f k=Xa f' k:=by rw [h]
@[go_sem] theorem qLj {α:Type} {g:Nat} {k:Nat→List V→List V→Option α}:Xa (Fc g) k=k g [] []:=(rfl)
@[go_sem] theorem qLl {α:Type} {g:Nat} {a b:List V} {k:Nat→List V→List V→Option α}:Xa (.f (.func g) a b) k=k g a b:=(rfl)
@[go_sem] theorem qOC {d:Option Nat} {f:AO} {args:List AO} {fz:Bool}:qm (cw prog) ⟨σ,T⟩ (.call d f args (.ro fz))=qt (ev σ f) fun fv=>yt (evL σ args) fun xs=>
 Xa fv fun g first caps=>qt (cr prog g (kK T (first++xs++caps))) fun r=>kE (qW r) (some (ky d (fzV fz r) ⟨σ,T⟩)):=by
 simp only [qm,qj]
 cases ev σ f with
 |none=>rfl
 |some fv=>
  cases evL σ args with
  |none=>simp only [qt,yt];cases callee fv<;>rfl
  |some xs=>
   simp only [qt,yt]
   cases fv with
   |f fn first caps=>
    cases fn<;>first|rfl|skip
    simp only [callee,Xa,kB]
    unfold cr
    rename_i g
    cases cw prog g (kK T (first++xs++caps))with
    |none=>rfl
    |some r=>obtain ⟨r,o⟩:=r;rfl
   |_=>rfl
def ioK {α:Type} (r:Option (V × List V)) (k:V→List V→Option α):Option α:=
 match r with
 |some (r,outs)=>k r outs
 |none=>none
@[congr] theorem qPk {α:Type} {r r':Option (V × List V)} {k:V→List V→Option α} (h:r=r'):ioK r k=ioK r' k:=by rw [h]
@[go_sem] theorem qPl {α:Type} {r:V} {outs:List V} {k:V→List V→Option α}:ioK (some (r,outs)) k=k r outs:=(rfl)
@[go_sem] theorem qOB {d:Option Nat} {f:AO} {args:List AO} {fz:Bool}:qm (cw prog) ⟨σ,T⟩ (.call d f args (.io fz))=qt (ev σ f) fun fv=>yt (evL σ args) fun xs=>
 Xa fv fun g first caps=>ioK (cw prog g (qB (qA 30) T (first++xs++caps)).1) fun r outs=>some (ky d (fzV fz r) ⟨σ,Zh T (first++xs++caps) outs++(qB (qA 30) T (first++xs++caps)).2⟩):=by
 simp only [qm,qj]
 cases ev σ f with
 |none=>rfl
 |some fv=>
  cases evL σ args with
  |none=>simp only [qt,yt];cases callee fv<;>rfl
  |some xs=>
   simp only [qt,yt]
   cases fv with
   |f fn first caps=>
    cases fn<;>first|rfl|skip
   |_=>rfl
def bkO(k:Key) (lo e:Nat) (xs:List V) (ob:Option Ob):Mem:=
 match ob with
 |some ob=>if lo=0∧ob.1=e then [(k,e,xs)]else []
 |none=>[]
section
variable {k:Key} {lo len e i o:Nat} {xs ys zs:List V} {x y:V} {τ:Bool} {n:Int} {b:Bool} {l:List UInt8} {fn fn':Fn} {cs ds:List V}
@[go_sem] theorem qJV:xu T (.s k lo len) (.o e xs)=bkO k lo e xs (qu T k):=by simp only [xu,bkO];cases qu T k<;>rfl
@[go_sem] theorem qKQ {e':Nat} {zs:List V}:bkO k lo e xs (some (e',zs))=if lo=0∧e'=e then [(k,e,xs)]else []:=(rfl)
@[go_sem] theorem qJU:xu T (.s k lo len) .d=[]:=(rfl)
@[go_sem] theorem qJQ:xu T (.i τ xs) y=[]:=(rfl)
@[go_sem] theorem qJO:xu T (I n) y=[]:=(rfl)
@[go_sem] theorem qJP:xu T (S l) y=[]:=(rfl)
@[go_sem] theorem qJN:xu T (B b) y=[]:=(rfl)
@[go_sem] theorem qJR:xu T (.n e) y=[]:=(rfl)
@[go_sem] theorem qJT:xu T (.q τ xs i o) y=[]:=(rfl)
@[go_sem] theorem qJZ:jO T (.a cs) (.a ds)=QB T cs ds:=(rfl)
@[go_sem] theorem qJ3:jO T (.s k lo len) y=xu T (.s k lo len) y:=(rfl)
@[go_sem] theorem qJ0:jO T (.i τ xs) y=[]:=(rfl)
@[go_sem] theorem qJX:jO T (I n) y=[]:=(rfl)
@[go_sem] theorem qJY:jO T (S l) y=[]:=(rfl)
@[go_sem] theorem qJW:jO T (B b) y=[]:=(rfl)
@[go_sem] theorem qJ1:jO T (.n e) y=[]:=(rfl)
@[go_sem] theorem qJ2:jO T (.p k i o) y=xu T (.p k i o) y:=(rfl)
end
theorem qqd {d:Nat} {x:V}:Ya d x ⟨σ,T⟩=zQ (zf x) ⟨(d,x)::σ,T⟩ ⟨(d,(yi d x).1)::xM d σ,(yi d x).2++wT d T⟩:=by
 unfold Ya zQ
 cases h:zf x<;>simp [qi4,St.put]
end
end Go.Vm
