import Derived.Test.YtcaejgdpplbcbaaDoorT01
import Derived.Attr
set_option autoImplicit false
set_option linter.unusedSectionVars false
set_option linter.unusedVariables false
set_option linter.unusedSimpArgs false
namespace Go.Vm
variable [Lay]
section
variable {E:Env}
theorem jQ(f:Key→Bool): ∀ {T:Mem} {c:Cnt},ql E T c→ ∃ c',ql E (qC f T) c'∧cle c' c
 |[],c,h=>⟨c,h,qJ _⟩
 |(k,ob)::r,c,h=>by
  obtain ⟨c1,c2,h1,h2,rfl⟩:=h
  obtain ⟨c3,h3,h4⟩:=jQ f h2
  simp only [qC]
  split
  ·exact ⟨qg c1 c3,⟨c1,c3,h1,h3,rfl⟩,yM (qJ _) h4⟩
  ·exact ⟨c3,h3,z1 h4 (yd _ _)⟩
theorem KP: ∀ {T:Mem} {k k':Key},k' ≠ k→qo (qu T k) k'=qo T k'
 |[],k,k',h=>rfl
 |(u,x)::r,k,k',h=>by
  simp only [qu]
  split
  ·rename_i e;subst e
   simp only [qo];rw [if_neg (Ne.symm h)]
  ·simp only [qo,KP h]
theorem ZG(f g:Key→Bool): ∀ T:Mem,qC f (qC g T)=qC (fun u=>g u&&f u) T
 |[]=>rfl
 |(k,x)::r=>by
  by_cases hg:g k=true
  ·by_cases hf:f k=true
   ·simp [qC,hg,hf,ZG f g r]
   ·simp [qC,hg,hf,ZG f g r]
  ·simp [qC,hg,ZG f g r]
theorem qbr {f:Key→Bool} {k:Key} (h:f k=false): ∀ {T:Mem},qC f (qu T k)=qC f T
 |[]=>rfl
 |(u,x)::r=>by
  simp only [qu]
  split
  ·rename_i e;subst e
   simp only [qC,h,Bool.false_eq_true,if_false]
  ·simp only [qC,qbr h]
theorem JP: ∀ (ks:List Key) {L:Mem} {c:Cnt},ks.Nodup→ql E L c→
 ∃ c1 c2,ql E (zq (qo L) ks) c1∧ql E (qC (fun k=> !ks.contains k) L) c2∧cle (qg c1 c2) c
 |[],L,c,hn,h=>by
  obtain ⟨c2,h2,h3⟩:=jQ (fun k=> !([]:List Key).contains k) h
  exact ⟨c0,c2,rfl,h2,by rw [qT];exact h3⟩
 |k::ks,L,c,hn,h=>by
  obtain ⟨hk,hn⟩:=List.nodup_cons.1 hn
  cases hg:qo L k with
  |none=>
   obtain ⟨c1,c2,h1,h2,h3⟩:=JP ks hn h
   refine ⟨c1,c2,by simp only [zq,hg];exact h1, ?_,h3⟩
   have:qC (fun u=> !(k::ks).contains u) L=qC (fun u=> !ks.contains u) L:=by
    clear h h1 h2
    induction L with
    |nil=>rfl
    |cons x r ih=>
     obtain ⟨u,y⟩:=x
     simp only [qo]at hg
     split at hg
     ·cases hg
     ·rename_i hu
      simp only [qC,ih hg]
      have:(k::ks).contains u=ks.contains u:=by
       simp only [List.contains_cons]
       have:(u==k)=false:=by simpa using hu
       rw [this,Bool.false_or]
      rw [this]
   rw [this];exact h2
  |some ob=>
   obtain ⟨d1,d2,ho,hr,rfl⟩:=zG h hg
   obtain ⟨c1,c2,h1,h2,h3⟩:=JP ks hn hr
   obtain ⟨c3,h4,h5⟩:=jQ (fun u=>u != k) h2
   refine ⟨qg d1 c1,c3, ?_, ?_,fun b=>by have:=h3 b;have:=h5 b;simp only [qg]at*;omega⟩
   ·simp only [zq,hg]
    refine ⟨d1,c1,ho, ?_,rfl⟩
    rw [ZS (g:=qo (qu L k)) (fun u hu=>(KP (by rintro rfl;exact hk hu)).symm)]
    exact h1
   ·have:qC (fun u=> !(k::ks).contains u) L=qC (fun u=>u != k) (qC (fun u=> !ks.contains u) (qu L k)):=by
     rw [ZG,qbr (by simp)]
     congr 1
     funext u
     simp only [List.contains_cons,Bool.not_or,bne]
     exact Bool.and_comm _ _
    rw [this];exact h4
theorem qdQ: ∀ {T:Mem} {L:Mem} {c:Cnt},k9 T=true→ql E L c→(∀ k x,qo T k=some x→qo L k=some x)→ ∃ c',ql E T c'∧cle c' c
 |[],L,c,hn,h,hs=>⟨c0,rfl,fun _=>Nat.zero_le _⟩
 |(k,ob)::r,L,c,hn,h,hs=>by
  simp only [k9,Bool.and_eq_true,Option.isNone_iff_eq_none]at hn
  have hg:qo L k=some ob:=hs k ob (by simp [qo])
  obtain ⟨d1,d2,ho,hr,rfl⟩:=zG h hg
  obtain ⟨c',h1,h2⟩:=qdQ (T:=r) hn.2 hr (fun u x hu=>by
   have hne:u ≠ k:=by rintro rfl;rw [hn.1]at hu;cases hu
   rw [KP hne]
   exact hs u x (by simp only [qo];rw [if_neg (Ne.symm hne)];exact hu))
  exact ⟨qg d1 c',⟨d1,c',ho,h1,rfl⟩,yM (qJ _) h2⟩
end
end Go.Vm
namespace Go.Vm
variable [Lay]
def yO(plan:List Dp) (is:List AI) (listed:Array Bool) (d:Nat):Prop:=
 ∃ (i:Nat) (p:Dp) (ai:AI),listed.getD i true=false∧plan[i]? =some p∧is[i]? =some ai∧p.k ≠ 0∧qr ai=some d
structure InvD (N n:Nat) (E0:Env) (k0:Cnt) (a0:Act) (fr:Nat→Prop) (s:FS) (a:Act) (E:Env) (c:Cnt):Prop where
 sz:a.tmps.size=N
 df:a.defers=a0.defers
 σ: ∀ t x,s.1 t=some x→ ∃ y,a.tmps[t]? =some y∧Rel E x y c0
 T: ∃ L,(∀ k,qo L k=s.2 k)∧ql E L c
 g:Good E c
 kn:KN n E0 E
 adv:Adv E0 k0 E c
 fr: ∀ d,fr d→ ∀ j,E.μ (d,j)=none
section
variable {N n:Nat} {E0 E E':Env} {k0 c cA cB:Cnt} {a0 a:Act} {fr fr':Nat→Prop} {s:FS} {dst:Option Nat} {σ':Sl} {T' L:Mem} {y:Value} {p:Dp}
theorem InvD.next(h:InvD N n E0 k0 a0 fr s a E c) (hL: ∀ k,qo L k=s.2 k) (hd: ∀ t,dst=some t→t < N) (hm:Mono E E' c0) (hσ: ∀ d x,dst=some d→qy σ' d=some x→Rel E' x y c0)
 (hA:ql E' (qC (p.own dst) T') cA) (hB:ql E' (qC (fun k=> !p.own dst k) L) cB) (hg:Good E' (qg cA cB)) (hadv:Adv E c E' (qg cA cB)) (hkn:KN n E E')
 (hfr: ∀ d,fr' d→ ∀ j,E'.μ (d,j)=none):InvD N n E0 k0 a0 fr' (zV dst σ' s.1,zW p dst T' s.2) (a.put dst y) E' (qg cA cB):=by
 refine ⟨by cases dst<;>simp [Act.put,h.sz],(qcH _ _ _).trans h.df,fun t x hx=> ?_,⟨qC (p.own dst) T'++qC (fun k=> !p.own dst k) L,fun k=> ?_,yu hA hB⟩,hg,h.kn.trans hkn,h.adv.trans hadv,hfr⟩
 ·simp only [zV]at hx
  split at hx
  ·rename_i e
   subst e
   have ht:=hd t rfl
   refine ⟨y, ?_,hσ t x rfl hx⟩
   simp [Act.put,h.sz,ht]
  ·rename_i e
   obtain ⟨v,h1,h2⟩:=h.σ t x hx
   refine ⟨v, ?_,zQ h2 hm⟩
   cases dst with
   |none=>exact h1
   |some d=>
    have:d ≠ t:=by rintro rfl;exact e rfl
    simp only [Act.put]
    rw [Array.getElem?_setIfInBounds_ne this];exact h1
 ·rw [KO,Qi,Qi]
  simp only [zW,hL]
  cases p.own dst k<;>simp
theorem KR {f:Nat→Option V}: ∀ {us:List Nat} {t:Nat} {x:V},qy (zT f us) t=some x→f t=some x
 |[],t,x,h=>by cases h
 |u::us,t,x,h=>by
  simp only [zT]at h
  split at h
  ·rename_i z hz
   simp only [qy]at h
   split at h
   ·rename_i e;subst e;rw [hz];exact h
   ·exact KR h
  ·exact KR h
theorem InvD.sub(h:InvD N n E0 k0 a0 fr s a E c) (hL: ∀ k,qo L k=s.2 k) (hT:ql E L c) (us:List Nat) {ks:List Key} (hn:ks.Nodup):
 ∃ cK cR,FRel N E {σ:=zT s.1 us,T:=zq s.2 ks} a.tmps cK∧ql E (qC (fun k=> !ks.contains k) L) cR∧cle (qg cK cR) c:=by
 obtain ⟨c1,c2,h1,h2,h3⟩:=JP ks hn hT
 have he:zq s.2 ks=zq (qo L) ks:=ZS fun k _=>(hL k).symm
 refine ⟨c1,c2,⟨h.sz,fun t x hx=>h.σ t x (KR hx),by rw [he];exact h1,h.g.le (z1 (kU _ _) h3)⟩,h2,h3⟩
theorem InvD.quiet(h:InvD N n E0 k0 a0 fr s a E c) {d:Nat} {x:V} {st0:St} (hp:p.k=0) (hd:d < N) (hx:Rel E x y c0) (hfr: ∀ d,fr' d→fr d):
 InvD N n E0 k0 a0 fr' (zV (some d) (st0.put d x).σ s.1,zW p (some d) (st0.put d x).T s.2) (a.put (some d) y) E c:=by
 obtain ⟨L,hL,hT⟩:=h.T
 have hown: ∀ k,p.own (some d) k=false:=fun k=>Je hp k
 have hf1: ∀ T:Mem,qC (p.own (some d)) T=[]:=by
  intro T;induction T with
  |nil=>rfl
  |cons z r ih=>obtain ⟨u,v⟩:=z;simp only [qC,hown,Bool.false_eq_true,if_false,ih]
 have hf2: ∀ T:Mem,qC (fun k=> !p.own (some d) k) T=T:=by
  intro T
  have e:(fun k=> !p.own (some d) k)=fun _=>true:=funext fun k=>by rw [hown k];rfl
  rw [e]
  induction T with
  |nil=>rfl
  |cons z r ih=>obtain ⟨u,v⟩:=z;simp only [qC,if_true,ih]
 have:=InvD.next (fr':=fr') (E':=E) (cA:=c0) (cB:=c) (dst:=some d) (σ':=(st0.put d x).σ) (T':=(st0.put d x).T) (y:=y) (p:=p) h hL (fun t ht=>by cases ht;exact hd) (qgD E c0)
  (fun d' x' hd' hx'=>by cases hd';simp only [St.put,qy,if_pos,Option.some.injEq]at hx';subst hx';exact hx) (by rw [hf1];rfl) (by rw [hf2];exact hT) (by rw [qT];exact h.g) (by rw [qT];exact kg _ _) xN
  (fun d' hd'=>h.fr d' (hfr d' hd'))
 rw [qT]at this;exact this
end
end Go.Vm
namespace Go.Vm
variable [Lay]
section
variable {P:Program} {N n:Nat} {E0 E E':Env} {k0 c cK cR c':Cnt} {a0 a:Act} {fr fr':Nat→Prop} {s:FS} {dst:Option Nat} {st':St} {L:Mem} {y:Value} {p:Dp} {call:qM}
theorem qgF(h:InvD N n E0 k0 a0 fr s a E c) (hkp:yU dst E E') (hdf: ∀ d,dst=some d→fr d): ∀ k l,E.μ k=some l→E'.μ k=some l:=by
 intro k l hk
 by_cases hd:dst=some k.1
 ·have:=h.fr k.1 (hdf _ hd) k.2
  rw [hk]at this;cases this
 ·rw [hkp k hd];exact hk
theorem InvD.write(h:InvD N n E0 k0 a0 fr s a E c) (hL: ∀ k,qo L k=s.2 k) (hcR:ql E (qC (fun k=> !p.ks.contains k) L) cR) (hle:cle (qg cK cR) c)
 (hp:p.k=1) (hd: ∀ t,dst=some t→t < N) (hdf: ∀ d,dst=some d→fr d) (hfr: ∀ d,fr' d→fr d∧dst ≠ some d)
 (hF:FRel N E' st' (a.put dst y).tmps c') (hkn:KN n E E') (hkp:yU dst E E') (hA:Adv E cK E' c'):
 ∃ c'',InvD N n E0 k0 a0 fr' (zV dst st'.σ s.1,zW p dst st'.T s.2) (a.put dst y) E' c'':=by
 have hμ:=qgF h hkp hdf
 have hg:Good E (qg cK cR):=h.g.le hle
 have hmono:=K3 hg hA hμ
 have hgood:=KS hg hA hF.g
 obtain ⟨cA,h1,h2⟩:=jQ (p.own dst) hF.T
 have he:qC (fun k=> !p.own dst k) L=qC (fun k=> !p.own dst k) (qC (fun k=> !p.ks.contains k) L):=by
  rw [ZG]
  congr 1
  funext u
  cases hc:p.ks.contains u with
  |false=>simp
  |true=>
   have:p.own dst u=true:=by unfold Dp.own;rw [hp,hc];rfl
   rw [this];rfl
 obtain ⟨cB,h3,h4⟩:=jQ (fun k=> !p.own dst k) (zy hcR hmono)
 rw [← he]at h3
 have hle2:cle (qg cA cB) (qg c' cR):=yM h2 h4
 refine ⟨qg cA cB,InvD.next h hL hd (hmono.le fun _=>Nat.zero_le _) ?_ h1 h3 (hgood.le hle2) ((j3 (Ko cR hA) hle).le hle2) hkn ?_⟩
 ·intro d x hdd hx
  obtain ⟨v,hv,hr⟩:=hF.σ d x hx
  subst hdd
  have hdN:=hd d rfl
  have:(a.put (some d) y).tmps[d]? =some y:=by simp [Act.put,h.sz,hdN]
  rw [this]at hv;cases hv
  exact hr
 ·intro d hd' j
  obtain ⟨h5,h6⟩:=hfr d hd'
  rw [hkp (d,j) h6]
  exact h.fr d h5 j
theorem qi6 {d:Nat} {st:St}:qC (fun k=>decide (k.1=d)) (qW d st).T=[]:=by
 have: ∀ T:Mem,(∀ k ob,(k,ob) ∈ T→k.1 ≠ d)→qC (fun k=>decide (k.1=d)) (x5 d T)=[]:=by
  intro T hT
  induction T with
  |nil=>rfl
  |cons z r ih=>
   obtain ⟨k,e,xs⟩:=z
   have hk:=hT k _ (List.mem_cons_self)
   simp only [x5,qC]
   rw [if_neg (by simpa using hk)]
   exact ih fun k ob h=>hT k ob (List.mem_cons_of_mem _ h)
 exact this _ fun k ob hk=>ZB d hk
theorem qbq(f:Key→Bool): ∀ A B:Mem,qC f (A++B)=qC f A++qC f B
 |[],B=>rfl
 |(k,x)::r,B=>by
  simp only [List.cons_append,qC,qbq f r B]
  split<;>rfl
theorem KG {f:Key→Bool} {g:Key→Option Ob}: ∀ {ks:List Key},(∀ k ∈ ks,f k=false)→qC f (zq g ks)=[]
 |[],h=>rfl
 |k::ks,h=>by
  simp only [zq]
  split
  ·simp only [qC,h k (List.mem_cons_self),Bool.false_eq_true,if_false]
   exact KG fun u hu=>h u (List.mem_cons_of_mem _ hu)
  ·exact KG fun u hu=>h u (List.mem_cons_of_mem _ hu)
theorem InvD.ro(h:InvD N n E0 k0 a0 fr s a E c) (hL: ∀ k,qo L k=s.2 k) (hT:ql E L c) (hp:p.k=2) (hd: ∀ t,dst=some t→t < N) (hdf: ∀ d,dst=some d→fr d) (hfr: ∀ d,fr' d→fr d∧dst ≠ some d)
 (hnk: ∀ t,dst=some t→n≤t) (hks: ∀ k ∈ p.ks,dst ≠ some k.1) {σ0:Sl} {r:V} {c5:Cnt} (hst:st'=yL dst r {σ:=σ0,T:=zq s.2 p.ks}) (hσd: ∀ d,dst=some d→True)
 (hμ:E'.μ=E.μ) (hr:Rel E'.cl r y c5) (hg5:Good E' c5) (hA:Adv E c0 E' c5):
 ∃ E4 c4,E4.w=E'.w∧InvD N n E0 k0 a0 fr' (zV dst st'.σ s.1,zW p dst st'.T s.2) (a.put dst y) E4 c4:=by
 have hg':Good E (qg c0 c):=by rw [qT];exact h.g
 have hM:Mono E E' c:=K3 hg' hA (fun k l hk=>by rw [hμ];exact hk)
 have hgood:Good E' (qg c5 c):=KS hg' hA hg5
 have hadv:Adv E c E' (qg c5 c):=by have:=Ko c hA;rwa [qT]at this
 have hown: ∀ k,p.own dst k=decide (dst=some k.1):=fun k=>by
  simp only [Dp.own,hp]
  rw [Bool.eq_iff_iff]
  cases dst<;>simp
 obtain ⟨cB,hB,hBle⟩:=jQ (fun k=> !p.own dst k) (zy hT hM)
 cases dst with
 |none=>
  have e1: ∀ T,qC (p.own none) T=[]:=by
   intro T;induction T with
   |nil=>rfl
   |cons z t ih=>obtain ⟨k,x⟩:=z;simp only [qC,hown k];rw [if_neg (by simp)];exact ih
  refine ⟨E',qg c0 cB,rfl,InvD.next h hL hd (hM.le fun _=>Nat.zero_le _) (fun d x hdd=>by cases hdd) (by rw [e1];rfl) hB (hgood.le ?_) (hadv.le ?_) (fun k _=>by rw [hμ]) (fun d hd' j=>by rw [hμ];exact h.fr d (hfr d hd').1 j)⟩
  ·rw [qT];exact z1 hBle (yd _ _)
  ·rw [qT];exact z1 hBle (yd _ _)
 |some d=>
  have hdN:=hd d rfl
  have hfree: ∀ j,E'.μ (d,j)=none:=fun j=>by rw [hμ];exact h.fr d (hdf d rfl) j
  have hownd:p.own (some d)=fun k:Key=>decide (k.1=d):=funext fun k=>by rw [hown];simp [eq_comm]
  simp only [yL,kS]at hst
  split at hst
  ·
   obtain ⟨E4,c6,j',hn,h1,h2,h3⟩:=Ja (d:=d) hfree (zQ hr (xm E' c5))
   subst hst
   have hA4:qC (p.own (some d)) ((zx d r).2++(qW d {σ:=σ0,T:=zq s.2 p.ks}).T)=qC (p.own (some d)) (zx d r).2:=by
    rw [qbq,hownd,qi6,List.append_nil]
   obtain ⟨cA,h4,h5⟩:=jQ (p.own (some d)) h2
   have hle:cle (qg cA cB) (qg c5 c):=fun b=>by have:=h5 b;have:=h3 b;have:=hBle b;simp only [qg]at*;omega
   have hMn:=hn.mono (E:=E') (E':=E4)
   have hg4:Good E4 (qg cA cB):=ku hn.hw hn.hI hle hgood
   refine ⟨E4,qg cA cB,hn.hw,InvD.next h hL hd ?_ ?_ (by simp only [hA4];exact h4) (zy hB (hn.mono _)) hg4 ?_ ?_ ?_⟩
   ·exact ⟨fun τ b hb=>⟨by rw [hn.hI];exact (hM.hI τ b hb).1,by rw [hn.hw];exact (hM.hI τ b hb).2⟩,fun b hb=>absurd rfl hb,fun k l hk=>hn.hμ k l (by rw [hμ];exact hk)⟩
   ·intro d' x hdd hx
    cases hdd
    simp only [qy,if_pos,Option.some.injEq]at hx
    subst hx;exact h1
   ·exact hadv.trans (xQ hn.hw hn.hI hle)
   ·intro k hk
    rw [hn.hout k (by have:=hnk d rfl;omega),hμ]
   ·intro d' hd' j
    obtain ⟨h6,h7⟩:=hfr d' hd'
    rw [hn.hout (d',j) (by rintro rfl;exact h7 rfl),hμ]
    exact h.fr d' h6 j
  ·rename_i hz
   have h0:=jJ hr (by simpa using hz)
   subst h0
   subst hst
   have e1:qC (p.own (some d)) (St.put {σ:=σ0,T:=zq s.2 p.ks} d r).T=[]:=KG fun k hk=>by
    rw [hown];simpa using hks k hk
   rw [qT]at hgood hadv
   refine ⟨E',qg c0 cB,rfl,InvD.next h hL hd (hM.le fun _=>Nat.zero_le _) ?_ (by rw [e1];rfl) hB (hgood.le ?_) (hadv.le ?_) (fun k _=>by rw [hμ]) (fun d hd' j=>by rw [hμ];exact h.fr d (hfr d hd').1 j)⟩
   ·intro d' x hdd hx
    cases hdd
    simp only [St.put,qy,if_pos,Option.some.injEq]at hx
    subst hx
    exact zQ hr (xm E' c0)
   ·rw [qT];exact hBle
   ·rw [qT];exact hBle
end
end Go.Vm
namespace Go.Vm
variable [Lay]
def qav(l:List Nat) (x:Nat):List Nat:=if l.contains x then l else x::l
def Y9(ops:Array Oper):List (List Nat):=
 ops.toList.foldl (fun acc o=>
  acc++[((o.after.toList.filter fun e=>Region.binds .any e).map (·.on)).foldl (fun l k=>(acc.getD k []).foldl qav (qav l k)) []]) []
def ZR(plan:List Dp) (is:List AI) (anc:List (List Nat)):Bool:=
 (List.range is.length).all fun i=>(List.range i).all fun j=>match plan[j]?,is[j]?,plan[i]?,is[i]? with
  |some pj,some aj,some pi,some ai=>((anc.getD i []).contains j||JO pj aj pi ai)&&(pj.k==0||pi.k==0||Q6 (qr aj) (qr ai))
  |_,_,_,_=>false
def Xw:List Key→Bool
 |[]=>true
 |k::ks=> !ks.contains k&&Xw ks
def XB(n:Nat) (p:Dp) (h ai:AI):Bool:=
 ((p.k==0&&Jm (Xb h))||p.k==1||(p.k==2&&roI (Xb h)))&&Xw p.ks&&
   (p.k==0||(match qr ai with|some d=>decide (n≤d)&&p.ks.all (fun k=>k.1 != d)|none=>true))
def yG(n:Nat):List Dp→List AI→List AI→Bool
 |[],[],[]=>true
 |p::ps,h::hs,i::is=>XB n p h i&&yG n ps hs is
 |_,_,_=>false
def dOk(P:Program) (n:Nat) (ops:Array Oper) (plan:List Dp) (hs is:List AI):Bool:=
 P.follows .mixedOrders&&XA ops (Y9 ops)&&K9 ops&&ZR plan is (Y9 ops)&&yG n plan hs is
theorem qco: ∀ {ks:List Key},Xw ks=true→ks.Nodup
 |[],h=>List.nodup_nil
 |k::ks,h=>by
  simp only [Xw,Bool.and_eq_true,Bool.not_eq_true',List.contains_eq_mem,decide_eq_false_iff_not]at h
  exact List.nodup_cons.2 ⟨h.1,qco h.2⟩
theorem Jc {n:Nat}: ∀ {plan:List Dp} {hs is:List AI},yG n plan hs is=true→plan.length=is.length∧hs.length=is.length∧
 ∀ (i:Nat) (p:Dp) (h ai:AI),plan[i]? =some p→hs[i]? =some h→is[i]? =some ai→XB n p h ai=true
 |[],[],[],h=>⟨rfl,rfl,fun i p h ai h1=>by simp at h1⟩
 |p::ps,h::hs,a::is,hk=>by
  simp only [yG,Bool.and_eq_true]at hk
  obtain ⟨h1,h2,h3⟩:=Jc hk.2
  refine ⟨by simp [h1],by simp [h2],fun i p' h' a' e1 e2 e3=> ?_⟩
  cases i with
  |zero=>simp at e1 e2 e3;subst e1;subst e2;subst e3;exact hk.1
  |succ i=>exact h3 i p' h' a' (by simpa using e1) (by simpa using e2) (by simpa using e3)
 |[],[],_::_,h=>by simp [yG]at h
 |[],_::_,_,h=>by simp [yG]at h
 |_::_,[],_,h=>by simp [yG]at h
 |_::_,_::_,[],h=>by simp [yG]at h
def Qz(call:qM) (plan:List Dp) (is:List AI) (i:Nat) (s:FS):Option FS:=
 match plan[i]?,is[i]? with
 |some p,some ai=>kE call p ai s
 |_,_=>none
theorem qaB {call:qM} {plan:List Dp} {is:List AI}: ∀ (ps:List Dp) (as:List AI) (k:Nat) (st st1:St),plan.drop k=ps→is.drop k=as→zj call ps as st=some st1→
 xH (Qz call plan is) (List.range' k as.length) (jg st)=some (jg st1)
 |[],[],k,st,st1,h1,h2,h=>by
  simp only [zj,Option.some.injEq]at h;subst h;rfl
 |p::ps,a::as,k,st,st1,h1,h2,h=>by
  simp only [zj]at h
  split at h
  case h_2=>cases h
  rename_i st2 hs
  have hp:plan[k]? =some p:=by
   have:(plan.drop k)[0]? =some p:=by rw [h1];rfl
   simpa using this
  have ha:is[k]? =some a:=by
   have:(is.drop k)[0]? =some a:=by rw [h2];rfl
   simpa using this
  simp only [List.length_cons,List.range'_succ,xH,Qz,hp,ha,qiP hs]
  exact qaB ps as (k+1) st2 st1 (by rw [← List.drop_drop,h1];rfl) (by rw [← List.drop_drop,h2];rfl) h
 |[],_::_,k,st,st1,h1,h2,h=>by simp [zj]at h
 |_::_,[],k,st,st1,h1,h2,h=>by simp [zj]at h
section
variable {P:Program} {N n:Nat} {E:Env} {c:Cnt} {st:St} {tmps:Array Value}
theorem qdY: ∀ (ds:List Nat) {st:St} {E:Env} {c:Cnt},FRel N E st tmps c→(∀ d ∈ ds,n≤d)→
 ∃ E' c',E'.w=E.w∧E'.I=E.I∧KN n E E'∧FRel N E' (yw ds st) tmps c'∧cle c' c∧(∀ d ∈ ds,∀ j,E'.μ (d,j)=none)∧(∀ d,(∀ j,E.μ (d,j)=none)→ ∀ j,E'.μ (d,j)=none)
 |[],st,E,c,h,hd=>⟨E,c,rfl,rfl,xN,h,qJ _,fun d hd=>(by cases hd),fun d h=>h⟩
 |d::ds,st,E,c,h,hd=>by
  obtain ⟨c1,h1,h2,h3⟩:=ji d h.σ h.T
  obtain ⟨E',c',w1,i1,k1,f1,l1,m1,m2⟩:=qdY ds (st:=qW d st) (E:=E.drop d) (c:=c1) ⟨h.sz,h1,h2,(h.g.drop d).le h3⟩ (fun e he=>hd e (List.mem_cons_of_mem _ he))
  have hdn:=hd d (List.mem_cons_self)
  refine ⟨E',c',w1,i1,fun k hk=> ?_,f1,z1 l1 h3,fun e he=> ?_,fun e he=> ?_⟩
  ·rw [k1 k hk]
   simp only [Env.drop];rw [if_neg (by omega)]
  ·rcases List.mem_cons.1 he with rfl|he
   ·exact m2 e (fun j=>xC E e j)
   ·exact m1 e he
  ·exact m2 e fun j=>by
    simp only [Env.drop]
    split
    ·rfl
    ·exact he j
end
end Go.Vm
namespace Go.Vm
variable [Lay]
section
variable {P:Program} {N n:Nat} {ops:Array Oper} {o:Oper} {E:Env} {c:Cnt} {st st':St} {a:Act} {call:qM} {ai h:AI}
theorem qhV(hC:xz P call) (hq:roI h=true) (ht:zR P N o h=some ai) (hs:qh call st ai=some st') (hf:FRel N E st a.tmps c) {Q:Exit→Act→World→Prop} {K:Act→World→Prop}
 (hK: ∀ y E3 c5 r,E3.μ=E.μ→Rel E3.cl r y c5→Good E3 c5→Adv E c0 E3 c5→st'=yL o.dst r st→K (a.put o.dst y) E3.w):o.wp P a E.w K Q:=by
 unfold roI at hq
 split at hq
 case h_2=>cases hq
 rename_i d hh hs' fz
 simp only [zR]at ht
 split at ht
 case isFalse=>cases ht
 rename_i hd
 simp only [ky,Bool.and_eq_true,decide_eq_true_eq]at hd
 obtain ⟨hd,hn⟩:=hd
 unfold jR at ht
 split at ht
 case h_2=>cases ht
 rename_i cl ho
 split at ht
 case h_2=>cases ht
 rename_i f hfn
 obtain ⟨f',xs',h1,h2,rfl⟩:=x8 ht
 simp only [qh]at hs
 split at hs
 case h_2=>cases hs
 rename_i fv hfv
 split at hs
 case h_2=>cases hs
 rename_i g first caps xs hcal hxs
 have hrf:=qB hf.σ h1 hfv
 have hrx:=Qg hf.σ h2 hxs
 unfold callee at hcal
 split at hcal
 case h_2=>cases hcal
 rename_i g0 fi0 ca0
 simp only [Option.some.injEq,Prod.mk.injEq]at hcal
 obtain ⟨rfl,rfl,rfl⟩:=hcal
 simp only [Rel]at hrf
 obtain ⟨fs,cs,c1,c2,hv,hr1,hr2,hcc⟩:=hrf
 obtain ⟨rfl,rfl⟩:=cz hcc.symm.symm rfl
 have hL:qi E (_++xs++_) (fs.toList++cl.args.toList.map a.eval++cs.toList) c0:=xp (xp hr1 hrx) hr2
 simp only [yN]at hs
 split at hs
 case h_2=>cases hs
 rename_i r outs hcall
 split at hs
 case isFalse=>cases hs
 rename_i hnt
 simp only [Option.some.injEq]at hs
 have hA:=qdr hC (fz:=fz) hcall hnt hL hf.T hf.g
 have hrun:(execOp a.eval o).run P E.w=(callFunc g0 (fs.toList++cl.args.toList.map a.eval++cs.toList).toArray).run P E.w:=by
  rw [execOp];simp only [ho,resolve,hfn,hv,Deferred.ofValue,invoke,Sem.run_bind,Sem.run_pure,Result.andThen_ok]
  congr 2
  apply Array.ext'
  simp
 unfold Oper.wp
 rw [hrun]
 have hK': ∀ y w',(∃ E3 c5,E3.w=w'∧E3.μ=E.μ∧Rel E3.cl (fzV fz r) y c5∧Good E3 c5∧(∀ b,b < E.w.heap.size→w'.heap[b]? =E.w.heap[b]?)∧Adv E c0 E3 c5)→K (a.put o.dst y) w':=by
  rintro y w' ⟨E3,c5,rfl,k1,k2,k3,-,k4⟩
  exact hK y E3 c5 _ k1 k2 k3 k4 (by rw [hd];exact hs.symm)
 unfold kh at hA
 split at hA
 ·rename_i g' args w' he
  rw [he]
  obtain ⟨rfl,hc⟩:=hA
  refine hc.mono ?_
  rintro e w'' ⟨y,rfl,h3⟩
  exact hK' y w'' h3
 ·rename_i y w' he
  rw [he]
  exact hK' y w' hA
 ·exact hA.elim
theorem JR {ops':Array Oper}: ∀ {os:List Oper} {hs is:List AI},yK P N n ops' os hs=some is→os.length=is.length∧ ∀ (i:Nat) (o:Oper),os[i]? =some o→
 ∃ h ai,hs[i]? =some h∧is[i]? =some ai∧trI P N n ops' o h=some ai
 |[],[],is,h=>by simp only [yK,Option.some.injEq]at h;subst h;exact ⟨rfl,fun i o h=>by simp at h⟩
 |[],_::_,is,h=>by simp [yK]at h
 |_::_,[],is,h=>by simp [yK]at h
 |o::os,x::hs,is,h=>by
  simp only [yK]at h
  split at h
  case h_2=>cases h
  rename_i i is' h1 h2
  simp only [Option.some.injEq]at h;subst h
  obtain ⟨h3,h4⟩:=JR h2
  refine ⟨by simp [h3],fun j o' hj=> ?_⟩
  cases j with
  |zero=>simp at hj;subst hj;exact ⟨x,i,rfl,rfl,h1⟩
  |succ j=>simpa using h4 j o' (by simpa using hj)
end
end Go.Vm
namespace Go.Vm
variable [Lay]
section
variable {P:Program} {N n:Nat} {ops:Array Oper} {call:qM} {plan:List Dp} {hs is:List AI}
theorem qe7 {listed:Array Bool} {i:Nat} {p:Dp} {ai:AI} (hl:listed.size=ops.size) (hi:i < ops.size) (hp:plan[i]? =some p) (ha:is[i]? =some ai) (hlen:is.length=ops.size)
 (hpairs:ZR plan is (Y9 ops)=true) {d:Nat} (h:yO plan is (listed.setIfInBounds i true) d):yO plan is listed d∧(p.k ≠ 0→qr ai ≠ some d):=by
 obtain ⟨j,q,aj,h1,h2,h3,h4,h5⟩:=h
 have hne:j ≠ i:=by
  rintro rfl
  have:(listed.setIfInBounds j true).getD j true=true:=by simp [Array.getD_eq_getD_getElem?,hl,hi]
  rw [this]at h1;cases h1
 rw [getD_set_ne true (Ne.symm hne)]at h1
 refine ⟨⟨j,q,aj,h1,h2,h3,h4,h5⟩,fun hk hd=> ?_⟩
 simp only [ZR,List.all_eq_true,List.mem_range]at hpairs
 have hj:j < is.length:=(List.getElem?_eq_some_iff.1 h3).1
 rcases Nat.lt_or_gt_of_ne hne with hlt|hlt
 ·have:=hpairs i (by omega) j hlt
  simp only [h2,h3,hp,ha,Bool.and_eq_true,Bool.or_eq_true,beq_iff_eq]at this
  have h6:=this.2
  rcases h6 with (h6|h6)|h6
  ·exact h4 h6
  ·exact hk h6
  ·rw [h5,hd]at h6;simp [Q6]at h6
 ·have:=hpairs j hj i hlt
  simp only [h2,h3,hp,ha,Bool.and_eq_true,Bool.or_eq_true,beq_iff_eq]at this
  have h6:=this.2
  rcases h6 with (h6|h6)|h6
  ·exact hk h6
  ·exact h4 h6
  ·rw [h5,hd]at h6;simp [Q6]at h6
theorem qdR {o:Oper} {h ai:AI} (ht:zR P N o h=some ai): ∀ t,o.dst=some t→t < N:=by
 cases h<;>simp only [zR]at ht<;>(first|(cases ht;done)|skip)<;>(split at ht)<;>(first|(cases ht;done)|skip)<;>rename_i hd
 case st.isTrue=>
  intro t h;have hd':o.dst=none:=by simpa using hd
  rw [hd']at h;cases h
 case mset.isTrue=>
  intro t h;have hd':o.dst=none:=by simpa using hd
  rw [hd']at h;cases h
 case mes.isTrue=>
  intro t h;have hd':o.dst=none:=by simpa using hd
  rw [hd']at h;cases h
 case call.isTrue=>
  simp only [ky,Bool.and_eq_true,decide_eq_true_eq]at hd
  intro t h
  obtain ⟨h1,h2⟩:=hd
  rw [← h1,h]at h2;simpa using h2
 all_goals
  intro t h
  obtain ⟨h1,h2⟩:=zb hd
  rw [h1]at h;cases h;exact h2
theorem qi1 {o:Oper} {h ai:AI} (ht:trI P N n ops o h=some ai): ∀ t,o.dst=some t→t < N:=by
 unfold trI at ht
 split at ht
 ·split at ht
  case h_2=>cases ht
  split at ht
  case isFalse=>cases ht
  rename_i hc
  rw [Option.map_eq_some_iff]at ht
  obtain ⟨i',hi',rfl⟩:=ht
  exact qdR hi'
 ·split at ht
  case isFalse=>cases ht
  rename_i hc
  simp only [Bool.and_eq_true]at hc
  intro t h
  obtain ⟨h1,h2⟩:=zb hc.2
  rw [h1]at h;cases h;exact h2
 ·split at ht
  case isFalse=>cases ht
  exact qdR ht
theorem qeU(hC:xz P call) (hlen:is.length=ops.size) (hpl:plan.length=is.length) (htr:yK P N n ops ops.toList hs=some is) (hops:yG n plan hs is=true) (hpairs:ZR plan is (Y9 ops)=true)
 {E0:Env} {k0:Cnt} {a0:Act} {Q:Exit→Act→World→Prop} (listed:Array Bool) (i:Nat) (s s1:FS) (a:Act) (w:World) (K:Act→World→Prop) (hsz:listed.size=ops.size)
 (hi:i ∈ Region.ready .any ops listed) (hF:Qz call plan is i s=some s1) (hI: ∃ E c,E.w=w∧InvD N n E0 k0 a0 (yO plan is listed) s a E c)
 (hK: ∀ a' w',(∃ E c,E.w=w'∧InvD N n E0 k0 a0 (yO plan is (listed.setIfInBounds i true)) s1 a' E c)→K a' w'):wpOp P ops Q i K a w:=by
 obtain ⟨E,c,rfl,hI⟩:=hI
 obtain ⟨h0,o,ho,-⟩:=mem_ready.1 hi
 have hin:i < ops.size:=(Array.getElem?_eq_some_iff.1 ho).1
 obtain ⟨h,ai,hh,hai,ht⟩:=(JR htr).2 i o (by simpa using ho)
 unfold Qz at hF
 split at hF
 case h_2=>cases hF
 rename_i p ai' hp hai'
 rw [hai]at hai';cases hai'
 have hop:=(Jc hops).2.2 i p h ai hp hh hai
 obtain ⟨st',hg,hsome,rfl⟩:=Z6.1 hF
 simp only [XB,Bool.and_eq_true,Bool.or_eq_true,beq_iff_eq]at hop
 obtain ⟨⟨hkind,hnd⟩,hal⟩:=hop
 have hnd:=qco hnd
 obtain ⟨L,hL,hT⟩:=hI.T
 obtain ⟨cK,cR,hFR,hcR,hle⟩:=hI.sub hL hT (qG ai) hnd
 have hfs:=fun d=> @qe7 _ ops plan is listed i p ai hsz hin hp hai hlen hpairs d
 obtain ⟨hdst,hcases⟩:=qi0 ht hg hFR
 have hal':p.k ≠ 0→(∀ d,qr ai=some d→n≤d)∧(∀ k ∈ p.ks,qr ai ≠ some k.1)∧(∀ d,qr ai=some d→yO plan is listed d):=by
  intro hk
  have h1:=hal.resolve_left hk
  refine ⟨fun d hd=> ?_,fun k hk' hd=> ?_,fun d hd=>⟨i,p,ai,h0,hp,hai,hk,hd⟩⟩
  ·rw [hd]at h1;simp only [Bool.and_eq_true,decide_eq_true_eq]at h1;exact h1.1
  ·rw [hd]at h1
   simp only [Bool.and_eq_true,decide_eq_true_eq,List.all_eq_true,bne_iff_ne,ne_eq]at h1
   exact h1.2 k hk' rfl
 have hdN: ∀ t,qr ai=some t→t < N:=by rw [hdst];exact qi1 ht
 have hstay:p.k=0→st'=st'→(∀ (x:V) (y:Value),(qr ai=none)→InvD N n E0 k0 a0 (yO plan is (listed.setIfInBounds i true)) (zV (qr ai) st'.σ s.1,zW p (qr ai) st'.T s.2) (a.put (qr ai) y) E c):=by
  intro hk _ x y hn
  have e1:zV none st'.σ s.1=s.1:=by funext t;simp [zV]
  have e2:zW p none st'.T s.2=s.2:=by funext k;simp [zW,Je hk]
  rw [hn,e1,e2]
  exact ⟨hI.sz,hI.df,hI.σ,hI.T,hI.g,hI.kn,hI.adv,fun d hd=>hI.fr d (hfs d hd).1⟩
 have hquiet:p.k=0→ ∀ d x y,qr ai=some d→st'=St.put {σ:=zT s.1 (qG ai),T:=zq s.2 p.ks} d x→Rel E x y c0→K (a.put o.dst y) E.w:=by
  intro hk d x y hd hst hx
  refine hK _ _ ⟨E,c,rfl, ?_⟩
  rw [← hdst,hd,hst]
  exact hI.quiet hk (hdN d hd) hx fun d' hd'=>(hfs d' hd').1
 have hro:p.k=2→ ∀ y E3 c5 r,E3.μ=E.μ→Rel E3.cl r y c5→Good E3 c5→Adv E c0 E3 c5→st'=yL o.dst r {σ:=zT s.1 (qG ai),T:=zq s.2 p.ks}→K (a.put o.dst y) E3.w:=by
  intro hk y E3 c5 r k1 k2 k3 k4 k5
  have hk0:p.k ≠ 0:=by omega
  obtain ⟨g1,g2,g3⟩:=hal' hk0
  rw [← hdst]at k5 ⊢
  obtain ⟨E4,c4,hw4,hI4⟩:=hI.ro (fr':=yO plan is (listed.setIfInBounds i true)) hL hT hk hdN g3 (fun d hd=>⟨(hfs d hd).1,(hfs d hd).2 hk0⟩) g1 g2 k5 (fun _ _=>trivial) k1 k2 k3 k4
  rw [← hw4]
  exact hK _ _ ⟨E4,c4,rfl,hI4⟩
 unfold wpOp
 rw [ho]
 simp only
 by_cases hk1:p.k=1
 ·refine qdU hC ht hg hFR ?_
  intro y E' c' hF' hkn hkp hA
  obtain ⟨g1,g2,g3⟩:=hal' (by omega)
  rw [← hdst]at hF' hkp ⊢
  obtain ⟨c'',hI'⟩:=hI.write (fr':=yO plan is (listed.setIfInBounds i true)) hL hcR hle hk1 hdN g3 (fun d hd=>⟨(hfs d hd).1,(hfs d hd).2 (by omega)⟩) hF' hkn hkp hA
  exact hK _ _ ⟨E',c'',rfl,hI'⟩
 rcases hkind with (⟨hk,hq⟩|hk)|⟨hk,hq⟩
 ·rcases hcases with ⟨hw,hn1,hn2⟩|⟨hw,ai1,h1,h2⟩
  ·rw [hw,if_neg (by simp)]
   cases hd:qr ai with
   |none=>
    have:=hstay hk rfl (.d) undef hd
    rw [hdst]at this
    exact hK _ _ ⟨E,c,rfl,by rw [hdst];exact this⟩
   |some d=>exact hquiet hk d zH undef hd (hn2 d (by rw [← hdst,hd])).2 qdX
  ·rw [if_pos hw]
   refine .inl (qeI (qiZ hq h1 h2 hFR) ?_)
   intro d x y hd hdn hst hx
   exact hquiet hk d x y (by rw [hdst,hd]) hst hx
 ·exact absurd hk hk1
 ·rcases hcases with ⟨hw,hn1,hn2⟩|⟨hw,ai1,h1,h2⟩
  ·rw [hw,if_neg (by simp)]
   refine hro hk undef E c0 zH rfl (by simp [zH,undef,Rel,zI]) (hI.g.le fun _=>Nat.zero_le _) (kg _ _) ?_
   cases hd:o.dst with
   |none=>simp only [yL];exact hn1 hd
   |some d=>
    simp only [yL,kS,zH,qS,Bool.not_true,Bool.false_eq_true,if_false]
    exact (hn2 d hd).2
  ·rw [if_pos hw]
   exact .inl (qhV hC hq h1 h2 hFR fun y E3 c5 r k1 k2 k3 k4 k5=>hro hk y E3 c5 r k1 k2 k3 k4 k5)
end
end Go.Vm
namespace Go.Vm
variable [Lay]
section
variable {P:Program} {N n:Nat} {ops:Array Oper} {call:qM} {plan:List Dp} {hs is:List AI}
theorem Y8: ∀ {plan:List Dp} {hs is:List AI},yG n plan hs is=true→ ∀ d ∈ zt plan is,n≤d
 |[],[],[],h,d,hd=>by simp [zt]at hd
 |p::ps,h::hs,a::is,hk,d,hd=>by
  simp only [yG,Bool.and_eq_true]at hk
  simp only [zt]at hd
  split at hd
  ·exact Y8 hk.2 d hd
  ·rename_i hp
   split at hd
   ·rename_i e he
    rcases List.mem_cons.1 hd with rfl|hd
    ·have h1:=hk.1
     simp only [XB,Bool.and_eq_true,Bool.or_eq_true,beq_iff_eq,he,decide_eq_true_eq]at h1
     exact (h1.2.resolve_left hp).1
    ·exact Y8 hk.2 d hd
   ·exact Y8 hk.2 d hd
 |[],[],_::_,h,d,hd=>by simp [yG]at h
 |[],_::_,_,h,d,hd=>by simp [yG]at h
 |_::_,[],_,h,d,hd=>by simp [yG]at h
 |_::_,_::_,[],h,d,hd=>by simp [yG]at h
theorem qay: ∀ {plan:List Dp} {is:List AI} {i:Nat} {p:Dp} {ai:AI} {d:Nat},plan[i]? =some p→is[i]? =some ai→p.k ≠ 0→qr ai=some d→d ∈ zt plan is
 |[],is,i,p,ai,d,h1,h2,h3,h4=>by simp at h1
 |q::ps,[],i,p,ai,d,h1,h2,h3,h4=>by simp at h2
 |q::ps,b::is,0,p,ai,d,h1,h2,h3,h4=>by
  simp at h1 h2;subst h1;subst h2
  simp only [zt,if_neg h3,h4];exact List.mem_cons_self
 |q::ps,b::is,i+1,p,ai,d,h1,h2,h3,h4=>by
  have:=qay (plan:=ps) (is:=is) (by simpa using h1) (by simpa using h2) h3 h4
  simp only [zt]
  split
  ·exact this
  ·split
   ·exact List.mem_cons_of_mem _ this
   ·exact this
theorem qeT(hC:xz P call) (hchk:dOk P n ops plan hs is=true) (htr:yK P N n ops ops.toList hs=some is) {st st1:St} {a:Act} {E:Env} {c:Cnt}
 (hrun:zj call plan is (yw (zt plan is) st)=some st1) (hnd:k9 st1.T=true) (hf:FRel N E st a.tmps c) {Q:Exit→Act→World→Prop}
 (hQ: ∀ a' E' c',FRel N E' st1 a'.tmps c'→a'.defers=a.defers→KN n E E'→Adv E c E' c'→Q .normal a' E'.w) {id:Nat}:(Code.region id ops true).wp P Q a E.w:=by
 simp only [dOk,Bool.and_eq_true]at hchk
 obtain ⟨⟨⟨⟨hm,hanc⟩,hback⟩,hpairs⟩,hops⟩:=hchk
 obtain ⟨hl1,hl2,-⟩:=Jc hops
 have hlen:is.length=ops.size:=by have:=(JR htr).1;rw [Array.length_toList]at this;exact this.symm
 let E1:Env:={E with w:={E.w with drawn:=E.w.drawn+1}}
 have hM: ∀ c,Mono E E1 c:=fun c=>⟨fun τ b hb=>⟨hb,rfl⟩,fun b _=>rfl,fun k l hk=>hk⟩
 have hf1:FRel N E1 st a.tmps c:=⟨hf.sz,yT hf.σ (hM _),zy hf.T (hM _),⟨hf.g.one,hf.g.imm,hf.g.sub,hf.g.bnd,hf.g.lay.next (fun b hb=>hb) (fun b hb=>rfl)⟩⟩
 have hA1:Adv E c E1 c:=⟨fun b n h=>h,rfl,rfl,rfl,Nat.le_refl _,fun _ _ _=>rfl,fun _ _ h=>h,fun _ h=> .inl h,fun _ _ h=> .inl h⟩
 obtain ⟨E2,c2,hw2,hI2,hk2,hf2,hle2,hfree,-⟩:=qdY (n:=n) (zt plan is) hf1 (Y8 hops)
 have hA2:Adv E c E2 c2:=hA1.trans (xQ hw2 hI2 hle2)
 have hK2:KN n E E2:=fun k hk=>hk2 k hk
 refine wp_region_any hm ?_
 have hsz:(Array.replicate ops.size false).size=ops.size:=by simp
 have hget: ∀ i,i < ops.size→(Array.replicate ops.size false).getD i true=false:=fun i hi=>by simp [Array.getD_eq_getD_getElem?,hi]
 have hrem:yq ops.size (Array.replicate ops.size false)=List.range ops.size:=by
  unfold yq
  rw [List.filter_eq_self]
  intro i hi
  rw [hget i (List.mem_range.1 hi)];rfl
 have hInv0:InvD N n E c a (yO plan is (Array.replicate ops.size false)) (jg (yw (zt plan is) st)) a E2 c2:=
  ⟨hf2.sz,rfl,fun t x hx=>hf2.σ t x hx,⟨_,fun k=>rfl,hf2.T⟩,hf2.g,hK2,hA2,fun d ⟨i,p,ai,_,h2,h3,h4,h5⟩=>hfree d (qay h2 h3 h4 h5)⟩
 refine qi9 (F:=Qz call plan is) hanc hback ?_ (fun listed s a' w'=> ∃ E' c',E'.w=w'∧InvD N n E c a (yO plan is listed) s a' E' c')
  (qeU hC hlen hl1 htr hops hpairs) (s':=jg st1) ?_ ops.size _ (jg (yw (zt plan is) st)) a _ hsz (by rw [hrem];simp) ?_ ?_ ⟨E2,c2,hw2,hInv0⟩
 ·intro j i hj hi hcon s s1 s2 h1 h2
  simp only [ZR,List.all_eq_true,List.mem_range]at hpairs
  have:=hpairs i (by omega) j hj
  unfold Qz at h1 h2 ⊢
  split at h1
  case h_2=>cases h1
  rename_i pj aj e1 e2
  split at h2
  case h_2=>cases h2
  rename_i pi ai e3 e4
  simp only [e1,e2,e3,e4,Bool.and_eq_true,Bool.or_eq_true]at this
  rcases this.1 with h3|h3
  ·rw [hcon]at h3;cases h3
  ·obtain ⟨s1',g1,g2⟩:=qiS h3 h1 h2
   exact ⟨s1',g1,g2⟩
 ·rintro listed a' w' ⟨E',c',rfl,hI⟩
  obtain ⟨L,hL,hT⟩:=hI.T
  obtain ⟨c'',h1,h2⟩:=qdQ hnd hT (fun k x hk=>by rw [hL];exact hk)
  exact hQ a' E' c'' ⟨hI.sz,fun t x hx=>hI.σ t x hx,h1,hI.g.le h2⟩ hI.df hI.kn (hI.adv.le h2)
 ·intro k o hk hl
  rw [hget k (Array.getElem?_eq_some_iff.1 hk).1]at hl;cases hl
 ·rw [hrem,List.range_eq_range', ← hlen]
  exact qaB plan is 0 _ _ rfl rfl hrun
end
end Go.Vm
namespace Go.Vm
variable [Lay]
section
variable {E E':Env}
end
def zk(E:Env):Env:={E with μ:=fun k=>if NB≤k.1 then some (.emp none)else E.μ k}
mutual
theorem ZQ(E:Env) (d i:Nat) (nm:Bool) (hd:nm=true→NB≤d): ∀ (x:V) (y:Value) (c:Cnt),Rel E x y c→Rel (zk E) (qI d i nm x) y c
 | .v x,y,c,h=>by simpa only [Rel,qI]using h
 | .p k a b,y,c,h=>by
   simp only [qI]
   split
   ·simp only [Rel]at h ⊢;exact h.1
   ·rename_i hk
    simp only [Rel,zk,if_neg hk]at h ⊢;exact h
 | .s k a b,y,c,h=>by
   simp only [qI]
   split
   ·simp only [Rel]at h ⊢;exact h.1
   ·rename_i hk
    simp only [Rel,zk,if_neg hk]at h ⊢;exact h
 | .q τ xs a b,y,c,h=>by simp only [Rel,qI]at h ⊢;exact h
 | .i τ xs,y,c,h=>by simp only [Rel,qI]at h ⊢;exact h
 | .o e xs,y,c,h=>by simp only [Rel,qI]at h ⊢;exact h
 | .n e,y,c,h=>by
   simp only [qI]
   split
   ·rename_i hn
    simp only [Rel]at h ⊢
    obtain ⟨rfl,rfl⟩:=h
    refine ⟨by trivial,.inl ⟨none,by simp only [zk,if_pos (hd hn)], ?_⟩⟩
    simp
   ·simpa only [Rel]using h
 | .b x,y,c,h=>by simp only [Rel,qI]at h ⊢;exact h
 | .f fn xs ys,y,c,h=>by
   simp only [Rel,qI]at h ⊢
   obtain ⟨fs,cs,c1,c2,hy,h1,h2,h3⟩:=h
   exact ⟨fs,cs,c1,c2,hy,ZP E d i false (fun h=>by cases h) xs _ _ h1,ZP E d i false (fun h=>by cases h) ys _ _ h2,h3⟩
 | .a xs,y,c,h=>by
   simp only [Rel,qI]at h ⊢
   obtain ⟨vs,hy,h⟩:=h
   exact ⟨vs,hy,ZP E d i nm hd xs _ _ h⟩
 | .t xs,y,c,h=>by
   simp only [Rel,qI]at h ⊢
   obtain ⟨vs,hy,h⟩:=h
   exact ⟨vs,hy,ZP E d i false (fun h=>by cases h) xs _ _ h⟩
 | .m k,y,c,h=>by
   simp only [qI]
   split
   ·simp only [Rel]at h ⊢;exact h.1
   ·rename_i hk
    simp only [Rel,zk,if_neg hk]at h ⊢;exact h
 | .w none es,y,c,h=>by simp only [Rel,qI]at h ⊢;exact h
 | .w (some _) es,y,c,h=>by simp only [Rel,qI]at h ⊢;exact h
 | .d,y,c,h=>by simpa only [Rel,qI]using h
theorem ZP(E:Env) (d i:Nat) (nm:Bool) (hd:nm=true→NB≤d): ∀ (xs:List V) (ys:List Value) (c:Cnt),qi E xs ys c→qi (zk E) (zJ d i nm xs) ys c
 |[],ys,c,h=>by simpa only [qi,zJ]using h
 |x::xs,ys,c,h=>by
  simp only [qi,zJ]at h ⊢
  obtain ⟨y,ys',c1,c2,hy,h1,h2,h3⟩:=h
  exact ⟨y,ys',c1,c2,hy,ZQ E d i nm hd x _ _ h1,ZP E d (i+1) nm hd xs _ _ h2,h3⟩
end
theorem K5(d:Nat) (nm:Bool): ∀ (xs:List V) (i:Nat),(zJ d i nm xs).length=xs.length
 |[],_=>rfl
 |x::xs,i=>by simp only [zJ,List.length_cons,K5 d nm xs (i+1)]
theorem K6(d i:Nat) (nm:Bool) (x:V):(qI d i nm x).cells.length=x.cells.length:=by
 cases x<;>simp only [qI]<;>first
  |rfl
  |(split<;>rfl)
  |(simp only [V.cells,K5])
theorem qb6(E:Env) (d:Nat) {e:Nat}: ∀ (xs:List V) (i:Nat) (ys:List Value) (c:Cnt),qj E e xs ys c→qj (zk E) e (zJ d i false xs) ys c
 |[],i,ys,c,h=>h
 |x::xs,i,ys,c,h=>by
  simp only [qj,zJ]at h ⊢
  obtain ⟨y,ys',c1,c2,h1,h2,h3,h4,h5,h6,h7⟩:=h
  exact ⟨y,ys',c1,c2,h1,h2,by rw [K6];exact h3,h4,ZQ E d i false (fun h=>by cases h) _ _ _ h5,qb6 E d xs (i+1) _ _ h6,h7⟩
theorem Jp {E E':Env} (hc:E'.cl=E.cl) {e:Nat} {xs:List V} {ys:List Value} {c:Cnt} (h:qj E e xs ys c) (hx:qx xs=true):qj E' e xs ys c:=
 zM (by rw [hc];exact XK h hx) (xm E' c)
theorem qgJ(E:Env) (d i:Nat) (bx:Bool) (hd:NB≤d) {e:Nat} {xs:List V} {ys:List Value} {c:Cnt} (h:qj E e xs ys c):qj (zk E) e (y4 d i bx xs) ys c:=by
 have hall: ∀ xs,qj E e xs ys c→qj (zk E) e (if qx xs then xs else zJ 0 0 false xs) ys c:=by
  intro xs h
  split
  ·rename_i hc;exact Jp (E:=E) (E':=zk E) rfl h hc
  ·exact qb6 E 0 xs 0 ys c h
 unfold y4
 split
 ·rename_i x
  have hone: ∀ g:V→V,(∀ y c,Rel E x y c→Rel (zk E) (g x) y c)→(g x).cells.length=x.cells.length→qj (zk E) e [g x] ys c:=by
   intro g hg hl
   simp only [qj]at h ⊢
   obtain ⟨y,ys',c1,c2,h1,h2,h3,h4,h5,h6,h7⟩:=h
   exact ⟨y,ys',c1,c2,h1,h2,by rw [hl];exact h3,h4,hg _ _ h5,h6,h7⟩
  split
  ·exact hone (qI d i true) (fun y c h=>ZQ E d i true (fun _=>hd) x y c h) (K6 _ _ _ _)
  ·split
   ·rename_i hc;exact Jp (E:=E) (E':=zk E) rfl h (by simp only [qx,hc,Bool.and_self])
   ·exact hone (qI 0 0 false) (fun y c h=>ZQ E 0 0 false (fun h=>by cases h) x y c h) (K6 _ _ _ _)
 ·exact hall _ h
theorem qbk(E:Env) {k:Key} (hk:NB≤k.1) (e:Nat):yi (zk E) k (e,[]) c0:= .inr (.inl ⟨⟨none,by simp only [zk,if_pos hk]⟩,rfl,rfl⟩)
theorem K4(E:Env) (d:Nat) (hd:NB≤d): ∀ (xs:List V) (i:Nat),ql (zk E) (x6 d i xs) c0
 |[],i=>by simp only [x6,ql]
 |x::xs,i=>by
  cases x<;>simp only [x6]<;>first
   |exact K4 E d hd xs (i+1)
   |exact ⟨c0,c0,qbk E hd _,K4 E d hd xs (i+1),rfl⟩
theorem qb9(E:Env) (d i:Nat) (hd:NB≤d) (x:V):ql (zk E) (zE d i x) c0:=by
 cases x<;>simp only [zE]<;>first
  |exact K4 E d hd _ i
  |exact ⟨c0,c0,qbk E hd _,rfl,rfl⟩
  |rfl
theorem qgK {E:Env} {σ:Sl} {tmps:Array Value} (h:zf E σ tmps):zf (zk E) (yC σ) tmps:=by
 have hget: ∀ (σ:Sl) t z,qy (yC σ) t=some z→ ∃ x,qy σ t=some x∧z=qI (NB+t) 0 true x:=by
  intro σ
  induction σ with
  |nil=>intro t z h;simp [yC,qy]at h
  |cons p r ih=>
   obtain ⟨u,x⟩:=p
   intro t z h
   simp only [yC,qy]at h ⊢
   split at h
   ·rename_i hu;subst hu
    simp only [Option.some.injEq]at h
    rw [if_pos rfl];exact ⟨x,rfl,h.symm⟩
   ·rename_i hu;rw [if_neg hu];exact ih t z h
 intro t z hz
 obtain ⟨x,hx,rfl⟩:=hget σ t z hz
 obtain ⟨y,h1,h2⟩:=h t x hx
 exact ⟨y,h1,ZQ E _ 0 true (fun _=>Nat.le_add_right _ _) x y c0 h2⟩
theorem qb7(E:Env): ∀ (σ:Sl),ql (zk E) (y5 σ) c0
 |[]=>rfl
 |(t,x)::r=>by
  simp only [y5]
  have:=yu (qb9 E (NB+t) 0 (Nat.le_add_right _ _) x) (qb7 E r)
  rwa [qT]at this
theorem qb8 {E:Env} (bx:List Key): ∀ {T:Mem} {c:Cnt},ql E T c→ ∃ c',ql (zk E) (z8 bx T) c'∧cle c' c
 |[],c,h=>⟨c,h,qJ _⟩
 |(k,e,xs)::r,c,h=>by
  obtain ⟨c1,c2,h1,h2,rfl⟩:=h
  obtain ⟨c3,h3,h4⟩:=qb8 bx h2
  simp only [z8]
  split
  ·exact ⟨c3,h3,z1 h4 (yd _ _)⟩
  ·rename_i hk
   have hom:ql (zk E) (jE (2*NB+k.1) (10*k.2) (yn k bx) xs) c0:=by
    unfold jE
    split
    ·split
     ·exact qb9 E _ _ (by omega) _
     ·rfl
    ·rfl
   have hob:yi (zk E) k (e,y4 (2*NB+k.1) (10*k.2) (yn k bx) xs) c1:=by
    rcases h1 with ⟨b,ents,clk,es,q1,q2,q3,q4,q5⟩|⟨⟨A,hA⟩,hn,hc⟩|⟨b,base,lim,cells,T,fz,c5,g1,g2,g3,g4,g5,g6,rfl⟩
    ·simp only at q4;subst q4
     refine .inl ⟨b,ents,clk,es,by simp only [zk,if_neg hk];exact q1,q2,q3, ?_,q5⟩
     simp [y4,qI,clE,clB]
    ·simp only at hn;subst hn
     refine .inr (.inl ⟨⟨A,by simp only [zk,if_neg hk];exact hA⟩, ?_,hc⟩)
     simp [y4,qx]
    ·have hlen:(y4 (2*NB+k.1) (10*k.2) (yn k bx) xs).length=xs.length:=by
      unfold y4
      split
      ·split
       ·rfl
       ·split<;>rfl
      ·split
       ·rfl
       ·exact K5 _ _ _ _
     refine .inr (.inr ⟨b,base,lim,cells,T,fz,c5,by simp only [zk,if_neg hk];exact g1,g2,g3,g4, ?_, ?_,rfl⟩)
     ·simp only at g5 ⊢;rw [hlen];exact g5
     ·simp only at g6 ⊢;rw [hlen];exact qgJ E _ _ _ (by omega) g6
   refine ⟨qg c1 c3, ?_,yM (qJ _) h4⟩
   have:=yu hom (show ql (zk E) ((k,e,y4 (2*NB+k.1) (10*k.2) (yn k bx) xs)::z8 bx r) (qg c1 c3)from ⟨c1,c3,hob,h3,rfl⟩)
   rwa [qT]at this
def xr(tb:List Key) (E:Env):Env:={E with μ:=fun k=>if k.1=CN then (tb[k.2]?).bind E.μ else E.μ k}
theorem qbE {k:Key}: ∀ {tb:List Key} {i j:Nat},kY k i tb=some j→i≤j∧tb[j - i]? =some k
 |[],i,j,h=>by simp [kY]at h
 |u::r,i,j,h=>by
  simp only [kY]at h
  split at h
  ·rename_i hu;simp only [Option.some.injEq]at h;subst h;subst hu;simp
  ·obtain ⟨h1,h2⟩:=qbE h
   refine ⟨by omega, ?_⟩
   rw [show j - i=(j - (i+1))+1 by omega]
   simpa using h2
theorem jK {tb:List Key} {E:Env} {k k':Key} {l:Loc} (h:yr tb k=some k') (hl:E.μ k=some l):(xr tb E).μ k'=some l:=by
 unfold yr at h
 split at h
 ·rename_i i hi
  simp only [Option.some.injEq]at h;subst h
  obtain ⟨-,h2⟩:=qbE hi
  simp only [Nat.sub_zero]at h2
  simp only [xr,if_true,h2,Option.bind_some,hl]
 ·split at h
  ·cases h
  ·rename_i hk
   simp only [Option.some.injEq]at h;subst h
   simp only [xr,if_neg hk,hl]
mutual
theorem Jy(tb:List Key) (E:Env): ∀ (x:V) (y:Value) (c:Cnt),Rel E x y c→Rel (xr tb E) (qL tb x) y c
 | .v x,y,c,h=>by simpa only [Rel,qL]using h
 | .p k a b,y,c,h=>by
   simp only [qL]
   simp only [Rel]at h
   obtain ⟨h0,b',base,e,lim,h1,h2⟩:=h
   split
   ·rename_i k' hk
    simp only [Rel]
    exact ⟨h0,b',base,e,lim,jK hk h1,h2⟩
   ·simp only [Rel];exact h0
 | .s k a b,y,c,h=>by
   simp only [qL]
   simp only [Rel]at h
   obtain ⟨h0,h⟩:=h
   split
   ·rename_i k' hk
    simp only [Rel]
    refine ⟨h0, ?_⟩
    rcases h with ⟨A,h1,h2⟩|⟨b',base,e,lim,cap,A,h1,h2⟩
    ·exact .inl ⟨A,jK hk h1,h2⟩
    ·exact .inr ⟨b',base,e,lim,cap,A,jK hk h1,h2⟩
   ·simp only [Rel];exact h0
 | .q τ xs a b,y,c,h=>by simp only [Rel,qL]at h ⊢;exact h
 | .i τ xs,y,c,h=>by simp only [Rel,qL]at h ⊢;exact h
 | .o e xs,y,c,h=>by simp only [Rel,qL]at h ⊢;exact h
 | .n e,y,c,h=>by simpa only [Rel,qL]using h
 | .b x,y,c,h=>by simp only [Rel,qL]at h ⊢;exact h
 | .f fn xs ys,y,c,h=>by
   simp only [Rel,qL]at h ⊢
   obtain ⟨fs,cs,c1,c2,hy,h1,h2,h3⟩:=h
   exact ⟨fs,cs,c1,c2,hy,Z0 tb E xs _ _ h1,Z0 tb E ys _ _ h2,h3⟩
 | .a xs,y,c,h=>by
   simp only [Rel,qL]at h ⊢
   obtain ⟨vs,hy,h⟩:=h
   exact ⟨vs,hy,Z0 tb E xs _ _ h⟩
 | .t xs,y,c,h=>by
   simp only [Rel,qL]at h ⊢
   obtain ⟨vs,hy,h⟩:=h
   exact ⟨vs,hy,Z0 tb E xs _ _ h⟩
 | .m k,y,c,h=>by
   simp only [qL]
   simp only [Rel]at h
   obtain ⟨h0,b',h1,h2⟩:=h
   split
   ·rename_i k' hk
    simp only [Rel]
    exact ⟨h0,b',jK hk h1,h2⟩
   ·simp only [Rel];exact h0
 | .w none es,y,c,h=>by simp only [Rel,qL]at h ⊢;exact h
 | .w (some _) es,y,c,h=>by simp only [Rel,qL]at h ⊢;exact h
 | .d,y,c,h=>by simpa only [Rel,qL]using h
theorem Z0(tb:List Key) (E:Env): ∀ (xs:List V) (ys:List Value) (c:Cnt),qi E xs ys c→qi (xr tb E) (zN tb xs) ys c
 |[],ys,c,h=>by simpa only [qi,zN]using h
 |x::xs,ys,c,h=>by
  simp only [qi,zN]at h ⊢
  obtain ⟨y,ys',c1,c2,hy,h1,h2,h3⟩:=h
  exact ⟨y,ys',c1,c2,hy,Jy tb E x _ _ h1,Z0 tb E xs _ _ h2,h3⟩
end
theorem Jx(tb:List Key): ∀ (xs:List V),(zN tb xs).length=xs.length
 |[]=>rfl
 |x::xs=>by simp only [zN,List.length_cons,Jx tb xs]
theorem qhS(tb:List Key) (x:V):(qL tb x).cells.length=x.cells.length:=by
 cases x<;>simp only [qL]<;>first
  |rfl
  |(split<;>rfl)
  |(simp only [V.cells,Jx])
theorem qdk(tb:List Key) (E:Env) {e:Nat}: ∀ (xs:List V) (ys:List Value) (c:Cnt),qj E e xs ys c→qj (xr tb E) e (zN tb xs) ys c
 |[],ys,c,h=>h
 |x::xs,ys,c,h=>by
  simp only [qj,zN]at h ⊢
  obtain ⟨y,ys',c1,c2,h1,h2,h3,h4,h5,h6,h7⟩:=h
  exact ⟨y,ys',c1,c2,h1,h2,by rw [qhS];exact h3,h4,Jy tb E _ _ _ h5,qdk tb E xs _ _ h6,h7⟩
theorem qhR {E:Env} (tb:List Key) {σ:Sl} {tmps:Array Value} (h:zf E σ tmps):zf (xr tb E) (ka tb σ) tmps:=by
 have hget: ∀ (σ:Sl) t z,qy (ka tb σ) t=some z→ ∃ x,qy σ t=some x∧z=qL tb x:=by
  intro σ
  induction σ with
  |nil=>intro t z h;simp [ka,qy]at h
  |cons p r ih=>
   obtain ⟨u,x⟩:=p
   intro t z h
   simp only [ka,qy]at h ⊢
   split at h
   ·rename_i hu;subst hu
    simp only [Option.some.injEq]at h
    rw [if_pos rfl];exact ⟨x,rfl,h.symm⟩
   ·rename_i hu;rw [if_neg hu];exact ih t z h
 intro t z hz
 obtain ⟨x,hx,rfl⟩:=hget σ t z hz
 obtain ⟨y,h1,h2⟩:=h t x hx
 exact ⟨y,h1,Jy tb E x y c0 h2⟩
theorem qdl {E:Env} (tb:List Key): ∀ {T:Mem} {c:Cnt},ql E T c→ ∃ c',ql (xr tb E) (xt tb T) c'∧cle c' c
 |[],c,h=>⟨c,h,qJ _⟩
 |(k,e,xs)::r,c,h=>by
  obtain ⟨c1,c2,h1,h2,rfl⟩:=h
  obtain ⟨c3,h3,h4⟩:=qdl tb h2
  simp only [xt]
  split
  ·rename_i k' hk
   have hob:yi (xr tb E) k' (e,if qx xs then xs else zN tb xs) c1:=by
    have hlen:(if qx xs then xs else zN tb xs).length=xs.length:=by
     split
     ·rfl
     ·exact Jx _ _
    rcases h1 with ⟨b,ents,clk,es,q1,q2,q3,q4,q5⟩|⟨⟨A,hA⟩,hn,hc⟩|⟨b,base,lim,cells,T,fz,c5,g1,g2,g3,g4,g5,g6,rfl⟩
    ·simp only at q4;subst q4
     exact .inl ⟨b,ents,clk,es,jK hk q1,q2,q3,by simp [qx,clE,clB],q5⟩
    ·simp only at hn;subst hn
     exact .inr (.inl ⟨⟨A,jK hk hA⟩,by simp [qx],hc⟩)
    ·refine .inr (.inr ⟨b,base,lim,cells,T,fz,c5,jK hk g1,g2,g3,g4, ?_, ?_,rfl⟩)
     ·simp only at g5 ⊢;rw [hlen];exact g5
     ·simp only at g6 ⊢;rw [hlen]
      split
      ·rename_i hc;exact Jp (E:=E) (E':=xr tb E) rfl g6 hc
      ·exact qdk tb E xs _ _ g6
   exact ⟨qg c1 c3,⟨c1,c3,hob,h3,rfl⟩,yM (qJ _) h4⟩
  ·exact ⟨c3,h3,z1 h4 (yd _ _)⟩
theorem qeG(n:Nat):Q8 (zg n):=by
 intro E T x y c1 c2 hT h
 unfold zg
 split
 ·rename_i hc;exact ⟨c1,c2,hT,Jv h hc,qJ _,rfl⟩
 ·exact j9 n E T x y c1 c2 hT h
theorem qeE {E:Env} {T:Mem} {c:Cnt} (k:Key) (h:ql E T c): ∃ c',ql E (jy T k) c'∧cle c' c:=by
 unfold jy
 split
 ·exact ⟨c,h,qJ _⟩
 ·rename_i ob hg
  split
  ·exact ⟨c,h,qJ _⟩
  ·obtain ⟨e,xs⟩:=ob
   obtain ⟨c1,c2,h1,h2,rfl⟩:=zG h hg
   rcases h1 with ⟨b,ents,clk,es,q1,q2,q3,q4,q5⟩|⟨⟨A,hA⟩,hn,rfl⟩|⟨b,base,lim,cells,Tt,fz,c5,g1,g2,g3,g4,g5,g6,rfl⟩
   ·rename_i hcl
    simp only at q4;subst q4
    simp [qx,clE,clB]at hcl
   ·simp only at hn;subst hn
    refine ⟨qg c0 c2,⟨c0,c2,.inr (.inl ⟨⟨A,hA⟩,by simp [qv],rfl⟩),by simpa [qv]using h2,rfl⟩,qJ _⟩
   ·obtain ⟨d1,d2,k1,k2,k3⟩:=Js (qeG 30) h2 g6
    have hlen:=Xs (zg 30) (qu T k) xs
    refine ⟨qg (qg (qw b) d2) d1,⟨qg (qw b) d2,d1,.inr (.inr ⟨b,base,lim,cells,Tt,fz,d2,g1,g2,g3,g4, ?_, ?_,rfl⟩),k1,rfl⟩, ?_⟩
    ·simp only at g5 ⊢;rw [hlen];exact g5
    ·simp only at g6 ⊢;rw [hlen];exact zM k2 (xm E d2)
    ·intro z;have:=k3 z;simp only [qg]at*;omega
theorem Kv {E:Env} (bx:List Key): ∀ (ks:List Key) {T:Mem} {c:Cnt},ql E T c→ ∃ c',ql E (xY bx ks T) c'∧cle c' c
 |[],T,c,h=>⟨c,h,qJ _⟩
 |k::ks,T,c,h=>by
  simp only [xY]
  split
  ·exact Kv bx ks h
  ·obtain ⟨c1,h1,h2⟩:=qeE k h
   obtain ⟨c3,h3,h4⟩:=Kv bx ks h1
   exact ⟨c3,h3,z1 h4 h2⟩
theorem qiA {E:Env} {T:Mem} {c:Cnt} (bx k0:List Key) (h:ql E T c): ∃ c',ql E (jM bx k0 T) c'∧cle c' c:=by
 unfold jM
 obtain ⟨c1,h1,h1'⟩:=Kv bx k0 h
 obtain ⟨c3,h3,h3'⟩:=X1 k0 h1
 exact ⟨c3,h3,z1 h3' h1'⟩
theorem qey {E:Env} {σ:Sl} {T:Mem} {tmps:Array Value} {c:Cnt} (n:Nat) (bx:List Key) (hσ:zf E σ tmps) (hT:ql E T c):
 ∃ E' c',E'.w=E.w∧E'.I=E.I∧(∀ k:Key,k.1 < CN→E'.μ k=E.μ k)∧zf E' (kT n bx σ T).σ tmps∧ql E' (kT n bx σ T).T c'∧cle c' c:=by
 obtain ⟨c1,h1,h1'⟩:=qb8 bx hT
 have h2:=yu (qb7 E σ) h1
 rw [qT]at h2
 obtain ⟨c4,h4,h4'⟩:=X1 (ym (yC σ)++yk (y5 σ++z8 bx T) bx) h2
 obtain ⟨c3,h3,h3'⟩:=qdl (y3 n (ym (yC σ)++yk (y5 σ++z8 bx T) bx)) h4
 refine ⟨xr (y3 n (ym (yC σ)++yk (y5 σ++z8 bx T) bx)) (zk E),c3,rfl,rfl, ?_,qhR _ (qgK hσ),h3,z1 h3' (z1 h4' h1')⟩
 intro k hk
 have e1: ¬ k.1=CN:=by omega
 have e2: ¬ NB≤k.1:=by unfold CN at hk;unfold NB;omega
 simp only [xr,if_neg e1,zk,if_neg e2]
theorem qcG {N:Nat} {E:Env} {st:St} {tmps:Array Value} {c:Cnt} (ls:List Nat) (ks:List Key) (hf:FRel N E st tmps c):
 ∃ E' c',E'.w=E.w∧E'.I=E.I∧(∀ k:Key,k.1 < CN→E'.μ k=E.μ k)∧FRel N E' (yH ls ks st) tmps c'∧cle c' c:=by
 obtain ⟨c1,h1,h1'⟩:=qiA (zZ (zd st.σ ls)) (ym (zd st.σ ls)++yk st.T (zZ (zd st.σ ls))) hf.T
 obtain ⟨E',c',hw,hI,hμ,hσ,hT,hle⟩:=qey (Zx ks) (zZ (zd st.σ ls)) (qdv hf.σ ls) h1
 have hle':=z1 hle h1'
 exact ⟨E',c',hw,hI,hμ,⟨hf.sz,hσ,hT,ku hw hI hle' hf.g⟩,hle'⟩
end Go.Vm
namespace Go.Vm
variable [Lay]
theorem qgY {N:Nat} {E:Env} {st:St} {tmps:Array Value} {c:Cnt} (d:Nat) (k:Key) (i:Nat) (hf:FRel N E st tmps c):
 ∃ E' c',E'.w=E.w∧E'.I=E.I∧(∀ k:Key,k.1 ≠ d→E'.μ k=E.μ k)∧FRel N E' (Qo d k i (qW d st)) tmps c'∧cle c' c:=by
 obtain ⟨c1,hσ1,hT1,hle1⟩:=ji d hf.σ hf.T
 have hself:FRel N (E.drop d) (qW d st) tmps c1:=⟨hf.sz,hσ1,hT1,(hf.g.drop d).le hle1⟩
 have hdrop: ∀ k:Key,k.1 ≠ d→(E.drop d).μ k=E.μ k:=(Z1 E d).hμ
 have hnone: ∃ E' c',E'.w=E.w∧E'.I=E.I∧(∀ k:Key,k.1 ≠ d→E'.μ k=E.μ k)∧FRel N E' (qW d st) tmps c'∧cle c' c:=
  ⟨E.drop d,c1,rfl,rfl,hdrop,hself,hle1⟩
 unfold Qo
 split
 case h_2=>exact hnone
 rename_i ob hg
 split
 case h_2=>exact hnone
 rename_i x hx
 obtain ⟨co,cr,hob,hrest,rfl⟩:=zG hT1 hg
 rcases hob with ⟨b,ents,clk,es,q1,q2,q3,q4,q5⟩|⟨⟨A0,hn1⟩,hn2,-⟩|⟨b,base,lim,cells,ty,fz,ce,hμ,hw,hl,hf',hs,hr,rfl⟩
 ·rw [q4]at hx
  have hi:i=0:=by
   cases i with
   |zero=>rfl
   |succ i=>simp at hx
  subst hi
  simp only [List.getElem?_cons_zero,Option.some.injEq]at hx
  subst hx
  have e1:(qF d 0 (.w (some true) es)).2.2=[]:=rfl
  have e2:(qF d 0 (.w (some true) es)).1= .w (some true) es:=rfl
  rw [e1,e2,q4]
  exact ⟨E.drop d,_,rfl,rfl,hdrop,⟨hf.sz,hσ1,⟨co,cr,.inl ⟨b,ents,clk,es,q1,q2,q3,rfl,q5⟩,hrest,rfl⟩,(hf.g.drop d).le hle1⟩,hle1⟩
 ·rw [hn2]at hx;simp at hx
 obtain ⟨yv,d0,d1,d2,e1,hs1,hl1,ho1,hr0,hr1,hr2,rfl⟩:=XN hr hx
 obtain ⟨E2,cO,hn,hzz,hTO,hleO⟩:=XC (d:=d) (j:=0) (fun i _=>xC E d i) hr1
 have hcl:=qcs d 0 x
 have hidx:i < ob.2.length:=(List.getElem?_eq_some_iff.1 hx).1
 have hR:=Jq hx (zM hr0 (hn.mono _)) hs1 (by rw [hcl];exact hl1) ho1 hzz (zM hr2 (hn.mono _))
 have hseg:(seg cells base (ob.2.length*ob.1)).take (i*ob.1)++yv.cells.toList++(seg cells base (ob.2.length*ob.1)).drop (i*ob.1+ob.1)=seg cells base (ob.2.length*ob.1):=by
  rw [← e1,List.append_assoc, ← List.drop_drop,List.take_append_drop,List.take_append_drop]
 rw [hseg]at hR
 have hO:yi E2 k (ob.1,ob.2.set i (qF d 0 x).1) (qg (qw b) (qg (qg d0 c0) d2)):=
  .inr (.inr ⟨b,base,lim,cells,ty,fz,_,hn.hμ _ _ hμ,by rw [hn.hw];exact hw,hl,hf',by simpa using hs,by simpa using hR,rfl⟩)
 have hTT:ql E2 ((qF d 0 x).2.2++((k,ob.1,ob.2.set i (qF d 0 x).1)::qu (qW d st).T k)) (qg cO (qg (qg (qw b) (qg (qg d0 c0) d2)) cr)):=
  yu hTO ⟨_,_,hO,zy hrest (hn.mono _),rfl⟩
 have hcle:cle (qg cO (qg (qg (qw b) (qg (qg d0 c0) d2)) cr)) c:=by
  intro z
  have q1:=hle1 z;have q2:=hleO z
  simp only [qg,c0]at*;omega
 exact ⟨E2,_,hn.hw,hn.hI,fun k hk=>by rw [hn.hout k (fun h=>hk h)];exact hdrop k hk,⟨hf.sz,yT hσ1 (hn.mono _),hTT,ku hn.hw hn.hI hcle (hf.g.drop d)⟩,hcle⟩
theorem Jb {N n:Nat}: ∀ (os:List (Nat × Key × Nat)) {E:Env} {st:St} {tmps:Array Value} {c:Cnt},(os.all fun o=>decide (n≤o.1))=true→FRel N E st tmps c→
 ∃ E' c',E'.w=E.w∧E'.I=E.I∧KN n E E'∧FRel N E' (x7 os st) tmps c'∧cle c' c
 |[],E,st,tmps,c,_,hf=>⟨E,c,rfl,rfl,xN,hf,qJ _⟩
 |(d,k,i)::os,E,st,tmps,c,ho,hf=>by
  simp only [List.all_cons,Bool.and_eq_true,decide_eq_true_eq]at ho
  obtain ⟨E1,c1,h1,h2,h3,h4,h5⟩:=qgY d k i hf
  obtain ⟨E2,c2,g1,g2,g3,g4,g5⟩:=Jb os ho.2 h4
  exact ⟨E2,c2,g1.trans h1,g2.trans h2,KN.trans (fun k hk=>h3 k (by omega)) g3,g4,z1 g5 h5⟩
theorem qeV(n:Nat) (σ:Sl) (d r:Nat) (i:Option Nat) (h:n≤d):((kr σ d r i).all fun o=>decide (n≤o.1))=true:=by
 unfold kr
 split
 ·simp [h]
 ·split
  ·split
   ·simp [h]
   ·rfl
  ·rfl
 ·rfl
theorem qcr {N n:Nat}: ∀ (os:List (Nat × Nat × Option Nat)) {E:Env} {st:St} {tmps:Array Value} {c:Cnt},(os.all fun o=>decide (n≤o.1))=true→FRel N E st tmps c→
 ∃ E' c',E'.w=E.w∧E'.I=E.I∧KN n E E'∧FRel N E' (ja os st) tmps c'∧cle c' c
 |[],E,st,tmps,c,_,hf=>⟨E,c,rfl,rfl,xN,hf,qJ _⟩
 |(d,r,i)::os,E,st,tmps,c,ho,hf=>by
  simp only [List.all_cons,Bool.and_eq_true,decide_eq_true_eq]at ho
  obtain ⟨E1,c1,h1,h2,h3,h4,h5⟩:=Jb (kr st.σ d r i) (qeV n st.σ d r i ho.1) hf
  obtain ⟨E2,c2,g1,g2,g3,g4,g5⟩:=qcr os ho.2 h4
  exact ⟨E2,c2,g1.trans h1,g2.trans h2,KN.trans h3 g3,g4,z1 g5 h5⟩
end Go.Vm
namespace Go.Vm
variable [Lay]
section
variable (P:Program) (N n:Nat)
def trC:Code→AC→Option AC
 |code,.opn os hx=>match trC code hx with
  |some x'=>if (os.all fun o=>decide (n≤o.1))=true then some (.opn os x')else none
  |none=>none
 |code,.opd os hx=>match trC code hx with
  |some x'=>if (os.all fun o=>decide (n≤o.1))=true then some (.opd os x')else none
  |none=>none
 |code,.nam ls ks hx=>match trC code hx with
  |some x'=>if n≤CN then some (.nam ls ks x')else none
  |none=>none
 |code,.keep ls hx=>match trC code hx with
  |some x'=>some (.keep ls x')
  |none=>none
 | .skip,.skip=>some .skip
 | .ret,.ret=>some .ret
 | .exit id,.exit _=>some (.exit id)
 | .region _ ops false,.reg hs=>(yK P N n ops ops.toList hs).map .reg
 | .region _ ops true,.dreg plan hs=>match yK P N n ops ops.toList hs with
   |some is=>if dOk P n ops plan hs is then some (.dreg plan is)else none
   |none=>none
 | .seq x y,.seq hx hy=>match trC x hx,trC y hy with
   |some x',some y'=>some (.seq x' y')
   |_,_=>none
 | .cond c x y,.cond hc hx hy=>match trO c hc,trC x hx,trC y hy with
   |some c',some x',some y'=>some (.cond c' x' y')
   |_,_,_=>none
 | .block id x,.block _ hx=>match trC x hx with
   |some x'=>some (.block id x')
   |none=>none
 | .loop x,.loop ls ks hx=>match trC x hx with
   |some x'=>if n≤CN then some (.loop ls ks x')else none
   |none=>none
 |_,_=>none
end
section
variable {P:Program} {N n:Nat} {E:Env} {c:Cnt} {st st':St} {a:Act} {call:qM}
theorem Adv.seq {E E' E'':Env} {c c' c'':Cnt} (h:Adv E c E' c') (h':Adv E' c' E'' c''):Adv E c E'' c'':=h.trans h'
theorem qaD(hC:xz P call) (ops:Array Oper) {Q:Exit→Act→World→Prop}: ∀ (os:List Oper) (k:Nat) (hs is:List AI) (st:St) (a:Act) (E:Env) (c:Cnt),
 ops.toList.drop k=os→yK P N n ops os hs=some is→zX call is st=some st'→FRel N E st a.tmps c→(∀ a' E' c',FRel N E' st' a'.tmps c'→a'.defers=a.defers→KN n E E'→Adv E c E' c'→Q .normal a' E'.w)→
 wpOps P ops Q (List.range' k os.length) a E.w
 |[],k,hs,is,st,a,E,c,hd,ht,hr,hf,hQ=>by
  cases hs with
  |cons=>simp [yK]at ht
  |nil=>
   simp only [yK,Option.some.injEq]at ht;subst ht
   simp only [zX,Option.some.injEq]at hr;subst hr
   simp only [List.length_nil,List.range'_zero,wpOps]
   exact hQ a E c hf rfl xN (kg _ _)
 |o::os,k,hs,is,st,a,E,c,hd,ht,hr,hf,hQ=>by
  cases hs with
  |nil=>simp [yK]at ht
  |cons h hs=>
   simp only [yK]at ht
   split at ht
   case h_2=>cases ht
   rename_i i is' h1 h2
   simp only [Option.some.injEq]at ht;subst ht
   simp only [zX]at hr
   split at hr
   case h_2=>cases hr
   rename_i st1 hst1
   have hk:ops[k]? =some o:=by
    have:(ops.toList.drop k)[0]? =some o:=by rw [hd];rfl
    simpa using this
   have hd':ops.toList.drop (k+1)=os:=by
    rw [← List.drop_drop,hd];rfl
   simp only [List.length_cons,List.range'_succ,wpOps,hk]
   refine qdU hC h1 hst1 hf ?_
   intro y E' c' hF hkn hkp hA
   refine qaD hC ops os (k+1) hs is' st1 (a.put o.dst y) E' c' hd' h2 hr hF ?_
   intro a'' E'' c'' hF' hdf' hkn' hA'
   exact hQ a'' E'' c'' hF' (hdf'.trans (qcH _ _ _)) (hkn.trans hkn') (hA.seq hA')
def xOf:AX→Exit
 | .normal=> .normal
 | .exit id=> .exit id
 | .ret=> .ret
def xM(n N:Nat) (E:Env) (c:Cnt) (st':St) (a:Act) (x:AX):Exit→Act→World→Prop:=
 fun e a' w'=>e=xOf x∧a'.defers=a.defers∧ ∃ E' c',E'.w=w'∧FRel N E' st' a'.tmps c'∧KN n E E'∧Adv E c E' c'
theorem xM.then {E E':Env} {c c':Cnt} {a a':Act} {x:AX} {e:Exit} {a'':Act} {w:World} (h:xM n N E' c' st' a' x e a'' w) (hd:a'.defers=a.defers) (hk:KN n E E') (hA:Adv E c E' c'):
 xM n N E c st' a x e a'' w:=by
 obtain ⟨h1,h2,E'',c'',h3,h4,h5,h6⟩:=h
 exact ⟨h1,h2.trans hd,E'',c'',h3,h4,hk.trans h5,hA.seq h6⟩
theorem qax(hC:xz P call): ∀ (f:Nat),
 (∀ (code:Code) (h ac:AC) (st st':St) (x:AX),trC P N n code h=some ac→qq call f ac st=some (x,st')→
  ∀ (a:Act) (E:Env) (c:Cnt),FRel N E st a.tmps c→code.wp P (xM n N E c st' a x) a E.w)∧
 (∀ (body:Code) (ls:List Nat) (ks:List Key) (h ac:AC) (st st':St) (x:AX),n≤CN→trC P N n body h=some ac→qq call f (.loop ls ks ac) st=some (x,st')→
  ∀ (a:Act) (E:Env) (c:Cnt),FRel N E st a.tmps c→Code.rounds P body (xM n N E c st' a x) f a E.w)
 |0=>⟨fun code h ac st st' x ht hr=>by simp [qq]at hr,fun body ls ks h ac st st' x hn ht hr=>by simp [qq]at hr⟩
 |f+1=>by
  have IH:=qax hC f
  have hloop: ∀ (body:Code) (ls:List Nat) (ks:List Key) (h ac:AC) (st st':St) (x:AX),n≤CN→trC P N n body h=some ac→qq call (f+1) (.loop ls ks ac) st=some (x,st')→
   ∀ (a:Act) (E:Env) (c:Cnt),FRel N E st a.tmps c→Code.rounds P body (xM n N E c st' a x) (f+1) a E.w:=by
   intro body ls ks h ac st st' x hn ht hr a E0 c hf
   rw [rounds_succ]
   simp only [qq]at hr
   obtain ⟨E,c1,hw0,hI0,hμ0,hp,hle⟩:=qcG (tmps:=a.tmps) ls ks hf
   have hA0:Adv E0 c E c1:=xQ hw0 hI0 hle
   have hk0:KN n E0 E:=fun k hk=>hμ0 k (by omega)
   rw [← hw0]
   split at hr
   ·rename_i st1 h1
    refine wp_mono (IH.1 _ _ _ _ _ _ ht h1 a E c1 hp) ?_
    rintro e a' w' ⟨rfl,hdf,E',c',rfl,hF,hk,hA⟩
    simp only [xOf,Exit.then]
    have:=IH.2 body ls ks h ac st1 st' x hn ht hr a' E' c' hF
    have hmono: ∀ (m:Nat) (a1:Act) (w1:World),Code.rounds P body (xM n N E' c' st' a' x) m a1 w1→Code.rounds P body (xM n N E0 c st' a x) m a1 w1:=by
     intro m
     induction m with
     |zero=>intro a1 w1 h;exact h.elim
     |succ m ih=>
      intro a1 w1 h
      rw [rounds_succ]at h ⊢
      refine wp_mono h ?_
      intro e a2 w2 hq
      cases e<;>simp only [Exit.then]at hq ⊢ <;>(first|exact ih _ _ hq|exact hq.then hdf (hk0.trans hk) (hA0.seq hA))
    exact hmono _ _ _ this
   ·rename_i r hnn
    have hb:=IH.1 _ _ _ _ _ _ ht hr a E c1 hp
    refine wp_mono hb ?_
    rintro e a' w' ⟨rfl,hdf,E',c',rfl,hF,hk,hA⟩
    have hx:x ≠ .normal:=by rintro rfl;exact hnn _ hr
    cases x with
    |normal=>exact absurd rfl hx
    |exit id=>exact ⟨rfl,hdf,E',c',rfl,hF,hk0.trans hk,hA0.seq hA⟩
    |ret=>exact ⟨rfl,hdf,E',c',rfl,hF,hk0.trans hk,hA0.seq hA⟩
  refine ⟨?_,hloop⟩
  intro code h ac st st' x ht hr a E c hf
  have hself:xM n N E c st a .normal .normal a E.w:=⟨rfl,rfl,E,c,rfl,hf,xN,kg _ _⟩
  unfold trC at ht
  split at ht
  ·rename_i os hx
   split at ht
   case h_2=>cases ht
   rename_i x' h1
   split at ht
   case isFalse=>cases ht
   rename_i ho
   simp only [Option.some.injEq]at ht;subst ht
   simp only [qq]at hr
   obtain ⟨E1,c1,hw0,hI0,hk0,hF,hle⟩:=Jb (n:=n) os ho hf
   rw [← hw0]
   refine wp_mono (IH.1 _ _ _ _ _ _ h1 hr a E1 c1 hF) ?_
   intro e a' w' hq
   exact hq.then rfl hk0 (xQ hw0 hI0 hle)
  ·rename_i os hx
   split at ht
   case h_2=>cases ht
   rename_i x' h1
   split at ht
   case isFalse=>cases ht
   rename_i ho
   simp only [Option.some.injEq]at ht;subst ht
   simp only [qq]at hr
   obtain ⟨E1,c1,hw0,hI0,hk0,hF,hle⟩:=qcr (n:=n) os ho hf
   rw [← hw0]
   refine wp_mono (IH.1 _ _ _ _ _ _ h1 hr a E1 c1 hF) ?_
   intro e a' w' hq
   exact hq.then rfl hk0 (xQ hw0 hI0 hle)
  ·rename_i ls ks hx
   split at ht
   case h_2=>cases ht
   rename_i x' h1
   split at ht
   case isFalse=>cases ht
   rename_i ho
   simp only [Option.some.injEq]at ht;subst ht
   simp only [qq]at hr
   obtain ⟨E1,c1,hw0,hI0,hk0,hF,hle⟩:=qcG (tmps:=a.tmps) ls ks hf
   rw [← hw0]
   refine wp_mono (IH.1 _ _ _ _ _ _ h1 hr a E1 c1 hF) ?_
   intro e a' w' hq
   exact hq.then rfl (fun k hk=>hk0 k (by omega)) (xQ hw0 hI0 hle)
  ·split at ht
   case h_2=>cases ht
   rename_i x' h1
   simp only [Option.some.injEq]at ht;subst ht
   simp only [qq]at hr
   exact IH.1 _ _ _ _ _ _ h1 hr a E c ⟨hf.sz,qdv hf.σ _,hf.T,hf.g⟩
  ·simp only [Option.some.injEq]at ht;subst ht
   simp only [qq,Option.some.injEq,Prod.mk.injEq]at hr
   obtain ⟨rfl,rfl⟩:=hr
   exact wp_skip hself
  ·simp only [Option.some.injEq]at ht;subst ht
   simp only [qq,Option.some.injEq,Prod.mk.injEq]at hr
   obtain ⟨rfl,rfl⟩:=hr
   exact wp_ret ⟨rfl,rfl,E,c,rfl,hf,xN,kg _ _⟩
  ·simp only [Option.some.injEq]at ht;subst ht
   simp only [qq,Option.some.injEq,Prod.mk.injEq]at hr
   obtain ⟨rfl,rfl⟩:=hr
   exact wp_exit ⟨rfl,rfl,E,c,rfl,hf,xN,kg _ _⟩
  ·rename_i id ops hs
   rw [Option.map_eq_some_iff]at ht
   obtain ⟨is,h1,rfl⟩:=ht
   simp only [qq,Option.map_eq_some_iff,Prod.mk.injEq]at hr
   obtain ⟨st1,h2,rfl,rfl⟩:=hr
   refine wp_region ?_
   have:=qaD (Q:=xM n N E c st1 a .normal) hC ops ops.toList 0 hs is st a E c rfl h1 h2 hf ?_
   ·rw [Array.length_toList, ← List.range_eq_range']at this
    exact this
   ·intro a' E' c' hF hdf hk hA
    exact ⟨rfl,hdf,E',c',rfl,hF,hk,hA⟩
  ·rename_i id ops plan hs
   split at ht
   case h_2=>cases ht
   rename_i is h1
   split at ht
   case isFalse=>cases ht
   rename_i hk
   simp only [Option.some.injEq]at ht;subst ht
   simp only [qq]at hr
   split at hr
   case h_2=>cases hr
   rename_i st1 h2
   split at hr
   case isFalse=>cases hr
   rename_i hnd
   simp only [Option.some.injEq,Prod.mk.injEq]at hr
   obtain ⟨rfl,rfl⟩:=hr
   exact qeT hC hk h1 h2 hnd hf fun a' E' c' hF hdf hk hA=>⟨rfl,hdf,E',c',rfl,hF,hk,hA⟩
  ·rename_i cx cy hx hy
   split at ht
   case h_2=>cases ht
   rename_i x' y' h1 h2
   simp only [Option.some.injEq]at ht;subst ht
   simp only [qq]at hr
   refine wp_seq ?_
   split at hr
   ·rename_i st1 h3
    refine wp_mono (IH.1 _ _ _ _ _ _ h1 h3 a E c hf) ?_
    rintro e a' w' ⟨rfl,hdf,E',c',rfl,hF,hk,hA⟩
    simp only [xOf,Exit.then]
    exact wp_mono (IH.1 _ _ _ _ _ _ h2 hr a' E' c' hF) fun e a2 w2 hq=>hq.then hdf hk hA
   ·rename_i r hnn
    refine wp_mono (IH.1 _ _ _ _ _ _ h1 hr a E c hf) ?_
    intro e a' w' hq
    have hx:x ≠ .normal:=by rintro rfl;exact hnn _ hr
    have he:=hq.1
    cases x with
    |normal=>exact absurd rfl hx
    |exit id=>subst he;exact hq
    |ret=>subst he;exact hq
  ·rename_i cc cx cy hc hx hy
   split at ht
   case h_2=>cases ht
   rename_i c' x' y' h0 h1 h2
   simp only [Option.some.injEq]at ht;subst ht
   simp only [qq]at hr
   split at hr
   ·rename_i hb
    have:=qB hf.σ h0 hb
    simp only [Rel]at this
    exact wp_cond_true this.1 (IH.1 _ _ _ _ _ _ h1 hr a E c hf)
   ·rename_i hb
    have:=qB hf.σ h0 hb
    simp only [Rel]at this
    exact wp_cond_false this.1 (IH.1 _ _ _ _ _ _ h2 hr a E c hf)
   ·cases hr
  ·rename_i id cx id' hx
   split at ht
   case h_2=>cases ht
   rename_i x' h1
   simp only [Option.some.injEq]at ht;subst ht
   simp only [qq]at hr
   refine wp_block ?_
   split at hr
   ·rename_i id2 st1 h3
    refine wp_mono (IH.1 _ _ _ _ _ _ h1 h3 a E c hf) ?_
    rintro e a' w' ⟨rfl,hdf,E',c',rfl,hF,hk,hA⟩
    simp only [xOf,Exit.inBlock]
    split at hr
    ·rename_i he
     simp only [Option.some.injEq,Prod.mk.injEq]at hr
     obtain ⟨rfl,rfl⟩:=hr
     rw [if_pos he]
     exact ⟨rfl,hdf,E',c',rfl,hF,hk,hA⟩
    ·rename_i he
     simp only [Option.some.injEq,Prod.mk.injEq]at hr
     obtain ⟨rfl,rfl⟩:=hr
     rw [if_neg he]
     exact ⟨rfl,hdf,E',c',rfl,hF,hk,hA⟩
   ·rename_i r hnn
    refine wp_mono (IH.1 _ _ _ _ _ _ h1 hr a E c hf) ?_
    intro e a' w' hq
    have he:=hq.1
    cases x with
    |normal=>subst he;exact hq
    |exit id=>exact absurd hr (hnn _ _)
    |ret=>subst he;exact hq
  ·rename_i cx ls ks hx
   split at ht
   case h_2=>cases ht
   rename_i x' h1
   split at ht
   case isFalse=>cases ht
   rename_i hn
   simp only [Option.some.injEq]at ht;subst ht
   exact wp_loop_rounds (f+1) (hloop cx ls ks hx x' st st' x hn h1 hr a E c hf)
  ·cases ht
end
end Go.Vm
namespace Go.Vm
variable [Lay]
def xb(P:Program):List ResultVar→Option (List AR)
 |[]=>some []
 | .tmp t::r=>(xb P r).map (.tmp t:: ·)
 | .cell a t::r=>yS (xy P t) (xb P r) fun q rs=> .cell a q.1 q.2::rs
def qA(P:Program) (fn:Func) (h:AF):Option AF:=
 match fn.body with
 |some code=>match trC P fn.ntmps h.nargs code h.body,xb P fn.results.toList with
  |some b,some rs=>if decide (h.nargs≤fn.ntmps)&&fn.name != "runtime.NumGoroutine" then some {nargs:=h.nargs,ntmps:=fn.ntmps,res:=rs,body:=b} else none
  |_,_=>none
 |none=>none
def jt(P:Program) (prog:Nat→Option AE):Prop:=
 ∀ f e,prog f=some e→match e with
  | .fn af=> ∃ fn h,P.funcs[f]? =some fn∧qA P fn h=some af
  | .prim g=> ∀ args r outs,g args=some (r,outs)→jZ P f args r outs
section
variable {P:Program} {N n:Nat} {E:Env} {c:Cnt} {st st':St} {a:Act} {call:qM}
theorem qct: ∀ (xs:List V) (i:Nat) (E:Env) (vs:List Value) (c:Cnt),(∀ k:Key,i≤k.1→E.μ k=none)→qi E xs vs c→
 ∃ E' c',E'.w=E.w∧E'.I=E.I∧(∀ k l,E.μ k=some l→E'.μ k=some l)∧(∀ k:Key,i+xs.length≤k.1→E'.μ k=none)∧
  qi E' (qV i xs).1 vs c0∧ql E' (qV i xs).2 c'∧cle c' c
 |[],i,E,vs,c,hf,h=>by
  simp only [qi]at h
  exact ⟨E,c0,rfl,rfl,fun _ _ h=>h,fun k hk=>hf k (by simpa using hk),by simp only [qV,qi];exact ⟨h.1,trivial⟩,rfl,fun _=>Nat.zero_le _⟩
 |x::xs,i,E,vs,c,hf,h=>by
  simp only [qi]at h
  obtain ⟨y,t,c1,c2,rfl,h1,h2,rfl⟩:=h
  obtain ⟨E1,d1,j',hn,hr1,ht1,hl1⟩:=Ja (d:=i) (fun j=>hf (i,j) (Nat.le_refl _)) h1
  obtain ⟨E2,d2,hw2,hI2,hμ2,hfree2,hr2,ht2,hl2⟩:=qct xs (i+1) E1 t c2 (fun k hk=>by rw [hn.hout k (by omega)];exact hf k (by omega)) (yf h2 (hn.mono _))
  have hm: ∀ c,Mono E1 E2 c:=fun c=>⟨fun τ b hb=>⟨by rw [hI2];exact hb,by rw [hw2]⟩,fun b _=>by rw [hw2],hμ2⟩
  refine ⟨E2,qg d1 d2,hw2.trans hn.hw,hI2.trans hn.hI,fun k l hk=>hμ2 k l (hn.hμ k l hk),fun k hk=>hfree2 k (by simp only [List.length_cons]at hk;omega), ?_, ?_,yM hl1 hl2⟩
  ·simp only [qV,qi]
   exact ⟨y,t,c0,c0,rfl,zQ hr1 (hm _),hr2,rfl⟩
  ·simp only [qV]
   exact yu (zy ht1 (hm _)) ht2
theorem qby: ∀ (xs:List V) (i t:Nat) (x:V),qy (yg i xs) t=some x→ ∃ j,t=i+j∧xs[j]? =some x
 |[],i,t,x,h=>by simp [yg,qy]at h
 |y::ys,i,t,x,h=>by
  simp only [yg,qy]at h
  split at h
  ·rename_i he;subst he
   exact ⟨0,rfl,by simpa using h⟩
  ·obtain ⟨j,h1,h2⟩:=qby ys (i+1) t x h
   exact ⟨j+1,by omega,by simpa using h2⟩
theorem qh4 {xs:List V} {vs:List Value} {rest:Array Value} (h:qi E xs vs c0):zf E (yg 0 xs) (vs.toArray++rest):=by
 intro t x hx
 obtain ⟨j,rfl,hj⟩:=qby xs 0 t x hx
 obtain ⟨y,c1,c2,hy,hr,hc,-⟩:=XI h hj
 have h0:c1=c0:=funext fun b=>by have:=congrFun hc b;simp only [c0,qg]at this ⊢;omega
 subst h0
 have hlt:j < vs.length:=(List.getElem?_eq_some_iff.1 hy).1
 refine ⟨y, ?_,hr⟩
 rw [Nat.zero_add,Array.getElem?_append_left (by simpa using hlt)]
 simpa using hy
theorem qhU {r:ResultVar} {x:V} {T T':Mem} {tmps:Array Value} {ar:AR} {cT:Cnt} (hr:xb P [r]=some [ar]) (hσ:zf E st.σ tmps) (hT:ql E T cT) (h:kb {σ:=st.σ,T:=T} ar=some (x,T')):
 ∃ v d1 d2,((match r with
  | .tmp t=>pure (tmps.getD t undef)
  | .cell a t=>do loadVar t (← asAddr (tmps.getD a undef))):Sem Value).run P E.w= .ok v E.w∧Rel E x v d1∧ql E T' d2∧cle (qg d1 d2) cT:=by
 cases r with
 |tmp t=>
  simp only [xb,Option.map_some,Option.some.injEq,List.cons.injEq,and_true]at hr
  subst hr
  simp only [kb,Option.map_eq_some_iff,Prod.mk.injEq]at h
  obtain ⟨y,hy,rfl,rfl⟩:=h
  obtain ⟨v,hv,hrv⟩:=hσ _ _ hy
  refine ⟨v,c0,cT, ?_,hrv,hT,by rw [qT];exact qJ _⟩
  simp only [Sem.run_pure,Array.getD_eq_getD_getElem?,hv,Option.getD_some]
 |cell a t=>
  simp only [xb]at hr
  obtain ⟨q,rs,hq,hrs,he⟩:=x8 hr
  simp only [Option.some.injEq]at hrs
  subst hrs
  simp only [List.cons.injEq,and_true]at he
  subst he
  simp only [kb]at h
  split at h
  case h_2=>cases h
  rename_i k hk
  split at h
  case h_2=>cases h
  rename_i e0 xe hg
  rw [Option.bind_eq_some_iff]at h
  obtain ⟨y,hy,h⟩:=h
  split at h
  case isFalse=>cases h
  rename_i hlen
  simp only [Option.some.injEq,Prod.mk.injEq]at h
  obtain ⟨rfl,rfl⟩:=h
  obtain ⟨v,hv,hrv⟩:=hσ _ _ hk
  simp only [Rel]at hrv
  obtain ⟨-,b',base',e',yQ,hμ',rfl⟩:=hrv
  obtain ⟨co,cr,hob,hrest,rfl⟩:=zG hT hg
  rcases hob with ⟨_,_,_,_,hn1,-⟩|⟨-,hn1,-⟩|⟨b,base,lim,cells,ty,fz,ce,hμ,hw,hl,hf,hs,hr',rfl⟩
  ·rw [hn1]at hμ';cases hμ'
  ·cases hn1
  rw [hμ]at hμ';cases hμ'
  simp only [List.length_singleton,Nat.one_mul]at hs hr'
  obtain ⟨u,hu,hus,hul,huo,hR⟩:=ZY hr'
  obtain ⟨vz,f0,f1,f2,hz,hzl,hzle,hzc,hz0,hz2,rfl,hzT,hzF⟩:=qbV hR (by rw [hul,hus]) huo hy
  have haddr:tmps.getD a undef= .pointer (some ⟨b',base',none⟩):=by
   simp only [Array.getD_eq_getD_getElem?,hv,Option.getD_some]
   simp
  unfold xy at hq
  split at hq
  case h_2=>cases hq
  rename_i dd i hud hi
  simp only [Option.some.injEq]at hq;subst hq
  refine ⟨vz,f1,cr, ?_,hz,hrest,fun z=>by simp only [qg];omega⟩
  simp only [haddr,asAddr,Sem.run_bind,Sem.run_pure,Result.andThen_ok]
  have hrun:=JC (P:=P) (w:=E.w) (t:=t) (o:=base') hud hi hw
  cases hag:kR dd with
  |true=>
   obtain ⟨q1,q2⟩:=hzT hag
   have hsz:u.cells.size=i.size:=by omega
   rw [q2]
   have e2:u.cells.toList.take i.size=seg cells base' i.size:=by
    rw [← hu,qdA];congr 1;omega
   simp only [List.drop_zero,e2]
   exact hrun.1 hag (by omega)
  |false=>
   have q1:=hzF hag
   have h8:(seg cells base' e0)[0]? =some vz:=by rw [hu];simpa using q1
   exact hrun.2 hag vz (by simpa using jf h8)
theorem qdn {tmps:Array Value} (hσ:zf E st.σ tmps): ∀ {rs:List ResultVar} {ars:List AR} {T T':Mem} {xs:List V} {cT:Cnt},xb P rs=some ars→ql E T cT→y8 st.σ T ars=some (xs,T')→
 ∃ vs d1 d2,(rs.mapM fun
  | .tmp t=>pure (tmps.getD t undef)
  | .cell a t=>do loadVar t (← asAddr (tmps.getD a undef)):Sem (List Value)).run P E.w= .ok vs E.w∧qi E xs vs d1∧ql E T' d2∧cle (qg d1 d2) cT
 |[],ars,T,T',xs,cT,hr,hT,h=>by
  simp only [xb,Option.some.injEq]at hr;subst hr
  simp only [y8,Option.some.injEq,Prod.mk.injEq]at h
  obtain ⟨rfl,rfl⟩:=h
  exact ⟨[],c0,cT,by simp,by simp [qi],hT,by rw [qT];exact qJ _⟩
 |r::rs,ars,T,T',xs,cT,hr,hT,h=>by
  have hsplit: ∃ ar ars',ars=ar::ars'∧xb P [r]=some [ar]∧xb P rs=some ars':=by
   cases r with
   |tmp t=>
    simp only [xb,Option.map_eq_some_iff]at hr
    obtain ⟨q,h1,rfl⟩:=hr
    exact ⟨_,_,rfl,rfl,h1⟩
   |cell a t=>
    simp only [xb]at hr
    obtain ⟨q,qs,h1,h2,rfl⟩:=x8 hr
    exact ⟨_,_,rfl,by simp [xb,yS,h1],h2⟩
  obtain ⟨ar,ars',rfl,h1,h2⟩:=hsplit
  simp only [y8]at h
  split at h
  case h_2=>cases h
  rename_i x T1 hx
  split at h
  case h_2=>cases h
  rename_i xs' T2 hxs
  simp only [Option.some.injEq,Prod.mk.injEq]at h
  obtain ⟨rfl,rfl⟩:=h
  obtain ⟨v,d1,d2,g1,g2,g3,g4⟩:=qhU h1 hσ hT hx
  obtain ⟨vs,e1,e2,k1,k2,k3,k4⟩:=qdn hσ h2 g3 hxs
  refine ⟨v::vs,qg d1 e1,e2, ?_, ?_,k3,fun b=>by have:=g4 b;have:=k4 b;simp only [qg]at*;omega⟩
  ·rw [List.mapM_cons,Sem.run_bind,g1,Result.andThen_ok,Sem.run_bind,k1,Result.andThen_ok]
   rfl
  ·simp only [qi];exact ⟨v,vs,d1,e1,rfl,g2,k2,rfl⟩
theorem qgT {xs:List V} {vs:List Value} (h:qi E xs vs c):Rel E (xo xs) (if h:vs.toArray.size=1 then vs.toArray[0]else .tuple vs.toArray) c:=by
 have hl:=ye h
 match xs,vs,hl,h with
 |[x],[v],_,h=>
  obtain ⟨y,h1,h2⟩:=ZW h
  simp only [List.cons.injEq,and_true]at h1;subst h1
  simpa [xo]using h2
 |[],[],_,h=>
  simp only [qi]at h
  simp [xo,Rel,qi,h.2]
 |x::y::xs,v::u::vs,_,h=>
  simp only [xo]
  rw [dif_neg (by simp)]
  simp only [Rel]
  exact ⟨_,rfl,by simpa using h⟩
theorem qhZ {g:ResultVar→Sem Value} {l:Array ResultVar} {w:World} {vs:List Value} (h:(l.toList.mapM g).run P w= .ok vs w):(l.mapM g).run P w= .ok vs.toArray w:=by
 rw [Array.mapM_eq_mapM_toList]
 simp only [map_eq_pure_bind,Sem.run_bind,h,Result.andThen_ok,Sem.run_pure]
theorem qau {prog:Nat→Option AE} (hK:jt P prog): ∀ n,xz P (qX prog n)
 |0=>fun f xs r outs h=>by simp [qX]at h
 |n+1=>by
  have IH:=qau hK n
  intro f xs r outs h
  simp only [qX]at h
  split at h
  ·rename_i g hg
   have:=hK f _ hg
   exact this xs r outs h
  ·rename_i af haf
   obtain ⟨fn,hh,hfn,htr⟩:=hK f _ haf
   split at h
   case isFalse=>cases h
   rename_i hlen
   unfold qA at htr
   split at htr
   case h_2=>cases htr
   rename_i code hcode
   split at htr
   case h_2=>cases htr
   rename_i b rs hb hrs
   split at htr
   case isFalse=>cases htr
   rename_i hcond
   simp only [Bool.and_eq_true,decide_eq_true_eq,bne_iff_ne,ne_eq]at hcond
   obtain ⟨hnt,hname⟩:=hcond
   simp only [Option.some.injEq]at htr;subst htr
   simp only at hlen h
   intro E vs c hxs hg
   have hcf:(callFunc f vs.toArray).run P E.w= .ok (.enter f vs.toArray) E.w:=by
    have hne:(fn.name== "runtime.NumGoroutine")=false:=by simpa using hname
    simp [callFunc,hfn,hname,hcode]
   rw [hcf]
   refine ⟨rfl, ?_⟩
   obtain ⟨E0,c1,hw0,hI0,-,hfree,hxs0,hT0,hle0⟩:=qct xs 0 E.cl vs c (fun k _=>rfl) hxs
   rw [Nat.zero_add]at hfree
   have hvl:=ye hxs
   have hg0:Good E0 c1:=ku (E:=E) hw0 hI0 hle0 hg
   have hsz:(vs.toArray++Array.replicate (fn.ntmps - vs.toArray.size) undef).size=fn.ntmps:=by
    simp only [Array.size_append,List.size_toArray,Array.size_replicate];omega
   have hF:FRel fn.ntmps E0 {σ:=yg 0 (qV 0 xs).1,T:=(qV 0 xs).2} (vs.toArray++Array.replicate (fn.ntmps - vs.toArray.size) undef) c1:=
    ⟨hsz,qh4 hxs0,hT0,hg0⟩
   have hA0:Adv E c E0 c1:=xQ hw0 hI0 hle0
   have hfin: ∀ (x:AX) (st:St),(x= .normal∨x= .ret)→qq (qX prog n) n b {σ:=yg 0 (qV 0 xs).1,T:=(qV 0 xs).2}=some (x,st)→
    kV {nargs:=hh.nargs,ntmps:=fn.ntmps,res:=rs,body:=b} (qV 0 xs).1 st=some (r,outs)→
    Calls P f vs.toArray E.w (fun e w''=> ∃ y,e= .returned y∧ ∃ E' cr co,E'.w=w''∧Rel E'.cl r y cr∧qi E'.cl outs vs co∧Good E' (qg cr co)∧Adv E c E' (qg cr co)):=by
    intro x st hx he hfi
    refine calls_of_wp hfn hcode ?_
    rw [show E.w=E0.w from hw0.symm]
    refine wp_mono ((qax IH n).1 code hh.body b _ st x hb he _ E0 c1 hF) ?_
    rintro e a' w' ⟨rfl,hdf,E',c',rfl,hF',hkn,hA⟩
    simp only [kV]at hfi
    split at hfi
    case h_2=>cases hfi
    rename_i vals T' hres
    simp only [Option.some.injEq,Prod.mk.injEq]at hfi
    obtain ⟨rfl,rfl⟩:=hfi
    obtain ⟨ws,d1,d2,k1,k2,k3,k4⟩:=qdn (P:=P) hF'.σ hrs hF'.T hres
    have hres':(results fn a'.tmps).run P E'.w= .ok (if h:ws.toArray.size=1 then ws.toArray[0]else .tuple ws.toArray) E'.w:=by
     unfold results
     rw [Sem.run_bind]
     refine Eq.trans (congrArg (fun r=>Result.andThen r _) (qhZ (l:=fn.results) k1)) ?_
     rfl
    obtain ⟨e1,e2,g1,g2,g3,-⟩:=j9 30 E' T' _ _ d2 d1 k3 (qgT k2)
    have hargs:qi E' (qV 0 xs).1 vs c0:=by
     refine yf hxs0 ⟨fun τ bb hb=>⟨hA.sub τ bb hb,hA.frame bb (hg0.imm τ bb hb).2 (hg0.imm τ bb hb).1⟩,fun bb hb=>absurd rfl hb,fun k l hk=> ?_⟩
     by_cases hkk:k.1 < hh.nargs
     ·rw [hkn k hkk];exact hk
     ·rw [hfree k (by omega)]at hk;cases hk
    obtain ⟨e3,e4,g4,g5,g6⟩:=jG (j9 30) g1 hargs
    have hle:cle (qg e2 e4) c':=fun bb=>by
     have:=k4 bb;have:=g3 bb;have:=g6 bb;simp only [qg,c0]at*;omega
    have hpost:a'.defers=[]∧ ∃ v,(results fn a'.tmps).run P E'.w= .ok v E'.w∧(∃ y,Ending.returned v= .returned y∧ ∃ E'' cr co,E''.w=E'.w∧Rel E''.cl (qt 30 T' (xo vals)).1 y cr∧
     qi E''.cl (qv (qt 30) (qt 30 T' (xo vals)).2 (qV 0 xs).1).1 vs co∧Good E'' (qg cr co)∧Adv E c E'' (qg cr co)):=
     ⟨hdf,_,hres',_,rfl,E',e2,e4,rfl,g2,g5,hF'.g.le hle,(hA0.trans hA).le hle⟩
    rcases hx with rfl|rfl<;>exact hpost
   split at h
   ·rename_i st he
    exact hfin .normal st (.inl rfl) he h
   ·rename_i st he
    exact hfin .ret st (.inr rfl) he h
   ·cases h
  ·cases h
end
end Go.Vm
namespace Go.Vm
section lim
variable {α:Type}
open Classical in
noncomputable def yQ(f:Nat→Option α):Option α:=if h: ∃ n,(f n).isSome then f h.choose else none
def JZ(f:Nat→Option α):Prop:= ∀ n m r,n≤m→f n=some r→f m=some r
theorem Kt {f:Nat→Option α} (h: ∀ n r,f n=some r→f (n+1)=some r):JZ f:=by
 intro n m r hnm
 induction hnm with
 |refl=>exact id
 |step _ ih=>exact fun h'=>h _ _ (ih h')
theorem qbU {f:Nat→Option α} (hc:JZ f) {r:α}:yQ f=some r↔ ∃ n,f n=some r:=by
 unfold yQ
 constructor
 ·intro h
  split at h
  ·exact ⟨_,h⟩
  ·cases h
 ·rintro ⟨n,hn⟩
  have hex: ∃ n,(f n).isSome:=⟨n,by simp [hn]⟩
  rw [dif_pos hex]
  have hs:=hex.choose_spec
  obtain ⟨r',hr'⟩:=Option.isSome_iff_exists.1 hs
  have h1:=hc _ _ _ (Nat.le_max_left n hex.choose) hn
  have h2:=hc _ _ _ (Nat.le_max_right n hex.choose) hr'
  rw [h1]at h2
  rw [hr']
  exact h2.symm
theorem xl {x y:Option α} (h: ∀ r,x=some r↔y=some r):x=y:=by
 cases x with
 |none=>cases y with
  |none=>rfl
  |some b=>exact absurd ((h b).2 rfl) (by simp)
 |some a=>exact ((h a).1 rfl).symm
end lim
def CLe(c c':qM):Prop:= ∀ f xs r,c f xs=some r→c' f xs=some r
section
variable {c c':qM} {st st':St}
theorem qeR(h:CLe c c') {d:Option Nat} {g:Nat} {xs:List V} {m:Md} (hr:yN c d g xs m st=some st'):yN c' d g xs m st=some st':=by
 unfold yN at hr ⊢
 cases m with
 |ro fz=>
  simp only at hr ⊢
  cases he:c g (xx st.T xs)with
  |none=>rw [he]at hr;cases hr
  |some r=>rw [he]at hr;rw [h _ _ _ he];exact hr
 |io fz=>
  simp only at hr ⊢
  cases he:c g (qv (qt 30) st.T xs).1 with
  |none=>rw [he]at hr;cases hr
  |some r=>rw [he]at hr;rw [h _ _ _ he];exact hr
theorem qaF(h:CLe c c') {i:AI} (hr:qh c st i=some st'):qh c' st i=some st':=by
 cases i
 case call d f args m=>
  simp only [qh]at hr ⊢
  split at hr
  ·split at hr
   ·exact qeR h hr
   ·cases hr
  ·cases hr
 all_goals exact hr
theorem KT(h:CLe c c') {i:AI} (hr:qk c st i=some st'):qk c' st i=some st':=by
 cases i
 case gd j want d i=>
  simp only [qk]at hr ⊢
  split at hr
  ·split at hr
   ·rename_i hb;rw [if_pos hb];exact qaF h hr
   ·rename_i hb;rw [if_neg hb];exact hr
  ·exact hr
  ·cases hr
 all_goals (simp only [qk]at hr ⊢;exact qaF h hr)
theorem Zv(h:CLe c c'): ∀ {is:List AI} {st:St},zX c is st=some st'→zX c' is st=some st'
 |[],_,hr=>hr
 |i::is,st,hr=>by
  simp only [zX]at hr ⊢
  cases he:qk c st i with
  |none=>rw [he]at hr;cases hr
  |some s=>rw [he]at hr;rw [KT h he];exact Zv h hr
theorem qdJ(h:CLe c c') {p:Dp} {i:AI} (hr:yt c p i st=some st'):yt c' p i st=some st':=by
 unfold yt at hr ⊢
 cases he:qk c {σ:=zd st.σ (qG i),T:=yp st.T p.ks} i with
 |none=>rw [he]at hr;cases hr
 |some s=>rw [he]at hr;rw [KT h he];exact hr
theorem Zu(h:CLe c c'): ∀ {ps:List Dp} {is:List AI} {st:St},zj c ps is st=some st'→zj c' ps is st=some st'
 |[],[],_,hr=>hr
 |[],_::_,_,hr=>by simp [zj]at hr
 |_::_,[],_,hr=>by simp [zj]at hr
 |p::ps,i::is,st,hr=>by
  simp only [zj]at hr ⊢
  cases he:yt c p i st with
  |none=>rw [he]at hr;cases hr
  |some s=>rw [he]at hr;rw [qdJ h he];exact Zu h hr
theorem zn(h:CLe c c'): ∀ (n m:Nat) (code:AC) (st:St) (r:AX × St),n≤m→qq c n code st=some r→qq c' m code st=some r
 |0,_,_,_,_,_,hr=>by simp [qq]at hr
 |n+1,0,_,_,_,hle,_=>by omega
 |n+1,m+1,code,st,r,hle,hr=>by
  have hle':n≤m:=by omega
  have IH:=fun code st r=>zn h n m code st r hle'
  cases code with
  |skip=>simpa only [qq]using hr
  |ret=>simpa only [qq]using hr
  |exit id=>simpa only [qq]using hr
  |reg is=>
   simp only [qq,Option.map_eq_some_iff]at hr ⊢
   obtain ⟨s,hs,rfl⟩:=hr
   exact ⟨s,Zv h hs,rfl⟩
  |dreg plan is=>
   simp only [qq]at hr ⊢
   cases he:zj c plan is (yw (zt plan is) st)with
   |none=>rw [he]at hr;cases hr
   |some s=>rw [he]at hr;rw [Zu h he];exact hr
  |seq x y=>
   simp only [qq]at hr ⊢
   cases he:qq c n x st with
   |none=>rw [he]at hr;cases hr
   |some s=>
    rw [he]at hr;rw [IH _ _ _ he]
    obtain ⟨e,s⟩:=s
    cases e<;>first|exact IH _ _ _ hr|exact hr
  |cond a x y=>
   simp only [qq]at hr ⊢
   split at hr
   ·exact IH _ _ _ hr
   ·exact IH _ _ _ hr
   ·cases hr
  |block id x=>
   simp only [qq]at hr ⊢
   cases he:qq c n x st with
   |none=>rw [he]at hr;cases hr
   |some s=>rw [he]at hr;rw [IH _ _ _ he];exact hr
  |opn os x=>
   simp only [qq]at hr ⊢
   exact IH _ _ _ hr
  |opd os x=>
   simp only [qq]at hr ⊢
   exact IH _ _ _ hr
  |nam ls ks x=>
   simp only [qq]at hr ⊢
   exact IH _ _ _ hr
  |keep ls x=>
   simp only [qq]at hr ⊢
   exact IH _ _ _ hr
  |loop ls ks x=>
   simp only [qq]at hr ⊢
   cases he:qq c n x (yH ls ks st)with
   |none=>rw [he]at hr;cases hr
   |some s=>
    rw [he]at hr;rw [IH _ _ _ he]
    obtain ⟨e,s⟩:=s
    cases e<;>first|exact IH _ _ _ hr|exact hr
end
theorem yW(prog:Nat→Option AE): ∀ (n:Nat),CLe (qX prog n) (qX prog (n+1))
 |0=>fun f xs r h=>by simp [qX]at h
 |n+1=>by
  have IH:=yW prog n
  intro f xs r h
  rw [qX]at h ⊢
  split at h
  ·rename_i g hg;exact h
  ·rename_i af haf
   split at h
   case isFalse=>cases h
   rename_i hlen
   rw [if_pos hlen]
   cases he:qq (qX prog n) n af.body {σ:=yg 0 (qV 0 xs).1,T:=(qV 0 xs).2} with
   |none=>rw [he]at h;cases h
   |some s=>rw [he]at h;rw [zn IH n (n+1) _ _ _ (by omega) he];exact h
  ·cases h
theorem xP(prog:Nat→Option AE) {n m:Nat} (h:n≤m):CLe (qX prog n) (qX prog m):=by
 intro f xs r
 exact Kt (f:=fun n=>qX prog n f xs) (fun n r=>yW prog n f xs r) n m r h
section
variable (prog:Nat→Option AE)
noncomputable def cw:qM:=fun f xs=>yQ fun n=>qX prog n f xs
noncomputable def xw(c:AC) (st:St):Option (AX × St):=yQ fun n=>qq (qX prog n) n c st
variable {prog}
theorem Qb {f:Nat} {xs:List V} {r:V × List V}:cw prog f xs=some r↔ ∃ n,qX prog n f xs=some r:=
 qbU (Kt fun n r=>yW prog n f xs r)
theorem zc {c:AC} {st:St} {r:AX × St}:xw prog c st=some r↔ ∃ n,qq (qX prog n) n c st=some r:=
 qbU (Kt fun n r=>zn (yW prog n) n (n+1) c st r (by omega))
theorem qat(n:Nat):CLe (qX prog n) (cw prog):=fun _ _ _ h=>Qb.2 ⟨n,h⟩
variable {st st':St}
theorem qeQ {d:Option Nat} {g:Nat} {xs:List V} {m:Md} (h:yN (cw prog) d g xs m st=some st'): ∃ n,yN (qX prog n) d g xs m st=some st':=by
 unfold yN at h
 cases m with
 |ro fz=>
  simp only at h
  cases he:cw prog g (xx st.T xs)with
  |none=>rw [he]at h;cases h
  |some r=>rw [he]at h;obtain ⟨n,hn⟩:=Qb.1 he;exact ⟨n,by unfold yN;simp only [hn];exact h⟩
 |io fz=>
  simp only at h
  cases he:cw prog g (qv (qt 30) st.T xs).1 with
  |none=>rw [he]at h;cases h
  |some r=>rw [he]at h;obtain ⟨n,hn⟩:=Qb.1 he;exact ⟨n,by unfold yN;simp only [hn];exact h⟩
theorem qaE {i:AI} (h:qh (cw prog) st i=some st'): ∃ n,qh (qX prog n) st i=some st':=by
 cases i
 case call d f args m=>
  simp only [qh]at h ⊢
  split at h
  ·rename_i f' hf
   split at h
   ·rename_i hc ha
    obtain ⟨n,hn⟩:=qeQ h
    exact ⟨n,by rw [hn]⟩
   ·cases h
  ·cases h
 all_goals exact ⟨0,h⟩
theorem qbA {i:AI} (h:qk (cw prog) st i=some st'): ∃ n,qk (qX prog n) st i=some st':=by
 cases i
 case gd j want d i=>
  simp only [qk]at h ⊢
  split at h
  ·split at h
   ·rename_i hb;obtain ⟨n,hn⟩:=qaE h;exact ⟨n,by rw [if_pos hb];exact hn⟩
   ·rename_i hb;exact ⟨0,by rw [if_neg hb];exact h⟩
  ·exact ⟨0,h⟩
  ·cases h
 all_goals (simp only [qk]at h ⊢;exact qaE h)
theorem qaC: ∀ {is:List AI} {st:St},zX (cw prog) is st=some st'→ ∃ n,zX (qX prog n) is st=some st'
 |[],_,h=>⟨0,h⟩
 |i::is,st,h=>by
  simp only [zX]at h ⊢
  cases he:qk (cw prog) st i with
  |none=>rw [he]at h;cases h
  |some s=>
   rw [he]at h
   obtain ⟨n,hn⟩:=qbA he
   obtain ⟨m,hm⟩:=qaC h
   refine ⟨max n m, ?_⟩
   rw [KT (xP prog (Nat.le_max_left n m)) hn]
   exact Zv (xP prog (Nat.le_max_right n m)) hm
theorem qiQ {p:Dp} {i:AI} (h:yt (cw prog) p i st=some st'): ∃ n,yt (qX prog n) p i st=some st':=by
 unfold yt at h
 cases he:qk (cw prog) {σ:=zd st.σ (qG i),T:=yp st.T p.ks} i with
 |none=>rw [he]at h;cases h
 |some s=>
  rw [he]at h
  obtain ⟨n,hn⟩:=qbA he
  exact ⟨n,by unfold yt;rw [hn];exact h⟩
theorem qaA: ∀ {ps:List Dp} {is:List AI} {st:St},zj (cw prog) ps is st=some st'→ ∃ n,zj (qX prog n) ps is st=some st'
 |[],[],_,h=>⟨0,h⟩
 |[],_::_,_,h=>by simp [zj]at h
 |_::_,[],_,h=>by simp [zj]at h
 |p::ps,i::is,st,h=>by
  simp only [zj]at h ⊢
  cases he:yt (cw prog) p i st with
  |none=>rw [he]at h;cases h
  |some s=>
   rw [he]at h
   obtain ⟨n,hn⟩:=qiQ he
   obtain ⟨m,hm⟩:=qaA h
   refine ⟨max n m, ?_⟩
   rw [qdJ (xP prog (Nat.le_max_left n m)) hn]
   exact Zu (xP prog (Nat.le_max_right n m)) hm
theorem qjp:xw prog .skip st=some (.normal,st):=zc.2 ⟨1,rfl⟩
theorem qjn:xw prog .ret st=some (.ret,st):=zc.2 ⟨1,rfl⟩
theorem qjg {id:Nat}:xw prog (.exit id) st=some (.exit id,st):=zc.2 ⟨1,rfl⟩
theorem qjm {is:List AI}:xw prog (.reg is) st=(zX (cw prog) is st).map fun st=>(.normal,st):=by
 apply xl
 intro r
 rw [zc]
 constructor
 ·rintro ⟨n,h⟩
  cases n with
  |zero=>simp [qq]at h
  |succ n=>
   simp only [qq,Option.map_eq_some_iff]at h ⊢
   obtain ⟨s,hs,rfl⟩:=h
   exact ⟨s,Zv (qat _) hs,rfl⟩
 ·intro h
  simp only [Option.map_eq_some_iff]at h
  obtain ⟨s,hs,rfl⟩:=h
  obtain ⟨n,hn⟩:=qaC hs
  refine ⟨n+1, ?_⟩
  simp only [qq,Option.map_eq_some_iff]
  exact ⟨s,Zv (yW prog n) hn,rfl⟩
theorem qjf {plan:List Dp} {is:List AI}:xw prog (.dreg plan is) st=match zj (cw prog) plan is (yw (zt plan is) st)with
 |some st=>if k9 st.T then some (.normal,st)else none
 |none=>none:=by
 apply xl
 intro r
 rw [zc]
 constructor
 ·rintro ⟨n,h⟩
  cases n with
  |zero=>simp [qq]at h
  |succ n=>
   simp only [qq]at h
   cases he:zj (qX prog (n+1)) plan is (yw (zt plan is) st)with
   |none=>rw [he]at h;cases h
   |some s=>rw [he]at h;rw [Zu (qat _) he];exact h
 ·intro h
  cases he:zj (cw prog) plan is (yw (zt plan is) st)with
  |none=>rw [he]at h;cases h
  |some s=>
   rw [he]at h
   obtain ⟨n,hn⟩:=qaA he
   refine ⟨n+1, ?_⟩
   simp only [qq]
   rw [Zu (yW prog n) hn];exact h
theorem qjo {x y:AC}:xw prog (.seq x y) st=match xw prog x st with
 |some (.normal,st')=>xw prog y st'
 |r=>r:=by
 apply xl
 intro r
 rw [zc]
 constructor
 ·rintro ⟨n,h⟩
  cases n with
  |zero=>simp [qq]at h
  |succ n=>
   simp only [qq]at h
   cases he:qq (qX prog (n+1)) n x st with
   |none=>rw [he]at h;cases h
   |some s=>
    rw [he]at h
    have hx:xw prog x st=some s:=zc.2 ⟨n+1,zn (fun _ _ _ h=>h) n (n+1) _ _ _ (by omega) he⟩
    rw [hx]
    obtain ⟨e,s⟩:=s
    cases e
    ·exact zc.2 ⟨n+1,zn (fun _ _ _ h=>h) n (n+1) _ _ _ (by omega) h⟩
    ·exact h
    ·exact h
 ·intro h
  cases he:xw prog x st with
  |none=>rw [he]at h;cases h
  |some s=>
   rw [he]at h
   obtain ⟨n,hn⟩:=zc.1 he
   obtain ⟨e,s⟩:=s
   cases e
   ·obtain ⟨m,hm⟩:=zc.1 h
    refine ⟨max n m+1, ?_⟩
    simp only [qq]
    rw [zn (xP prog (by omega)) n (max n m) _ _ _ (by omega) hn]
    exact zn (xP prog (by omega)) m (max n m) _ _ _ (by omega) hm
   all_goals
    refine ⟨n+1, ?_⟩
    simp only [qq]
    rw [zn (xP prog (by omega)) n n _ _ _ (by omega) hn]
    exact h
theorem qje {a:AO} {x y:AC}:xw prog (.cond a x y) st=match ev st.σ a with
 |some (.v (.bool true))=>xw prog x st
 |some (.v (.bool false))=>xw prog y st
 |_=>none:=by
 apply xl
 intro r
 rw [zc]
 constructor
 ·rintro ⟨n,h⟩
  cases n with
  |zero=>simp [qq]at h
  |succ n=>
   simp only [qq]at h
   split at h
   ·rename_i hv;rw [hv];exact zc.2 ⟨n+1,zn (fun _ _ _ h=>h) n (n+1) _ _ _ (by omega) h⟩
   ·rename_i hv;rw [hv];exact zc.2 ⟨n+1,zn (fun _ _ _ h=>h) n (n+1) _ _ _ (by omega) h⟩
   ·cases h
 ·intro h
  split at h
  ·rename_i hv
   obtain ⟨n,hn⟩:=zc.1 h
   exact ⟨n+1,by simp only [qq,hv];exact zn (yW prog n) n n _ _ _ (by omega) hn⟩
  ·rename_i hv
   obtain ⟨n,hn⟩:=zc.1 h
   exact ⟨n+1,by simp only [qq,hv];exact zn (yW prog n) n n _ _ _ (by omega) hn⟩
  ·cases h
theorem qjd {id:Nat} {x:AC}:xw prog (.block id x) st=match xw prog x st with
 |some (.exit id',st')=>if id'=id then some (.normal,st')else some (.exit id',st')
 |r=>r:=by
 apply xl
 intro r
 rw [zc]
 constructor
 ·rintro ⟨n,h⟩
  cases n with
  |zero=>simp [qq]at h
  |succ n=>
   simp only [qq]at h
   cases he:qq (qX prog (n+1)) n x st with
   |none=>rw [he]at h;cases h
   |some s=>
    rw [he]at h
    rw [zc.2 ⟨n+1,zn (fun _ _ _ h=>h) n (n+1) _ _ _ (by omega) he⟩]
    exact h
 ·intro h
  cases he:xw prog x st with
  |none=>rw [he]at h;cases h
  |some s=>
   rw [he]at h
   obtain ⟨n,hn⟩:=zc.1 he
   refine ⟨n+1, ?_⟩
   simp only [qq]
   rw [zn (yW prog n) n n _ _ _ (by omega) hn]
   exact h
theorem qjh {ls:List Nat} {x:AC}:xw prog (.keep ls x) st=xw prog x {σ:=zd st.σ ls,T:=st.T}:=by
 apply xl
 intro r
 rw [zc,zc]
 constructor
 ·rintro ⟨n,h⟩
  cases n with
  |zero=>simp [qq]at h
  |succ n=>
   simp only [qq]at h
   exact ⟨n+1,zn (fun _ _ _ h=>h) n (n+1) _ _ _ (by omega) h⟩
 ·rintro ⟨n,h⟩
  exact ⟨n+1,by simp only [qq];exact zn (yW prog n) n n _ _ _ (by omega) h⟩
theorem qjl {os:List (Nat × Key × Nat)} {x:AC}:xw prog (.opn os x) st=xw prog x (x7 os st):=by
 apply xl
 intro r
 rw [zc,zc]
 constructor
 ·rintro ⟨n,h⟩
  cases n with
  |zero=>simp [qq]at h
  |succ n=>
   simp only [qq]at h
   exact ⟨n+1,zn (fun _ _ _ h=>h) n (n+1) _ _ _ (by omega) h⟩
 ·rintro ⟨n,h⟩
  exact ⟨n+1,by simp only [qq];exact zn (yW prog n) n n _ _ _ (by omega) h⟩
theorem qjj {ls:List Nat} {ks:List Key} {x:AC}:xw prog (.nam ls ks x) st=xw prog x (yH ls ks st):=by
 apply xl
 intro r
 rw [zc,zc]
 constructor
 ·rintro ⟨n,h⟩
  cases n with
  |zero=>simp [qq]at h
  |succ n=>
   simp only [qq]at h
   exact ⟨n+1,zn (fun _ _ _ h=>h) n (n+1) _ _ _ (by omega) h⟩
 ·rintro ⟨n,h⟩
  exact ⟨n+1,by simp only [qq];exact zn (yW prog n) n n _ _ _ (by omega) h⟩
theorem qjk {os:List (Nat × Nat × Option Nat)} {x:AC}:xw prog (.opd os x) st=xw prog x (ja os st):=by
 apply xl
 intro r
 rw [zc,zc]
 constructor
 ·rintro ⟨n,h⟩
  cases n with
  |zero=>simp [qq]at h
  |succ n=>
   simp only [qq]at h
   exact ⟨n+1,zn (fun _ _ _ h=>h) n (n+1) _ _ _ (by omega) h⟩
 ·rintro ⟨n,h⟩
  exact ⟨n+1,by simp only [qq];exact zn (yW prog n) n n _ _ _ (by omega) h⟩
theorem qji {ls:List Nat} {ks:List Key} {x:AC}:xw prog (.loop ls ks x) st=match xw prog x (yH ls ks st)with
 |some (.normal,st')=>xw prog (.loop ls ks x) st'
 |r=>r:=by
 apply xl
 intro r
 rw [zc]
 constructor
 ·rintro ⟨n,h⟩
  cases n with
  |zero=>simp [qq]at h
  |succ n=>
   rw [qq]at h
   cases he:qq (qX prog (n+1)) n x (yH ls ks st)with
   |none=>rw [he]at h;cases h
   |some s=>
    rw [he]at h
    have hx:xw prog x (yH ls ks st)=some s:=zc.2 ⟨n+1,zn (fun _ _ _ h=>h) n (n+1) _ _ _ (by omega) he⟩
    rw [hx]
    obtain ⟨e,s⟩:=s
    cases e
    ·exact zc.2 ⟨n+1,zn (fun _ _ _ h=>h) n (n+1) _ _ _ (by omega) h⟩
    ·exact h
    ·exact h
 ·intro h
  cases he:xw prog x (yH ls ks st)with
  |none=>rw [he]at h;cases h
  |some s=>
   rw [he]at h
   obtain ⟨n,hn⟩:=zc.1 he
   obtain ⟨e,s⟩:=s
   cases e
   ·obtain ⟨m,hm⟩:=zc.1 h
    refine ⟨max n m+1, ?_⟩
    rw [qq]
    rw [zn (xP prog (by omega)) n (max n m) _ _ _ (by omega) hn]
    exact zn (xP prog (by omega)) m (max n m) _ _ _ (by omega) hm
   all_goals
    refine ⟨n+1, ?_⟩
    rw [qq]
    rw [zn (xP prog (by omega)) n n _ _ _ (by omega) hn]
    exact h
theorem qbg {f:Nat} {args:List V}:cw prog f args=match prog f with
 |some (.prim g)=>g args
 |some (.fn af)=>
  if args.length=af.nargs then
   match xw prog af.body {σ:=yg 0 (qV 0 args).1,T:=(qV 0 args).2} with
   |some (.normal,st)|some (.ret,st)=>kV af (qV 0 args).1 st
   |_=>none
  else none
 |none=>none:=by
 apply xl
 intro r
 rw [Qb]
 constructor
 ·rintro ⟨n,h⟩
  cases n with
  |zero=>simp [qX]at h
  |succ n=>
   rw [qX]at h
   split at h
   ·rename_i hp;rw [hp];exact h
   ·rename_i af hp
    rw [hp]
    split at h
    case isFalse=>cases h
    rename_i hlen
    show (if args.length=af.nargs then _ else _)=_
    rw [if_pos hlen]
    cases he:qq (qX prog n) n af.body {σ:=yg 0 (qV 0 args).1,T:=(qV 0 args).2} with
    |none=>rw [he]at h;cases h
    |some s=>
     rw [he]at h
     rw [zc.2 ⟨n,he⟩];exact h
   ·cases h
 ·intro h
  split at h
  ·rename_i hp;exact ⟨1,by rw [qX,hp];exact h⟩
  ·rename_i af hp
   split at h
   case isFalse=>cases h
   rename_i hlen
   cases he:xw prog af.body {σ:=yg 0 (qV 0 args).1,T:=(qV 0 args).2} with
   |none=>rw [he]at h;cases h
   |some s=>
    obtain ⟨n,hn⟩:=zc.1 he
    refine ⟨n+1, ?_⟩
    rw [qX,hp]
    simp only [if_pos hlen]
    rw [he]at h
    rw [hn];exact h
  ·cases h
end
end Go.Vm
namespace Go.Vm
def I(n:Int):V:= .v (.int .i64 n)
def U8(n:Int):V:= .v (.int .u8 n)
def U32(n:Int):V:= .v (.int .u32 n)
def B(b:Bool):V:= .v (.bool b)
def S(l:List UInt8):V:= .v (.string ⟨l.toArray⟩)
def Fc(g:Nat):V:= .f (.func g) [] []
def w64(n:Int):Int:=IntKind.i64.wrap n
theorem zA {n:Int} (h1: -9223372036854775808≤n) (h2:n < 9223372036854775808):w64 n=n:=by
 have h: ∀ m:Int,m=n % 18446744073709551616→(if (true&&decide (m ≥ 9223372036854775808))=true then m - 18446744073709551616 else m)=n:=by
  intro m hm
  simp only [Bool.true_and,decide_eq_true_eq]
  split<;>omega
 exact h _ rfl
def yX(r:Option (AX × St)) (k:St→Option (AX × St)):Option (AX × St):=
 match r with
 |some (.normal,st)=>k st
 |r=>r
def yY {α:Type} (r:Option St) (k:St→Option α):Option α:=
 match r with
 |some st=>k st
 |none=>none
def qm {α:Type} (r:Option V) (k:V→Option α):Option α:=
 match r with
 |some y=>k y
 |none=>none
def ko {α:Type} (r:Option Mem) (k:Mem→Option α):Option α:=
 match r with
 |some y=>k y
 |none=>none
def zB {α:Type} (r:Option (List V)) (k:List V→Option α):Option α:=
 match r with
 |some y=>k y
 |none=>none
def Xh {α:Type} (r:Option V) (x y:α) (z:α):α:=
 match r with
 |some (.v (.bool true))=>x
 |some (.v (.bool false))=>y
 |_=>z
def jb(id:Nat) (r:Option (AX × St)):Option (AX × St):=
 match r with
 |some (.exit id',st')=>if id'=id then some (.normal,st')else some (.exit id',st')
 |r=>r
def x3 {α:Type} (r:Option (AX × St)) (k:St→Option α):Option α:=
 match r with
 |some (.normal,st)|some (.ret,st)=>k st
 |_=>none
@[congr] theorem qnZ {r r':Option (AX × St)} {k:St→Option (AX × St)} (h:r=r'):yX r k=yX r' k:=by rw [h]
@[congr] theorem qob {α:Type} {r r':Option St} {k:St→Option α} (h:r=r'):yY r k=yY r' k:=by rw [h]
@[congr] theorem qof {α:Type} {r r':Option V} {k:V→Option α} (h:r=r'):qm r k=qm r' k:=by rw [h]
@[congr] theorem qnW {α:Type} {r r':Option Mem} {k:Mem→Option α} (h:r=r'):ko r k=ko r' k:=by rw [h]
@[congr] theorem qnT {α:Type} {r r':Option (List V)} {k:List V→Option α} (h:r=r'):zB r k=zB r' k:=by rw [h]
@[congr] theorem qp8 {α:Type} {r r':Option V} {x y z:α} (h:r=r'):Xh r x y z=Xh r' x y z:=by rw [h]
@[congr] theorem qrH {α:Type} {r r':Option (AX × St)} {k:St→Option α} (h:r=r'):x3 r k=x3 r' k:=by rw [h]
section
variable {α:Type} {k:St→Option (AX × St)} {st:St} {id id':Nat}
@[go_sem] theorem qn3:yX (some (.normal,st)) k=k st:=(rfl)
@[go_sem] theorem qn4:yX (some (.ret,st)) k=some (.ret,st):=(rfl)
@[go_sem] theorem qn0:yX (some (.exit id,st)) k=some (.exit id,st):=(rfl)
@[go_sem] theorem qn2:yX none k=none:=(rfl)
@[go_sem] theorem qn1 {p:Prop} [Decidable p] {a b:Option (AX × St)}:yX (if p then a else b) k=if p then yX a k else yX b k:=by split<;>rfl
@[go_sem] theorem qoe {k:St→Option α}:yY (some st) k=k st:=(rfl)
@[go_sem] theorem qod {k:St→Option α}:yY none k=none:=(rfl)
@[go_sem] theorem qoc {k:St→Option α} {p:Prop} [Decidable p] {a b:Option St}:yY (if p then a else b) k=if p then yY a k else yY b k:=by split<;>rfl
@[go_sem] theorem qoi {x:V} {k:V→Option α}:qm (some x) k=k x:=(rfl)
@[go_sem] theorem qoh {k:V→Option α}:qm none k=none:=(rfl)
@[go_sem] theorem qog {k:V→Option α} {p:Prop} [Decidable p] {a b:Option V}:qm (if p then a else b) k=if p then qm a k else qm b k:=by split<;>rfl
@[go_sem] theorem qnY {x:Mem} {k:Mem→Option α}:ko (some x) k=k x:=(rfl)
@[go_sem] theorem qnX {k:Mem→Option α}:ko none k=none:=(rfl)
@[go_sem] theorem qnV {x:List V} {k:List V→Option α}:zB (some x) k=k x:=(rfl)
@[go_sem] theorem qnU {k:List V→Option α}:zB none k=none:=(rfl)
@[go_sem] theorem qp7 {b:Bool} {x y z:α}:Xh (some (B b)) x y z=if b=true then x else y:=by cases b<;>rfl
@[go_sem] theorem qwU:jb id (some (.exit id',st))=if id'=id then some (.normal,st)else some (.exit id',st):=(rfl)
@[go_sem] theorem qwX:jb id (some (.normal,st))=some (.normal,st):=(rfl)
@[go_sem] theorem qwY:jb id (some (.ret,st))=some (.ret,st):=(rfl)
@[go_sem] theorem qwW:jb id none=none:=(rfl)
@[go_sem] theorem qwV {p:Prop} [Decidable p] {a b:Option (AX × St)}:jb id (if p then a else b)=if p then jb id a else jb id b:=by split<;>rfl
@[go_sem] theorem qrK {k:St→Option α}:x3 (some (.normal,st)) k=k st:=(rfl)
@[go_sem] theorem qrL {k:St→Option α}:x3 (some (.ret,st)) k=k st:=(rfl)
@[go_sem] theorem qrJ {k:St→Option α}:x3 none k=none:=(rfl)
@[go_sem] theorem qrI {k:St→Option α} {p:Prop} [Decidable p] {a b:Option (AX × St)}:x3 (if p then a else b) k=if p then x3 a k else x3 b k:=by split<;>rfl
end
noncomputable def cr(prog:Nat→Option AE) (f:Nat) (xs:List V):Option V:=(cw prog f xs).map Prod.fst
section
variable {prog:Nat→Option AE} {st:St}
theorem zp {f:Nat} {af:AF} {args:List V} (h:prog f=some (.fn af)) (hl:args.length=af.nargs):
 cr prog f args=x3 (xw prog af.body {σ:=yg 0 (qV 0 args).1,T:=(qV 0 args).2}) fun st=>
  (y8 st.σ st.T af.res).map fun r=>(qt 30 r.2 (xo r.1)).1:=by
 unfold cr
 rw [qbg,h]
 simp only [if_pos hl]
 cases he:xw prog af.body {σ:=yg 0 (qV 0 args).1,T:=(qV 0 args).2} with
 |none=>rfl
 |some s=>
  obtain ⟨e,s⟩:=s
  have hf:(kV af (qV 0 args).1 s).map Prod.fst=(y8 s.σ s.T af.res).map fun r=>(qt 30 r.2 (xo r.1)).1:=by
   unfold kV
   cases y8 s.σ s.T af.res<;>rfl
  cases e
  ·exact hf
  ·rfl
  ·exact hf
theorem qeP {f:Nat} {af:AF} {args:List V} (h:prog f=some (.fn af)) (hl:args.length=af.nargs):
 cw prog f args=x3 (xw prog af.body {σ:=yg 0 (qV 0 args).1,T:=(qV 0 args).2}) fun st=>kV af (qV 0 args).1 st:=by
 rw [qbg,h]
 simp only [if_pos hl]
 cases he:xw prog af.body {σ:=yg 0 (qV 0 args).1,T:=(qV 0 args).2} with
 |none=>rfl
 |some s=>obtain ⟨e,s⟩:=s;cases e<;>rfl
@[go_sem] theorem qzK:xw prog .skip st=some (.normal,st):=qjp
@[go_sem] theorem qzI:xw prog .ret st=some (.ret,st):=qjn
@[go_sem] theorem qzC {id:Nat}:xw prog (.exit id) st=some (.exit id,st):=qjg
@[go_sem] theorem qzH {is:List AI}:xw prog (.reg is) st=yY (zX (cw prog) is st) fun st=>some (.normal,st):=by
 rw [qjm];cases zX (cw prog) is st<;>rfl
@[go_sem] theorem qzB {plan:List Dp} {is:List AI}:xw prog (.dreg plan is) st=yY (zj (cw prog) plan is (yw (zt plan is) st)) fun st=>if k9 st.T=true then some (.normal,st)else none:=by
 rw [qjf];cases zj (cw prog) plan is (yw (zt plan is) st)<;>rfl
@[go_sem] theorem qzJ {x y:AC}:xw prog (.seq x y) st=yX (xw prog x st) fun st'=>xw prog y st':=by
 rw [qjo]
 cases xw prog x st with
 |none=>rfl
 |some s=>obtain ⟨e,s⟩:=s;cases e<;>rfl
@[go_sem] theorem qzA {a:AO} {x y:AC}:xw prog (.cond a x y) st=Xh (ev st.σ a) (xw prog x st) (xw prog y st) none:=by
 rw [qje];rfl
@[go_sem] theorem qzz {id:Nat} {x:AC}:xw prog (.block id x) st=jb id (xw prog x st):=by
 rw [qjd]
 cases xw prog x st with
 |none=>rfl
 |some s=>obtain ⟨e,s⟩:=s;cases e<;>rfl
@[go_sem] theorem qzE {ls:List Nat} {ks:List Key} {x:AC}:xw prog (.nam ls ks x) st=xw prog x (yH ls ks st):=qjj
@[go_sem] theorem qzF {os:List (Nat × Nat × Option Nat)} {x:AC}:xw prog (.opd os x) st=xw prog x (ja os st):=qjk
@[go_sem] theorem qzG {os:List (Nat × Key × Nat)} {x:AC}:xw prog (.opn os x) st=xw prog x (x7 os st):=qjl
@[go_sem] theorem qzD {ls:List Nat} {x:AC} {σ:Sl} {T:Mem}:xw prog (.keep ls x) ⟨σ,T⟩=xw prog x ⟨zd σ ls,T⟩:=qjh
theorem qjb {ls:List Nat} {ks:List Key} {x:AC}:xw prog (.loop ls ks x) st=yX (xw prog x (yH ls ks st)) fun st'=>xw prog (.loop ls ks x) st':=by
 rw [qji]
 cases xw prog x (yH ls ks st)with
 |none=>rfl
 |some s=>obtain ⟨e,s⟩:=s;cases e<;>rfl
variable {σ:Sl} {T:Mem} {call:qM}
@[go_sem] theorem qng:zX call [] st=some st:=(rfl)
@[go_sem] theorem qnf {i:AI} {is:List AI}:zX call (i::is) st=yY (qk call st i) fun st=>zX call is st:=by
 simp only [zX];cases qk call st i<;>rfl
def gdK(b:Option V) (want:Bool) (x y:Option St):Option St:=
 match b with
 |some (.v (.bool b))=>if b=want then x else y
 |some (.v _)=>y
 |_=>none
@[congr] theorem qsH {b b':Option V} {w:Bool} {x y:Option St} (h:b=b'):gdK b w x y=gdK b' w x y:=by rw [h]
@[go_sem] theorem qsG {b w:Bool} {x y:Option St}:gdK (some (B b)) w x y=if b=w then x else y:=(rfl)
@[go_sem] theorem qsI {w:Bool} {x y:Option St}:gdK (some zH) w x y=y:=(rfl)
@[go_sem] theorem qsg {j:Nat} {w:Bool} {d:Nat} {i:AI}:qk call ⟨σ,T⟩ (.gd j w (some d) i)=gdK (qy σ j) w (qh call ⟨σ,T⟩ i) (some ⟨(d,zH)::σ,T⟩):=by
 simp only [qk,gdK]
 cases qy σ j with
 |none=>rfl
 |some x=>cases x<;>first|rfl|(rename_i v;cases v<;>rfl)
@[go_sem] theorem qsh {j:Nat} {w:Bool} {i:AI}:qk call ⟨σ,T⟩ (.gd j w none i)=gdK (qy σ j) w (qh call ⟨σ,T⟩ i) (some ⟨σ,T⟩):=by
 simp only [qk,gdK]
 cases qy σ j with
 |none=>rfl
 |some x=>cases x<;>first|rfl|(rename_i v;cases v<;>rfl)
@[go_sem] theorem qrZ {n:Nat}:ev σ (.t n)=qy σ n:=(rfl)
@[go_sem] theorem qrY {x:V}:ev σ (.c x)=some x:=(rfl)
@[go_sem] theorem qrU:evL σ []=some []:=(rfl)
@[go_sem] theorem qrT {x:AO} {xs:List AO}:evL σ (x::xs)=qm (ev σ x) fun y=>zB (evL σ xs) fun ys=>some (y::ys):=by
 simp only [evL];cases ev σ x<;>cases evL σ xs<;>rfl
@[go_sem] theorem qrV:evO σ none=some none:=(rfl)
@[go_sem] theorem qrW {x:AO}:evO σ (some x)=qm (ev σ x) fun y=>some (some y):=by
 simp only [evO];cases ev σ x<;>rfl
attribute [go_sem] qy qo qu qdD qE qz yB x5 Qk KW xZ Z2 yw
def pkS(o:Option V) (t:Nat) (r:Sl):Sl:=match o with|some x=>(t,x)::r|none=>r
@[congr] theorem qxd {o o':Option V} {t:Nat} {r:Sl} (h:o=o'):pkS o t r=pkS o' t r:=by rw [h]
@[go_sem] theorem qxf {x:V} {t:Nat} {r:Sl}:pkS (some x) t r=(t,x)::r:=(rfl)
@[go_sem] theorem qxe {t:Nat} {r:Sl}:pkS none t r=r:=(rfl)
@[go_sem] theorem qxa {σ:Sl}:zd σ []=[]:=(rfl)
@[go_sem] theorem qhp: ∀ (ls:List Nat),zd [] ls=[]
 |[]=>rfl
 |t::r=>by simp only [zd,qy,qhp r]
@[go_sem] theorem qw9 {q:Nat × V} {σ:Sl} {t:Nat} {r:List Nat}:zd (q::σ) (t::r)=pkS (qy (q::σ) t) t (zd (q::σ) r):=by
 simp only [zd,pkS]
 cases qy (q::σ) t<;>rfl
def pkT(o:Option Ob) (k:Key) (a b:Mem):Mem:=match o with|some x=>(k,x)::a|none=>b
@[congr] theorem qxg {o o':Option Ob} {k:Key} {a b:Mem} (h:o=o'):pkT o k a b=pkT o' k a b:=by rw [h]
@[go_sem] theorem qxi {x:Ob} {k:Key} {a b:Mem}:pkT (some x) k a b=(k,x)::a:=(rfl)
@[go_sem] theorem qxh {k:Key} {a b:Mem}:pkT none k a b=b:=(rfl)
@[go_sem] theorem qxc {T:Mem}:zU T []=[]:=by cases T<;>rfl
@[go_sem] theorem qhq: ∀ (ks:List Key),zU [] ks=[]
 |[]=>rfl
 |k::r=>by simp only [zU,qo,qhq r]
@[go_sem] theorem qxb {q:Key × Ob} {T:Mem} {k:Key} {r:List Key}:zU (q::T) (k::r)=pkT (qo (q::T) k) k (zU (qu (q::T) k) r) (zU (q::T) r):=by
 simp only [zU,pkT]
 cases qo (q::T) k<;>rfl
@[go_sem] theorem qw8 {T:Mem}:yp T []=[]:=(rfl)
@[go_sem] theorem qho: ∀ (ks:List Key),yp [] ks=[]
 |[]=>rfl
 |k::r=>by simp only [yp,qo,qho r]
@[go_sem] theorem qw7 {q:Key × Ob} {T:Mem} {k:Key} {r:List Key}:yp (q::T) (k::r)=pkT (qo (q::T) k) k (yp (q::T) r) (yp (q::T) r):=by
 simp only [yp,pkT]
 cases qo (q::T) k<;>rfl
def wT(d:Nat) (T:Mem):Mem:=x5 d (xZ d (Z2 (Qk d T) T))
@[go_sem] theorem qdZ {d:Nat}:qW d ⟨σ,T⟩=⟨yB d σ,wT d T⟩:=(rfl)
def yP {α:Type} (c:Bool) (x:Option α):Option α:=if c=true then x else none
@[congr] theorem qsJ {α:Type} {b b':Bool} {x:Option α} (h:b=b'):yP b x=yP b' x:=by rw [h]
@[go_sem] theorem qsL {α:Type} {x:Option α}:yP true x=x:=(rfl)
@[go_sem] theorem qsK {α:Type} {x:Option α}:yP false x=none:=(rfl)
def zl {α:Type} (c:Bool) (x y:α):α:=if c=true then x else y
@[congr] theorem qw4 {α:Type} {b b':Bool} {x y:α} (h:b=b'):zl b x y=zl b' x y:=by rw [h]
@[go_sem] theorem qw6 {α:Type} {x y:α}:zl true x y=x:=(rfl)
@[go_sem] theorem qw5 {α:Type} {x y:α}:zl false x y=y:=(rfl)
section vals
variable {n:Int} {b:Bool} {l:List UInt8} {g:Nat}
attribute [go_sem] qS yc clB yl qx ya qP qO qR qZ q8 yR xS km qy
@[go_sem] theorem qoI {d:Nat} {x:V} {st:St}:yL (some d) x st=kS d x st:=(rfl)
@[go_sem] theorem qoH {x:V} {st:St}:yL none x st=st:=(rfl)
@[go_sem] theorem qr5 {x:V}:fzV true x=qP false x:=(rfl)
@[go_sem] theorem qr4 {x:V}:fzV false x=x:=(rfl)
section
variable {cs xs ys:List V} {τ:Bool} {i o e:Nat} {x:V} {k:Key} {fn:Fn}
@[go_sem] theorem qoX:(V.a cs).cells=cs:=(rfl)
@[go_sem] theorem qpb:(V.p k i o).cells=[V.p k i o]:=(rfl)
@[go_sem] theorem qpd:(V.s k i o).cells=[V.s k i o]:=(rfl)
@[go_sem] theorem qpc:(V.q τ xs i o).cells=[V.q τ xs i o]:=(rfl)
@[go_sem] theorem qo0:(V.i τ xs).cells=[V.i τ xs]:=(rfl)
@[go_sem] theorem qo9:(V.o e xs).cells=[V.o e xs]:=(rfl)
@[go_sem] theorem qo8:(V.n e).cells=[V.n e]:=(rfl)
@[go_sem] theorem qoY:(V.b x).cells=[V.b x]:=(rfl)
@[go_sem] theorem qoZ:(V.f fn xs ys).cells=[V.f fn xs ys]:=(rfl)
@[go_sem] theorem qpe:(V.t xs).cells=[V.t xs]:=(rfl)
@[go_sem] theorem qsX:(V.a cs).isA=true:=(rfl)
@[go_sem] theorem qsY:(V.i τ xs).isA=false:=(rfl)
@[go_sem] theorem qs7:(V.o e xs).isA=false:=(rfl)
@[go_sem] theorem qs6:(V.n e).isA=false:=(rfl)
@[go_sem] theorem qs8:(V.s k i o).isA=false:=(rfl)
@[go_sem] theorem qqv:(V.a cs).dead=false:=(rfl)
@[go_sem] theorem qqB:(V.p k i o).dead=false:=(rfl)
@[go_sem] theorem qqD:(V.s k i o).dead=false:=(rfl)
@[go_sem] theorem qqC:(V.q τ xs i o).dead=false:=(rfl)
@[go_sem] theorem qqy:(V.i τ xs).dead=false:=(rfl)
@[go_sem] theorem qqA:(V.o e xs).dead=false:=(rfl)
@[go_sem] theorem qqz:(V.n e).dead=false:=(rfl)
@[go_sem] theorem qqw:(V.b x).dead=false:=(rfl)
@[go_sem] theorem qqx:(V.f fn xs ys).dead=false:=(rfl)
@[go_sem] theorem qpw:clE (V.a cs)=yl cs:=(rfl)
@[go_sem] theorem qpz:clE (V.i τ xs)=true:=(rfl)
@[go_sem] theorem qpB:clE (V.o e xs)=true:=(rfl)
@[go_sem] theorem qpA:clE (V.n e)=true:=(rfl)
@[go_sem] theorem qpD:clE (V.q τ xs i o)=true:=(rfl)
@[go_sem] theorem qpx:clE (V.b x)=true:=(rfl)
@[go_sem] theorem qpE:clE (V.s k i o)=false:=(rfl)
@[go_sem] theorem qpC:clE (V.p k i o)=false:=(rfl)
@[go_sem] theorem qpy:clE (V.f fn xs ys)=(yl xs&&yl ys):=(rfl)
variable {d j:Nat}
@[go_sem] theorem qwK:q6 d j (.o e xs)=(.s (d,j) 0 xs.length,j+1,[((d,j),e,xs)]):=(rfl)
@[go_sem] theorem qwG:q6 d j (.b x)=(.p (d,j) 0 0,j+1,[((d,j),x.cells.length,[x])]):=(rfl)
@[go_sem] theorem qwH:q6 d j (.i τ xs)=(.i τ xs,j,[]):=(rfl)
@[go_sem] theorem qwL:q6 d j (.q τ xs i o)=(.q τ xs i o,j,[]):=(rfl)
@[go_sem] theorem qwJ:q6 d j (.n e)=(.n e,j,[]):=(rfl)
@[go_sem] theorem qwC:q6 d j (I n)=(I n,j,[]):=(rfl)
@[go_sem] theorem qwA:q6 d j (B b)=(B b,j,[]):=(rfl)
@[go_sem] theorem qwD:q6 d j (S l)=(S l,j,[]):=(rfl)
@[go_sem] theorem qwF:q6 d j (U8 n)=(U8 n,j,[]):=(rfl)
@[go_sem] theorem qwE:q6 d j (U32 n)=(U32 n,j,[]):=(rfl)
@[go_sem] theorem qwB:q6 d j (Fc g)=(Fc g,j,[]):=(rfl)
@[go_sem] theorem qwf:qF d j (.a cs)=(.a (q8 d j cs).1,(q8 d j cs).2):=(rfl)
@[go_sem] theorem qwh:qF d j (.f fn xs ys)=(.f fn (q8 d j xs).1 (q8 d (q8 d j xs).2.1 ys).1,(q8 d (q8 d j xs).2.1 ys).2.1,(q8 d j xs).2.2++(q8 d (q8 d j xs).2.1 ys).2.2):=(rfl)
@[go_sem] theorem qwk:qF d j (.o e xs)=(.s (d,j) 0 xs.length,j+1,[((d,j),e,xs)]):=(rfl)
@[go_sem] theorem qwg:qF d j (.b x)=(.p (d,j) 0 0,j+1,[((d,j),x.cells.length,[x])]):=(rfl)
@[go_sem] theorem qwi:qF d j (.i τ xs)=(.i τ xs,j,[]):=(rfl)
@[go_sem] theorem qwl:qF d j (.q τ xs i o)=(.q τ xs i o,j,[]):=(rfl)
@[go_sem] theorem qwj:qF d j (.n e)=(.n e,j,[]):=(rfl)
@[go_sem] theorem qwb:qF d j (I n)=(I n,j,[]):=(rfl)
@[go_sem] theorem qwa:qF d j (B b)=(B b,j,[]):=(rfl)
@[go_sem] theorem qwc:qF d j (S l)=(S l,j,[]):=(rfl)
@[go_sem] theorem qwe:qF d j (U8 n)=(U8 n,j,[]):=(rfl)
@[go_sem] theorem qwd:qF d j (U32 n)=(U32 n,j,[]):=(rfl)
@[go_sem] theorem qwz:zx d (.t xs)=(.t (yR d 0 xs).1,(yR d 0 xs).2.2):=(rfl)
@[go_sem] theorem qws:zx d (.a cs)=(.a (q8 d 0 cs).1,(q8 d 0 cs).2.2):=(rfl)
@[go_sem] theorem qwu:zx d (.f fn xs ys)=((qF d 0 (.f fn xs ys)).1,(qF d 0 (.f fn xs ys)).2.2):=(rfl)
@[go_sem] theorem qwx:zx d (.o e xs)=(.s (d,0) 0 xs.length,[((d,0),e,xs)]):=(rfl)
@[go_sem] theorem qwt:zx d (.b x)=(.p (d,0) 0 0,[((d,0),x.cells.length,[x])]):=(rfl)
@[go_sem] theorem qwv:zx d (.i τ xs)=(.i τ xs,[]):=(rfl)
@[go_sem] theorem qwy:zx d (.q τ xs i o)=(.q τ xs i o,[]):=(rfl)
@[go_sem] theorem qww:zx d (.n e)=(.n e,[]):=(rfl)
@[go_sem] theorem qwo:zx d (I n)=(I n,[]):=(rfl)
@[go_sem] theorem qwm:zx d (B b)=(B b,[]):=(rfl)
@[go_sem] theorem qwp:zx d (S l)=(S l,[]):=(rfl)
@[go_sem] theorem qwr:zx d (U8 n)=(U8 n,[]):=(rfl)
@[go_sem] theorem qwq:zx d (U32 n)=(U32 n,[]):=(rfl)
@[go_sem] theorem qwn:zx d (Fc g)=(Fc g,[]):=(rfl)
end
@[go_sem] theorem qts {d:Nat}:qE d (I n)=I n:=(rfl)
@[go_sem] theorem qtq {d:Nat}:qE d (B b)=B b:=(rfl)
@[go_sem] theorem qtt {d:Nat}:qE d (S l)=S l:=(rfl)
@[go_sem] theorem qtv {d:Nat}:qE d (U8 n)=U8 n:=(rfl)
@[go_sem] theorem qtu {d:Nat}:qE d (U32 n)=U32 n:=(rfl)
@[go_sem] theorem qtr {d:Nat}:qE d (Fc g)=Fc g:=(rfl)
@[go_sem] theorem qtx {d:Nat}:qE d zH=zH:=(rfl)
@[go_sem] theorem qoT:(I n).cells=[I n]:=(rfl)
@[go_sem] theorem qoR:(B b).cells=[B b]:=(rfl)
@[go_sem] theorem qoU:(S l).cells=[S l]:=(rfl)
@[go_sem] theorem qoW:(U8 n).cells=[U8 n]:=(rfl)
@[go_sem] theorem qoV:(U32 n).cells=[U32 n]:=(rfl)
@[go_sem] theorem qoS:(Fc g).cells=[Fc g]:=(rfl)
@[go_sem] theorem qsV:(I n).isA=false:=(rfl)
@[go_sem] theorem qsU:(B b).isA=false:=(rfl)
@[go_sem] theorem qsW:(S l).isA=false:=(rfl)
@[go_sem] theorem qqs:(I n).dead=false:=(rfl)
@[go_sem] theorem qqr:(B b).dead=false:=(rfl)
@[go_sem] theorem qqt:(S l).dead=false:=(rfl)
@[go_sem] theorem qqu:(U8 n).dead=false:=(rfl)
@[go_sem] theorem qvU:(I n).one=true:=(rfl)
@[go_sem] theorem qvS:(B b).one=true:=(rfl)
@[go_sem] theorem qvV:(S l).one=true:=(rfl)
@[go_sem] theorem qvX:(U8 n).one=true:=(rfl)
@[go_sem] theorem qvW:(U32 n).one=true:=(rfl)
@[go_sem] theorem qvT:(Fc g).one=true:=(rfl)
@[go_sem] theorem qv4 {k:Key} {i o:Nat}:(V.p k i o).one=true:=(rfl)
@[go_sem] theorem qv6 {k:Key} {i o:Nat}:(V.s k i o).one=true:=(rfl)
@[go_sem] theorem qv5 {τ:Bool} {xs:List V} {i o:Nat}:(V.q τ xs i o).one=true:=(rfl)
@[go_sem] theorem qv0 {τ:Bool} {xs:List V}:(V.i τ xs).one=true:=(rfl)
@[go_sem] theorem qv3 {e:Nat} {xs:List V}:(V.o e xs).one=true:=(rfl)
@[go_sem] theorem qv2 {e:Nat}:(V.n e).one=true:=(rfl)
@[go_sem] theorem qvY {x:V}:(V.b x).one=true:=(rfl)
@[go_sem] theorem qvZ {fn:Fn} {xs ys:List V}:(V.f fn xs ys).one=true:=(rfl)
@[go_sem] theorem qzN:qS (I n)=true:=(rfl)
@[go_sem] theorem qzL:qS (B b)=true:=(rfl)
@[go_sem] theorem qzO:qS (S l)=true:=(rfl)
@[go_sem] theorem qzQ:qS (U8 n)=true:=(rfl)
@[go_sem] theorem qzP:qS (U32 n)=true:=(rfl)
@[go_sem] theorem qzM:qS (Fc g)=true:=(rfl)
@[go_sem] theorem qpo:clB (I n)=true:=(rfl)
@[go_sem] theorem qpm:clB (B b)=true:=(rfl)
@[go_sem] theorem qpp:clB (S l)=true:=(rfl)
@[go_sem] theorem qpr:clB (U8 n)=true:=(rfl)
@[go_sem] theorem qpq:clB (U32 n)=true:=(rfl)
@[go_sem] theorem qpn:clB (Fc g)=true:=(rfl)
@[go_sem] theorem qpt:clE (I n)=true:=(rfl)
@[go_sem] theorem qps:clE (B b)=true:=(rfl)
@[go_sem] theorem qpu:clE (S l)=true:=(rfl)
@[go_sem] theorem qpv:clE (U8 n)=true:=(rfl)
@[go_sem] theorem qeK {τ:Bool}:qP τ (I n)=I n:=(rfl)
@[go_sem] theorem qqh {τ:Bool}:qP τ (B b)=B b:=(rfl)
@[go_sem] theorem qeL {τ:Bool}:qP τ (S l)=S l:=(rfl)
@[go_sem] theorem qqk {τ:Bool}:qP τ (U8 n)=U8 n:=(rfl)
@[go_sem] theorem qqj {τ:Bool}:qP τ (U32 n)=U32 n:=(rfl)
@[go_sem] theorem qqi {τ:Bool}:qP τ (Fc g)=Fc g:=(rfl)
@[go_sem] theorem qcc:qR (I n)=true:=(rfl)
@[go_sem] theorem qvJ:qR (B b)=true:=(rfl)
@[go_sem] theorem qcd:qR (S l)=true:=(rfl)
@[go_sem] theorem qvM:qR (U8 n)=true:=(rfl)
@[go_sem] theorem qvL:qR (U32 n)=true:=(rfl)
@[go_sem] theorem qvK:qR (Fc g)=true:=(rfl)
@[go_sem] theorem qpL {m:Nat} {T:Mem}:qt (m+1) T (I n)=(I n,T):=(rfl)
@[go_sem] theorem qpJ {m:Nat} {T:Mem}:qt (m+1) T (B b)=(B b,T):=(rfl)
@[go_sem] theorem qpM {m:Nat} {T:Mem}:qt (m+1) T (S l)=(S l,T):=(rfl)
@[go_sem] theorem qpO {m:Nat} {T:Mem}:qt (m+1) T (U8 n)=(U8 n,T):=(rfl)
@[go_sem] theorem qpN {m:Nat} {T:Mem}:qt (m+1) T (U32 n)=(U32 n,T):=(rfl)
@[go_sem] theorem qpK {m:Nat} {T:Mem}:qt (m+2) T (Fc g)=(Fc g,T):=(rfl)
@[go_sem] theorem qpS {m:Nat} {T:Mem} {τ:Bool} {xs:List V}:qt (m+1) T (.i τ xs)=(.i τ xs,T):=(rfl)
@[go_sem] theorem qpV {m:Nat} {T:Mem} {e:Nat} {xs:List V}:qt (m+1) T (.o e xs)=(.o e xs,T):=(rfl)
@[go_sem] theorem qpX {m:Nat} {T:Mem} {τ:Bool} {xs:List V} {i o:Nat}:qt (m+1) T (.q τ xs i o)=(.q τ xs i o,T):=(rfl)
@[go_sem] theorem qpQ {m:Nat} {T:Mem} {x:V}:qt (m+1) T (.b x)=(.b x,T):=(rfl)
@[go_sem] theorem qpU {m:Nat} {T:Mem} {e:Nat}:qt (m+1) T (.n e)=(.o e [],T):=(rfl)
@[go_sem] theorem qpP {m:Nat} {T:Mem} {cs:List V}:qt (m+1) T (.a cs)=(.a (qv (qt m) T cs).1,(qv (qt m) T cs).2):=(rfl)
@[go_sem] theorem qpZ {m:Nat} {T:Mem} {cs:List V}:qt (m+1) T (.t cs)=(.t (qv (qt m) T cs).1,(qv (qt m) T cs).2):=(rfl)
@[go_sem] theorem qpR {m:Nat} {T:Mem} {fn:Fn} {xs ys:List V}:qt (m+1) T (.f fn xs ys)=(.f fn (qv (qt m) T xs).1 (qv (qt m) (qv (qt m) T xs).2 ys).1,(qv (qt m) (qv (qt m) T xs).2 ys).2):=(rfl)
def esV(m:Nat) (T:Mem) (xs:List V):List V × Mem:=zl (qx xs) (xs,T) (qv (qt m) T xs)
def sK(m:Nat) (T':Mem) (lo len:Nat) (ob:Option Ob) (T:Mem):V × Mem:=
 match ob with
 |none=>(.d,T)
 |some ob=>if lo+len≤ob.2.length then
  (if lo=0 then (.o ob.1 (((esV m T' ob.2).1.drop lo).take len),(esV m T' ob.2).2)
  else (.o ob.1 (esV m T' ((ob.2.drop lo).take len)).1,(esV m T' ((ob.2.drop lo).take len)).2))else (.d,T)
@[go_sem] theorem qpY {m:Nat} {T:Mem} {k:Key} {lo len:Nat}:qt (m+1) T (.s k lo len)=sK m (qu T k) lo len (qo T k) T:=by
 simp only [qt,sK,esV,zl];cases qo T k<;>rfl
@[go_sem] theorem qyD {m:Nat} {T T':Mem} {lo len e:Nat} {xs:List V}:sK m T' lo len (some (e,xs)) T=if lo+len≤xs.length then (if lo=0 then (.o e (((esV m T' xs).1.drop lo).take len),(esV m T' xs).2)else (.o e (esV m T' ((xs.drop lo).take len)).1,(esV m T' ((xs.drop lo).take len)).2))else (.d,T):=(rfl)
@[go_sem] theorem qyC {m:Nat} {T T':Mem} {lo len:Nat}:sK m T' lo len none T=(.d,T):=(rfl)
@[go_sem] theorem qrS {m:Nat} {T:Mem} {xs:List V}:esV m T xs=zl (qx xs) (xs,T) (qv (qt m) T xs):=(rfl)
def pK(m:Nat) (T':Mem) (ob:Option Ob) (T:Mem):V × Mem:=
 match ob with
 |some (_,[x])=>(.b ((esV m T' [x]).1.headD .d),(esV m T' [x]).2)
 |_=>(.d,T)
@[go_sem] theorem qpW {m:Nat} {T:Mem} {k:Key}:qt (m+1) T (.p k 0 0)=pK m (qu T k) (qo T k) T:=by
 simp only [qt,pK,esV,zl]
 cases qo T k with
 |none=>rfl
 |some ob=>obtain ⟨e,xs⟩:=ob;rcases xs with _|⟨x,_|⟨y,r⟩⟩<;>rfl
@[go_sem] theorem qw1 {m:Nat} {T T':Mem} {e:Nat} {x:V}:pK m T' (some (e,[x])) T=(.b ((esV m T' [x]).1.headD .d),(esV m T' [x]).2):=(rfl)
@[go_sem] theorem qw0 {m:Nat} {T T':Mem}:pK m T' none T=(.d,T):=(rfl)
attribute [go_sem] qv List.headD xx wT XU
def qyw(T:Mem) (k:Key) (ob:Option Ob):Mem:=
 match ob with
 |none=>T
 |some ob=>zl (qx ob.2) (y7 k ob (qu T k)) (qu T k)
end vals
@[go_sem] theorem qsv {d:Nat} {x:AO}:qk call ⟨σ,T⟩ (.mv d x)=qm (ev σ x) fun y=>some ⟨(d,y)::σ,T⟩:=by
 simp only [qk,qh];cases ev σ x<;>rfl
def Z5 {α:Type} (c:Option V) (x y:α) (z:α):α:=
 match c with
 |some (.v (.bool true))=>x
 |some (.v (.bool false))=>y
 |_=>z
@[congr] theorem qyH {α:Type} {c c':Option V} {x y z:α} (h:c=c'):Z5 c x y z=Z5 c' x y z:=by rw [h]
@[go_sem] theorem qyG {α:Type} {b:Bool} {x y z:α}:Z5 (some (B b)) x y z=if b=true then x else y:=by cases b<;>rfl
end
end Go.Vm
namespace Go.Vm
section
variable {prog:Nat→Option AE} {st:St} {σ:Sl} {T:Mem} {call:qM}
@[go_sem] theorem qmT {d:Nat} {x:AO}:qh call ⟨σ,T⟩ (.mv d x)=qk call ⟨σ,T⟩ (.mv d x):=(rfl)
@[go_sem] theorem qmX {d:Nat} {x:AO} {y:AO} {z:AO}:qh call ⟨σ,T⟩ (.pick d x y z)=qk call ⟨σ,T⟩ (.pick d x y z):=(rfl)
@[go_sem] theorem qmV {d:Nat} {x:AO}:qh call ⟨σ,T⟩ (.new d x)=qk call ⟨σ,T⟩ (.new d x):=(rfl)
@[go_sem] theorem qmy {d:Nat} {v:V} {bs:List (Nat × Nat × AO)}:qh call ⟨σ,T⟩ (.build d v bs)=qk call ⟨σ,T⟩ (.build d v bs):=(rfl)
@[go_sem] theorem qmR {d:Nat} {e:Nat} {xs:List AO}:qh call ⟨σ,T⟩ (.mks d e xs)=qk call ⟨σ,T⟩ (.mks d e xs):=(rfl)
@[go_sem] theorem qmP {d:Nat} {e:Nat} {v:V} {n:Nat} {x:AO} {y:AO}:qh call ⟨σ,T⟩ (.mk d e v n x y)=qk call ⟨σ,T⟩ (.mk d e v n x y):=(rfl)
@[go_sem] theorem qmJ {d:Nat} {p:Bool} {n:Nat} {x:AO}:qh call ⟨σ,T⟩ (.ld d p n x)=qk call ⟨σ,T⟩ (.ld d p n x):=(rfl)
@[go_sem] theorem qmK {d:Nat} {p:Bool} {n:Nat} {x:AO}:qh call ⟨σ,T⟩ (.ldq d p n x)=qk call ⟨σ,T⟩ (.ldq d p n x):=(rfl)
@[go_sem] theorem qmW {d:Nat} {x:AO}:qh call ⟨σ,T⟩ (.nilc d x)=qk call ⟨σ,T⟩ (.nilc d x):=(rfl)
@[go_sem] theorem qmx {d:Nat} {op:BinOp} {x:AO} {y:AO}:qh call ⟨σ,T⟩ (.bin d op x y)=qk call ⟨σ,T⟩ (.bin d op x y):=(rfl)
@[go_sem] theorem qmB {d:Nat} {n:Nat} {p:Bool} {x:AO} {y:AO}:qh call ⟨σ,T⟩ (.eqs d n p x y)=qk call ⟨σ,T⟩ (.eqs d n p x y):=(rfl)
@[go_sem] theorem qm3 {d:Nat} {uo:UnOp} {x:AO}:qh call ⟨σ,T⟩ (.un d uo x)=qk call ⟨σ,T⟩ (.un d uo x):=(rfl)
@[go_sem] theorem qmY {d:Nat} {e:Nat} {x:AO} {ox:Option AO} {oy:Option AO}:qh call ⟨σ,T⟩ (.sl d e x ox oy)=qk call ⟨σ,T⟩ (.sl d e x ox oy):=(rfl)
@[go_sem] theorem qm0 {d:Nat} {x:AO} {ox:Option AO} {oy:Option AO}:qh call ⟨σ,T⟩ (.ssl d x ox oy)=qk call ⟨σ,T⟩ (.ssl d x ox oy):=(rfl)
@[go_sem] theorem qmZ {d:Nat} {x:AO}:qh call ⟨σ,T⟩ (.slen d x)=qk call ⟨σ,T⟩ (.slen d x):=(rfl)
@[go_sem] theorem qmD {d:Nat} {x:AO} {n:Nat}:qh call ⟨σ,T⟩ (.fa d x n)=qk call ⟨σ,T⟩ (.fa d x n):=(rfl)
@[go_sem] theorem qmE {d:Nat} {p:Bool} {n:Nat} {x:AO} {m:Nat}:qh call ⟨σ,T⟩ (.fld d p n x m)=qk call ⟨σ,T⟩ (.fld d p n x m):=(rfl)
@[go_sem] theorem qmG {d:Nat} {e:Nat} {x:AO} {y:AO}:qh call ⟨σ,T⟩ (.ia d e x y)=qk call ⟨σ,T⟩ (.ia d e x y):=(rfl)
@[go_sem] theorem qmI {d:Nat} {x:AO} {y:AO}:qh call ⟨σ,T⟩ (.ix d x y)=qk call ⟨σ,T⟩ (.ix d x y):=(rfl)
@[go_sem] theorem qmC {d:Nat} {x:AO} {n:Nat}:qh call ⟨σ,T⟩ (.ext d x n)=qk call ⟨σ,T⟩ (.ext d x n):=(rfl)
@[go_sem] theorem qmF {d:Nat} {fn:Fn} {xs:List AO} {ys:List AO}:qh call ⟨σ,T⟩ (.fun d fn xs ys)=qk call ⟨σ,T⟩ (.fun d fn xs ys):=(rfl)
@[go_sem] theorem qmw {d:Nat} {e:Nat} {n:Nat} {x:AO} {y:AO}:qh call ⟨σ,T⟩ (.app d e n x y)=qk call ⟨σ,T⟩ (.app d e n x y):=(rfl)
@[go_sem] theorem qmL {d:Nat} {x:AO}:qh call ⟨σ,T⟩ (.len d x)=qk call ⟨σ,T⟩ (.len d x):=(rfl)
@[go_sem] theorem qmU {d:Nat} {p:Bool} {xs:List AO}:qh call ⟨σ,T⟩ (.mx d p xs)=qk call ⟨σ,T⟩ (.mx d p xs):=(rfl)
@[go_sem] theorem qmH {d:Nat} {ik:IntKind} {x:AO}:qh call ⟨σ,T⟩ (.int d ik x)=qk call ⟨σ,T⟩ (.int d ik x):=(rfl)
@[go_sem] theorem qm2 {d:Nat} {x:AO}:qh call ⟨σ,T⟩ (.str d x)=qk call ⟨σ,T⟩ (.str d x):=(rfl)
@[go_sem] theorem qmz {d:Nat} {x:AO}:qh call ⟨σ,T⟩ (.byt d x)=qk call ⟨σ,T⟩ (.byt d x):=(rfl)
@[go_sem] theorem qm1 {n:Nat} {x:AO} {y:AO}:qh call ⟨σ,T⟩ (.st n x y)=qk call ⟨σ,T⟩ (.st n x y):=(rfl)
@[go_sem] theorem qmA {o:Option Nat} {x:AO} {xs:List AO} {md:Md}:qh call ⟨σ,T⟩ (.call o x xs md)=qk call ⟨σ,T⟩ (.call o x xs md):=(rfl)
@[go_sem] theorem qsz {d:Nat} {c x y:AO}:qk call ⟨σ,T⟩ (.pick d c x y)=Z5 (ev σ c) (qm (ev σ x) fun y=>some ⟨(d,y)::σ,T⟩) (qm (ev σ y) fun y=>some ⟨(d,y)::σ,T⟩) none:=by
 simp only [qk,qh,Z5]
 split
 ·rename_i h;rw [h];cases ev σ x<;>rfl
 ·rename_i h;rw [h];cases ev σ y<;>rfl
 ·rename_i h1 h2;split
  ·rename_i h;exact absurd h h1
  ·rename_i h;exact absurd h h2
  ·rfl
@[go_sem] theorem qsx {d:Nat} {x:AO}:qk call ⟨σ,T⟩ (.new d x)=qm (ev σ x) fun y=>yP (ya y.cells) (some ⟨(d,.p (d,0) 0 0)::yB d σ,((d,0),y.cells.length,[qE d y])::wT d T⟩):=by
 simp only [qk,qh];cases ev σ x<;>rfl
def qev:List V→List (Nat × Nat × V)→Option (List V)
 |z,[]=>some z
 |z,(off,size,y)::r=>yP (!y.dead&&decide (y.cells.length=size∧off+size≤z.length)) (qev (z.take off++y.cells++z.drop (off+size)) r)
@[go_sem] theorem qoK {z:List V}:xB σ z []=some z:=(rfl)
@[go_sem] theorem qoJ {z:List V} {off size:Nat} {x:AO} {r:List (Nat × Nat × AO)}:xB σ z ((off,size,x)::r)=
 qm (ev σ x) fun y=>yP (!y.dead&&decide (y.cells.length=size)&&decide (off+size≤z.length)) (xB σ (z.take off++y.cells++z.drop (off+size)) r):=by
 simp only [xB]
 cases ev σ x with
 |none=>rfl
 |some y=>
  simp only [qm,yP]
  congr 1
  simp [and_assoc]
@[go_sem] theorem qr8 {d:Nat} {z:V} {parts:List (Nat × Nat × AO)}:qk call ⟨σ,T⟩ (.build d z parts)=zB (xB σ z.cells parts) fun cs=>some ⟨(d,.a cs)::σ,T⟩:=by
 simp only [qk,qh];cases xB σ z.cells parts<;>rfl
def j4(e:Nat):List V→Bool
 |[]=>true
 |y::ys=>ya y.cells&&(y.cells.length==e)&&j4 e ys
theorem Kq(e:Nat): ∀ (ys:List V),j4 e ys=ys.all fun y=>ya y.cells&&y.cells.length==e
 |[]=>rfl
 |y::ys=>by simp only [j4,List.all_cons,Kq e ys]
attribute [go_sem] j4
@[go_sem] theorem qst {d e:Nat} {parts:List AO}:qk call ⟨σ,T⟩ (.mks d e parts)=zB (evL σ parts) fun ys=>
 yP (j4 e ys) (some ⟨(d,.s (d,0) 0 ys.length)::yB d σ,((d,0),e,qz d ys)::wT d T⟩):=by
 simp only [qk,qh,Kq];cases evL σ parts<;>rfl
def mkK(e bytes:Nat) (z l c:V) (d:Nat) (σ:Sl) (T:Mem):Option St:=
 match l,c with
 | .v (.int _ l),.v (.int _ c)=>
  if 0≤l∧l=c∧l*bytes≤lim∧l≤lim∧z.cells.length=e∧ya z.cells∧clE z then
   some {σ:=(d,.s (d,0) 0 l.toNat)::(qW d ⟨σ,T⟩).σ,T:=((d,0),e,List.replicate l.toNat z)::(qW d ⟨σ,T⟩).T}
  else none
 |_,_=>none
@[go_sem] theorem qsr {d e bytes:Nat} {z:V} {l c:AO}:qk call ⟨σ,T⟩ (.mk d e z bytes l c)=qm (ev σ l) fun l=>qm (ev σ c) fun c=>mkK e bytes z l c d σ T:=by
 simp only [qk,qh,mkK]
 cases ev σ l with
 |none=>rfl
 |some l=>cases ev σ c with
  |none=>cases l<;>first|rfl|(rename_i v;cases v<;>rfl)
  |some c=>cases l<;>first|rfl|(rename_i v;cases v<;>first|rfl|(cases c<;>first|rfl|(rename_i v;cases v<;>rfl)))
@[go_sem] theorem qsl {d size:Nat} {agg:Bool} {a:AO}:qk call ⟨σ,T⟩ (.ld d agg size a)=qm (ev σ a) fun p=>qm (yo T agg size p) fun y=>
 zl (qS y) (some ⟨(d,y)::σ,T⟩) (qm (yo (wT d T) agg size p) fun y'=>ko (kG (wT d T) p (qF d 0 y').1) fun T'=>some ⟨(d,(qF d 0 y').1)::yB d σ,(qF d 0 y').2.2++T'⟩):=by
 simp only [qk,qh]
 cases ev σ a with
 |none=>rfl
 |some p=>
  simp only [qm]
  cases yo T agg size p with
  |none=>rfl
  |some y=>
   simp only [zl]
   cases h:qS y
   ·simp only [Bool.not_false,Bool.false_eq_true,if_true,if_false,qdZ]
    cases yo (wT d T) agg size p with
    |none=>rfl
    |some y'=>
     simp only
     cases kG (wT d T) p (qF d 0 y').1<;>rfl
   ·simp [St.put]
@[go_sem] theorem qsm {d size:Nat} {agg:Bool} {a:AO}:qk call ⟨σ,T⟩ (.ldq d agg size a)=qm (ev σ a) fun p=>qm (yo T agg size p) fun y=>yP (qS y) (some ⟨(d,y)::σ,T⟩):=by
 simp only [qk,qh]
 cases ev σ a with
 |none=>rfl
 |some p=>simp only [qm];cases yo T agg size p<;>rfl
@[go_sem] theorem qsD {size:Nat} {a x:AO}:qk call ⟨σ,T⟩ (.st size a x)=qm (ev σ a) fun p=>qm (ev σ x) fun y=>
 yP (decide (y.cells.length=size)&&ya y.cells) (ko (kG T p y) fun T'=>some ⟨σ,T'⟩):=by
 simp only [qk,qh]
 cases ev σ a with
 |none=>rfl
 |some p=>cases ev σ x with
  |none=>rfl
  |some y=>
   simp only [qm,yP,Bool.and_eq_true,decide_eq_true_eq]
   congr 1
   cases kG T p y<;>rfl
def ZO(d:Nat) (σ:Sl) (T:Mem):V→Option St
 | .p k idx off=>some ⟨(d,.p k idx off)::σ,T⟩
 | .q τ xs idx off=>some ⟨(d,.q τ xs idx off)::σ,T⟩
 | .f (.func g) first caps=>some ⟨(d,.f (.func g) first caps)::σ,T⟩
 |_=>none
@[go_sem] theorem quv {d:Nat} {k:Key} {i o:Nat}:ZO d σ T (.p k i o)=some ⟨(d,.p k i o)::σ,T⟩:=(rfl)
@[go_sem] theorem quw {d:Nat} {τ:Bool} {xs:List V} {i o:Nat}:ZO d σ T (.q τ xs i o)=some ⟨(d,.q τ xs i o)::σ,T⟩:=(rfl)
@[go_sem] theorem quu {d g:Nat} {xs ys:List V}:ZO d σ T (.f (.func g) xs ys)=some ⟨(d,.f (.func g) xs ys)::σ,T⟩:=(rfl)
@[go_sem] theorem qut {d g:Nat}:ZO d σ T (Fc g)=some ⟨(d,Fc g)::σ,T⟩:=(rfl)
@[go_sem] theorem qsy {d:Nat} {x:AO}:qk call ⟨σ,T⟩ (.nilc d x)=qm (ev σ x) fun y=>ZO d σ T y:=by
 simp only [qk,qh]
 cases ev σ x with
 |none=>rfl
 |some y=>cases y<;>first|rfl|(rename_i f _ _;cases f<;>rfl)
@[go_sem] theorem qr7 {d:Nat} {op:BinOp} {x y:AO}:qk call ⟨σ,T⟩ (.bin d op x y)=qm (ev σ x) fun x=>qm (ev σ y) fun y=>qm (ze op x y) fun z=>some ⟨(d,z)::σ,T⟩:=by
 simp only [qk,qh]
 cases ev σ x with
 |none=>rfl
 |some x=>cases ev σ y with
  |none=>rfl
  |some y=>simp only [qm];cases ze op x y<;>rfl
def eqB(k:Nat) (x y:V):Option V:=(eqV k x y).map B
@[go_sem] theorem qsb {d k:Nat} {neg:Bool} {x y:AO}:qk call ⟨σ,T⟩ (.eqs d k neg x y)=qm (ev σ x) fun x=>qm (ev σ y) fun y=>qm ((eqV k x y).map fun r=>B (r != neg)) fun z=>some ⟨(d,z)::σ,T⟩:=by
 simp only [qk,qh]
 cases ev σ x with
 |none=>rfl
 |some x=>cases ev σ y with
  |none=>rfl
  |some y=>simp only [qm];cases eqV k x y<;>rfl
def unV(op:UnOp):V→Option V
 | .v x=>(Op.unary op x).val?.map .v
 |_=>none
@[go_sem] theorem qsF {d:Nat} {op:UnOp} {x:AO}:qk call ⟨σ,T⟩ (.un d op x)=qm (ev σ x) fun x=>qm (unV op x) fun z=>some ⟨(d,z)::σ,T⟩:=by
 simp only [qk,qh]
 cases ev σ x with
 |none=>rfl
 |some x=>cases x<;>first|rfl|(simp only [qm,unV,Option.map_map];rename_i v;cases (Op.unary op v).val?<;>rfl)
@[go_sem] theorem qyX {b:Bool}:unV .not (B b)=some (B (!b)):=(rfl)
@[go_sem] theorem qyW {n:Int}:unV .neg (I n)=some (I (w64 (0 - n))):=(rfl)
def kp {α:Type} (r:Option (Option V)) (k:Option V→Option α):Option α:=
 match r with
 |some y=>k y
 |none=>none
@[congr] theorem qn5 {α:Type} {r r':Option (Option V)} {k:Option V→Option α} (h:r=r'):kp r k=kp r' k:=by rw [h]
@[go_sem] theorem qn6 {α:Type} {x:Option V} {k:Option V→Option α}:kp (some x) k=k x:=(rfl)
@[go_sem] theorem qrX {x:AO}:evO σ (some x)=qm (ev σ x) fun y=>some (some y):=by
 simp only [evO];cases ev σ x<;>rfl
@[go_sem] theorem qsA {d e:Nat} {x:AO} {lo hi:Option AO}:qk call ⟨σ,T⟩ (.sl d e x lo hi)=qm (ev σ x) fun x=>kp (evO σ lo) fun lo=>kp (evO σ hi) fun hi=>qm (Qy T e x lo hi) fun z=>some ⟨(d,z)::σ,T⟩:=by
 simp only [qk,qh]
 cases ev σ x with
 |none=>rfl
 |some x=>cases evO σ lo with
  |none=>rfl
  |some lo=>cases evO σ hi with
   |none=>rfl
   |some hi=>simp only [qm,kp];cases Qy T e x lo hi<;>rfl
def jP(x:V) (lo hi:Option V):Option V:=
 match x with
 | .v (.string s)=>match yj 0 lo,yj s.size hi with
  |some l,some h=>if l≤h∧h≤s.size then some (.v (.string (s.extract l h)))else none
  |_,_=>none
 |_=>none
@[go_sem] theorem qsC {d:Nat} {x:AO} {lo hi:Option AO}:qk call ⟨σ,T⟩ (.ssl d x lo hi)=qm (ev σ x) fun x=>kp (evO σ lo) fun lo=>kp (evO σ hi) fun hi=>qm (jP x lo hi) fun z=>some ⟨(d,z)::σ,T⟩:=by
 simp only [qk,qh]
 cases ev σ x with
 |none=>rfl
 |some x=>cases evO σ lo with
  |none=>cases x<;>first|rfl|(rename_i v;cases v<;>rfl)
  |some lo=>cases evO σ hi with
   |none=>cases x<;>first|rfl|(rename_i v;cases v<;>rfl)
   |some hi=>
    simp only [qm,kp,jP]
    cases x<;>first|rfl|(rename_i v;cases v<;>first|rfl|skip)
    rename_i s
    simp only
    cases yj 0 lo with
    |none=>rfl
    |some l=>cases yj s.size hi with
     |none=>rfl
     |some h=>simp only;split<;>rfl
def j7(d:Nat):Option V→Option Int
 |none=>some d
 |some (.v (.int _ i))=>some i
 |_=>none
@[go_sem] theorem qon {d:Nat}:j7 d none=some d:=(rfl)
@[go_sem] theorem qom {d:Nat} {i:Int}:j7 d (some (I i))=some i:=(rfl)
theorem JL {l:List UInt8} {lo hi:Option V} {a b:Int} (h1:j7 0 lo=some a) (h2:j7 l.length hi=some b) (h3:0≤a) (h4:a≤b) (h5:b≤l.length):
 jP (S l) lo hi=some (S ((l.take b.toNat).drop a.toNat)):=by
 have e1:yj 0 lo=some a.toNat:=by
  unfold yj;unfold j7 at h1;split at h1
  ·simp only [Option.some.injEq]at h1;subst h1;simp
  ·simp only [Option.some.injEq]at h1;subst h1;simp [h3]
  ·cases h1
 have e2:yj l.length hi=some b.toNat:=by
  unfold yj;unfold j7 at h2;split at h2
  ·simp only [Option.some.injEq]at h2;subst h2;simp
  ·simp only [Option.some.injEq]at h2;subst h2;show (if _ then _ else _)=_;rw [if_pos (by omega)]
  ·cases h2
 have hs:(ByteArray.mk l.toArray).size=l.length:=by simp [ByteArray.size]
 simp only [jP,S,hs,e1,e2]
 rw [if_pos ⟨by omega,by omega⟩]
 congr 3
 apply ByteArray.ext
 apply Array.ext'
 simp only [ByteArray.data_extract,List.extract_toArray,List.toList_toArray,List.extract_eq_take_drop]
 rw [List.drop_take]
def JJ:V→Option V
 | .v (.string s)=>some (.v (.int .i64 s.size))
 |_=>none
@[go_sem] theorem qsB {d:Nat} {x:AO}:qk call ⟨σ,T⟩ (.slen d x)=qm (ev σ x) fun x=>qm (JJ x) fun z=>some ⟨(d,z)::σ,T⟩:=by
 simp only [qk,qh]
 cases ev σ x with
 |none=>rfl
 |some x=>cases x<;>first|rfl|(rename_i v;cases v<;>rfl)
@[go_sem] theorem qyN {l:List UInt8}:JJ (S l)=some (I l.length):=by simp [JJ,S,I,ByteArray.size]
def faV(off:Nat):V→Option V
 | .p k idx o=>some (.p k idx (o+off))
 | .q τ xs idx o=>some (.q τ xs idx (o+off))
 |_=>none
@[go_sem] theorem qr1 {off:Nat} {k:Key} {i o:Nat}:faV off (.p k i o)=some (.p k i (o+off)):=(rfl)
@[go_sem] theorem qr2 {off:Nat} {τ:Bool} {xs:List V} {i o:Nat}:faV off (.q τ xs i o)=some (.q τ xs i (o+off)):=(rfl)
@[go_sem] theorem qsd {d off:Nat} {x:AO}:qk call ⟨σ,T⟩ (.fa d x off)=qm (ev σ x) fun x=>qm (faV off x) fun z=>some ⟨(d,z)::σ,T⟩:=by
 simp only [qk,qh]
 cases ev σ x with
 |none=>rfl
 |some x=>cases x<;>rfl
def KK(agg:Bool) (size off:Nat):V→Option V
 | .a cs=>qN agg size (.a cs) off
 |_=>none
@[go_sem] theorem qr3 {agg:Bool} {size off:Nat} {cs:List V}:KK agg size off (.a cs)=qN agg size (.a cs) off:=(rfl)
@[go_sem] theorem qse {d size off:Nat} {agg:Bool} {x:AO}:qk call ⟨σ,T⟩ (.fld d agg size x off)=qm (ev σ x) fun x=>qm (KK agg size off x) fun z=>some ⟨(d,z)::σ,T⟩:=by
 simp only [qk,qh]
 cases ev σ x with
 |none=>rfl
 |some x=>cases x<;>first|rfl|(simp only [qm,KK];rename_i cs;cases qN agg size (.a cs) off<;>rfl)
def iaV(T:Mem) (e:Nat) (x i:V):Option V:=
 match i with
 | .v (.int _ i)=>xi T e x i
 |_=>none
@[go_sem] theorem qsM {e:Nat} {x:V} {i:Int}:iaV T e x (I i)=xi T e x i:=(rfl)
@[go_sem] theorem qsi {d e:Nat} {x i:AO}:qk call ⟨σ,T⟩ (.ia d e x i)=qm (ev σ x) fun x=>qm (ev σ i) fun i=>qm (iaV T e x i) fun z=>some ⟨(d,z)::σ,T⟩:=by
 simp only [qk,qh]
 cases ev σ x with
 |none=>rfl
 |some x=>cases ev σ i with
  |none=>rfl
  |some i=>cases i<;>first|rfl|(rename_i v;cases v<;>first|rfl|(simp only [qm,iaV];rename_i j;cases xi T e x j<;>rfl))
def ixV:V→V→Option V
 | .v (.string s),.v (.int _ i)=>(zw i s.size).map fun j=>Xe (s.data[j]?.getD 0)
 |_,_=>none
@[go_sem] theorem qsk {d:Nat} {x i:AO}:qk call ⟨σ,T⟩ (.ix d x i)=qm (ev σ x) fun x=>qm (ev σ i) fun i=>qm (ixV x i) fun z=>some ⟨(d,z)::σ,T⟩:=by
 simp only [qk,qh]
 cases ev σ x with
 |none=>rfl
 |some x=>cases ev σ i with
  |none=>cases x<;>first|rfl|(rename_i v;cases v<;>rfl)
  |some i=>
   cases x<;>first|rfl|(rename_i v;cases v<;>first|rfl|skip)
   rename_i s
   cases i<;>first|rfl|(rename_i v;cases v<;>first|rfl|(simp only [qm,ixV];rename_i j;cases zw j s.size<;>rfl))
theorem ZJ {l:List UInt8} {i:Int} {c:UInt8} (h0:0≤i) (h:l[i.toNat]? =some c):ixV (S l) (I i)=some (U8 c.toNat):=by
 have hl:i.toNat < l.length:=(List.getElem?_eq_some_iff.1 h).1
 have hs:(ByteArray.mk l.toArray).size=l.length:=by simp [ByteArray.size]
 simp only [ixV,S,I,hs,zw]
 rw [if_pos ⟨h0,by omega⟩]
 simp [h,Xe,U8]
def KF(i:Nat):V→Option V
 | .t vs=>vs[i]?
 |_=>none
@[go_sem] theorem qr0 {i:Nat} {vs:List V}:KF i (.t vs)=vs[i]? :=(rfl)
@[go_sem] theorem qsc {d i:Nat} {x:AO}:qk call ⟨σ,T⟩ (.ext d x i)=qm (ev σ x) fun x=>qm (KF i x) fun z=>some ⟨(d,z)::σ,T⟩:=by
 simp only [qk,qh]
 cases ev σ x with
 |none=>rfl
 |some x=>cases x<;>first|rfl|(simp only [qm,KF];rename_i vs;cases vs[i]? <;>rfl)
@[go_sem] theorem qsf {d:Nat} {fn:Fn} {first caps:List AO}:qk call ⟨σ,T⟩ (.fun d fn first caps)=zB (evL σ first) fun a=>zB (evL σ caps) fun b=>some ⟨(d,.f fn a b)::σ,T⟩:=by
 simp only [qk,qh]
 cases evL σ first with
 |none=>rfl
 |some a=>cases evL σ caps<;>rfl
def ZK(x:V):Option V:=(k6 x).map fun n=>I n
@[go_sem] theorem qtI {k:Key} {lo len:Nat}:ZK (.s k lo len)=some (I len):=(rfl)
@[go_sem] theorem qtG {τ:Bool} {xs:List V}:ZK (.i τ xs)=some (I xs.length):=(rfl)
@[go_sem] theorem qtH {e:Nat}:ZK (.n e)=some (I 0):=(rfl)
@[go_sem] theorem qsn {d:Nat} {x:AO}:qk call ⟨σ,T⟩ (.len d x)=qm (ev σ x) fun x=>qm (ZK x) fun z=>some ⟨(d,z)::σ,T⟩:=by
 simp only [qk,qh]
 cases ev σ x with
 |none=>rfl
 |some x=>simp only [qm,ZK];cases k6 x<;>rfl
def mxV(max:Bool):List V→Option V
 |[.v (.int k a),.v (.int _ b)]=>some (.v (.int k (if max then (if b > a then b else a)else (if b < a then b else a))))
 |_=>none
@[go_sem] theorem qsw {d:Nat} {max:Bool} {args:List AO}:qk call ⟨σ,T⟩ (.mx d max args)=zB (evL σ args) fun xs=>qm (mxV max xs) fun z=>some ⟨(d,z)::σ,T⟩:=by
 simp only [qk,qh]
 cases evL σ args with
 |none=>rfl
 |some xs=>
  rcases xs with _|⟨x,_|⟨y,_|⟨z,r⟩⟩⟩
  ·rfl
  ·cases x<;>first|rfl|(rename_i v;cases v<;>rfl)
  ·cases x<;>first|rfl|(rename_i v;cases v<;>first|rfl|(cases y<;>first|rfl|(rename_i v;cases v<;>rfl)))
  ·cases x<;>first|rfl|(rename_i v;cases v<;>first|rfl|(cases y<;>first|rfl|(rename_i v;cases v<;>rfl)))
@[go_sem] theorem qun {a b:Int}:mxV true [I a,I b]=some (I (if b > a then b else a)):=(rfl)
@[go_sem] theorem qup {a b:Int}:mxV false [I a,I b]=some (I (if b < a then b else a)):=(rfl)
def KV(k:IntKind):V→Option V
 | .v (.int _ n)=>some (.v (.int k (k.wrap n)))
 |_=>none
@[go_sem] theorem qsj {d:Nat} {k:IntKind} {x:AO}:qk call ⟨σ,T⟩ (.int d k x)=qm (ev σ x) fun x=>qm (KV k x) fun z=>some ⟨(d,z)::σ,T⟩:=by
 simp only [qk,qh]
 cases ev σ x with
 |none=>rfl
 |some x=>cases x<;>first|rfl|(rename_i v;cases v<;>rfl)
@[go_sem] theorem qsQ {n:Int}:KV .i64 (U8 n)=some (I (w64 n)):=(rfl)
@[go_sem] theorem qsP {n:Int}:KV .u8 (I n)=some (U8 (IntKind.u8.wrap n)):=(rfl)
def JN(xs:Option (List V)):Option V:=
 match xs with
 |some xs=>(xj xs).map fun l=>S l
 |none=>none
@[go_sem] theorem qsE {d:Nat} {x:AO}:qk call ⟨σ,T⟩ (.str d x)=qm (ev σ x) fun x=>qm (JN (xk T 1 x)) fun z=>some ⟨(d,z)::σ,T⟩:=by
 simp only [qk,qh]
 cases ev σ x with
 |none=>rfl
 |some x=>
  simp only [qm]
  cases xk T 1 x with
  |none=>rfl
  |some xs=>simp only [JN];cases xj xs<;>rfl
@[go_sem] theorem qyR {xs:List V}:JN (some xs)=(xj xs).map fun l=>S l:=(rfl)
def jw {α:Type} (f:V) (k:Nat→List V→List V→Option α):Option α:=
 match f with
 | .f (.func g) first caps=>k g first caps
 |_=>none
@[congr] theorem qoM {α:Type} {f f':V} {k:Nat→List V→List V→Option α} (h:f=f'):jw f k=jw f' k:=by rw [h]
@[go_sem] theorem qoL {α:Type} {g:Nat} {k:Nat→List V→List V→Option α}:jw (Fc g) k=k g [] []:=(rfl)
@[go_sem] theorem qoN {α:Type} {g:Nat} {a b:List V} {k:Nat→List V→List V→Option α}:jw (.f (.func g) a b) k=k g a b:=(rfl)
@[go_sem] theorem qsa {d:Option Nat} {f:AO} {args:List AO} {fz:Bool}:qk (cw prog) ⟨σ,T⟩ (.call d f args (.ro fz))=qm (ev σ f) fun fv=>zB (evL σ args) fun xs=>
 jw fv fun g first caps=>qm (cr prog g (xx T (first++xs++caps))) fun r=>yP (qR r) (some (yL d (fzV fz r) ⟨σ,T⟩)):=by
 simp only [qk,qh]
 cases ev σ f with
 |none=>rfl
 |some fv=>
  cases evL σ args with
  |none=>simp only [qm,zB];cases callee fv<;>rfl
  |some xs=>
   simp only [qm,zB]
   cases fv with
   |f fn first caps=>
    cases fn<;>first|rfl|skip
    simp only [callee,jw,yN]
    unfold cr
    rename_i g
    cases cw prog g (xx T (first++xs++caps))with
    |none=>rfl
    |some r=>obtain ⟨r,o⟩:=r;rfl
   |_=>rfl
def ioK {α:Type} (r:Option (V × List V)) (k:V→List V→Option α):Option α:=
 match r with
 |some (r,outs)=>k r outs
 |none=>none
@[congr] theorem qsS {α:Type} {r r':Option (V × List V)} {k:V→List V→Option α} (h:r=r'):ioK r k=ioK r' k:=by rw [h]
@[go_sem] theorem qsT {α:Type} {r:V} {outs:List V} {k:V→List V→Option α}:ioK (some (r,outs)) k=k r outs:=(rfl)
@[go_sem] theorem qr9 {d:Option Nat} {f:AO} {args:List AO} {fz:Bool}:qk (cw prog) ⟨σ,T⟩ (.call d f args (.io fz))=qm (ev σ f) fun fv=>zB (evL σ args) fun xs=>
 jw fv fun g first caps=>ioK (cw prog g (qv (qt 30) T (first++xs++caps)).1) fun r outs=>some (yL d (fzV fz r) ⟨σ,km T (first++xs++caps) outs++(qv (qt 30) T (first++xs++caps)).2⟩):=by
 simp only [qk,qh]
 cases ev σ f with
 |none=>rfl
 |some fv=>
  cases evL σ args with
  |none=>simp only [qm,zB];cases callee fv<;>rfl
  |some xs=>
   simp only [qm,zB]
   cases fv with
   |f fn first caps=>
    cases fn<;>first|rfl|skip
   |_=>rfl
def bkO(k:Key) (lo e:Nat) (xs:List V) (ob:Option Ob):Mem:=
 match ob with
 |some ob=>if lo=0∧ob.1=e then [(k,e,xs)]else []
 |none=>[]
section
variable {k:Key} {lo len e i o:Nat} {xs ys zs:List V} {x y:V} {τ:Bool} {n:Int} {b:Bool} {l:List UInt8} {fn fn':Fn} {cs ds:List V}
@[go_sem] theorem qno:yy T (.s k lo len) (.o e xs)=bkO k lo e xs (qo T k):=by simp only [yy,bkO];cases qo T k<;>rfl
@[go_sem] theorem qoj {e':Nat} {zs:List V}:bkO k lo e xs (some (e',zs))=if lo=0∧e'=e then [(k,e,xs)]else []:=(rfl)
@[go_sem] theorem qnn:yy T (.s k lo len) .d=[]:=(rfl)
@[go_sem] theorem qnk:yy T (.i τ xs) y=[]:=(rfl)
@[go_sem] theorem qni:yy T (I n) y=[]:=(rfl)
@[go_sem] theorem qnj:yy T (S l) y=[]:=(rfl)
@[go_sem] theorem qnh:yy T (B b) y=[]:=(rfl)
@[go_sem] theorem qnl:yy T (.n e) y=[]:=(rfl)
@[go_sem] theorem qnm:yy T (.q τ xs i o) y=[]:=(rfl)
@[go_sem] theorem qns:xA T (.a cs) (.a ds)=xS T cs ds:=(rfl)
@[go_sem] theorem qnw:xA T (.s k lo len) y=yy T (.s k lo len) y:=(rfl)
@[go_sem] theorem qnt:xA T (.i τ xs) y=[]:=(rfl)
@[go_sem] theorem qnq:xA T (I n) y=[]:=(rfl)
@[go_sem] theorem qnr:xA T (S l) y=[]:=(rfl)
@[go_sem] theorem qnp:xA T (B b) y=[]:=(rfl)
@[go_sem] theorem qnu:xA T (.n e) y=[]:=(rfl)
@[go_sem] theorem qnv:xA T (.p k i o) y=yy T (.p k i o) y:=(rfl)
end
theorem qet {d:Nat} {x:V}:kS d x ⟨σ,T⟩=zl (qS x) ⟨(d,x)::σ,T⟩ ⟨(d,(zx d x).1)::yB d σ,(zx d x).2++wT d T⟩:=by
 unfold kS zl
 cases h:qS x<;>simp [qdZ,St.put]
end
end Go.Vm
