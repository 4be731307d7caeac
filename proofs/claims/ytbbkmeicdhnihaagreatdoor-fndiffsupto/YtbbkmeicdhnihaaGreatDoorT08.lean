import Derived.Test.YtbbkmeicdhnihaaGreatDoorT07
import Derived.Test.YtbbkmeicdhnihaaGreatDoorT05
import Derived.Test.YtbbkmeicdhnihaaGreatDoorT04
import Derived.Test.YtbbkmeicdhnihaaGreatDoorT03
import Derived.Test.YtbbkmeicdhnihaaGreatDoorProg
import Derived.KernelRfl
import Derived.Shelf.RegionOpenPlain
import Derived.WalkKit
import Derived.Deep.LoopGhost
import Derived.Deep.RegionLaw
import Derived.Lib.Walk
import Derived.Lib.SliceRun
import Derived.Shelf.Strconv.Itoa3
import Derived.Shelf.Strings.OnBuilder
import Derived.Shelf.Small.Strs
open Nat renaming reduceAdd → qa, reduceSub → qb, reduceMul → qc, reduceEqDiff → qd, reduceLeDiff → qe, reduceBEq → qf
set_option autoImplicit false
set_option linter.unusedVariables false
set_option linter.unusedSimpArgs false
namespace Go.Vm
mutual
def vl:Tm→List Int
 | .mk k _ n ks=>(if k=1 then [n]else [])++vls ks
def vls:List Tm→List Int
 |[]=>[]
 |t::ts=>vl t++vls ts
end
def xU(l:List Int) (n:Int):List Int:=if n ∈ l then l else l++[n]
mutual
theorem qld: ∀ (t:Tm) (l:List Int),jh l t=(vl t).foldl xU l
 | .mk k s n ks,l=>by
   rw [jh,qla ks,vl,List.foldl_append]
   by_cases h:k=1
   ·by_cases hn:n ∈ l<;>simp [h,hn,xU]
   ·simp [h]
theorem qla: ∀ (ts:List Tm) (l:List Int),jI l ts=(vls ts).foldl xU l
 |[],l=>rfl
 |t::ts,l=>by rw [jI,qla ts,qld t,vls,List.foldl_append]
end
theorem qgJ(t:Tm):qG t=(vl t).foldl xU []:=qld t []
mutual
theorem qp5(f:Int→Int): ∀ t:Tm,vl (rnm f t)=(vl t).map f
 | .mk k s n ks=>by
   rw [rnm,vl,vl,qp6 f ks,List.map_append]
   by_cases h:k=1<;>simp [h]
theorem qp6(f:Int→Int): ∀ ts:List Tm,vls (xA f ts)=(vls ts).map f
 |[]=>rfl
 |t::ts=>by rw [xA,vls,vls,qp5 f t,qp6 f ts,List.map_append]
end
mutual
theorem qgt(g f:Int→Int): ∀ t:Tm,rnm g (rnm f t)=rnm (fun n=>g (f n)) t
 | .mk k s n ks=>by
   rw [rnm,rnm,rnm,qo7 g f ks]
   by_cases h:k=1<;>simp [h]
theorem qo7(g f:Int→Int): ∀ ts:List Tm,xA g (xA f ts)=xA (fun n=>g (f n)) ts
 |[]=>rfl
 |t::ts=>by rw [xA,xA,xA,qgt g f t,qo7 g f ts]
end
mutual
theorem qjG {f g:Int→Int}: ∀ t:Tm,(∀ n ∈ vl t,f n=g n)→rnm f t=rnm g t
 | .mk k s n ks,h=>by
   rw [vl]at h
   rw [rnm,rnm,qo5 ks fun n hn=>h n (List.mem_append_right _ hn)]
   by_cases hk:k=1
   ·rw [if_pos hk,if_pos hk,h n (List.mem_append_left _ (by simp [hk]))]
   ·rw [if_neg hk,if_neg hk]
theorem qo5 {f g:Int→Int}: ∀ ts:List Tm,(∀ n ∈ vls ts,f n=g n)→xA f ts=xA g ts
 |[],h=>rfl
 |t::ts,h=>by
  rw [vls]at h
  rw [xA,xA,qjG t fun n hn=>h n (List.mem_append_left _ hn),qo5 ts fun n hn=>h n (List.mem_append_right _ hn)]
end
mutual
theorem qo3 {f:Int→Int}: ∀ t:Tm,(∀ n ∈ vl t,f n=n)→rnm f t=t
 | .mk k s n ks,h=>by
   rw [vl]at h
   rw [rnm,qo6 ks fun n hn=>h n (List.mem_append_right _ hn)]
   by_cases hk:k=1
   ·rw [if_pos hk,h n (List.mem_append_left _ (by simp [hk]))]
   ·rw [if_neg hk]
theorem qo6 {f:Int→Int}: ∀ ts:List Tm,(∀ n ∈ vls ts,f n=n)→xA f ts=ts
 |[],h=>rfl
 |t::ts,h=>by
  rw [vls]at h
  rw [xA,qo3 t fun n hn=>h n (List.mem_append_left _ hn),qo6 ts fun n hn=>h n (List.mem_append_right _ hn)]
end
theorem qrc {l:List Int} (n:Int) (h:l.Nodup):(xU l n).Nodup:=by
 unfold xU
 split
 ·exact h
 ·rename_i hn
  rw [List.nodup_append]
  refine ⟨h,by simp, ?_⟩
  intro a ha b hb
  simp only [List.mem_singleton]at hb
  subst hb
  rintro rfl
  exact hn ha
theorem qmn: ∀ (xs:List Int) {l:List Int},l.Nodup→(xs.foldl xU l).Nodup
 |[],l,h=>h
 |x::xs,l,h=>qmn xs (qrc x h)
theorem qiU {l:List Int} {n m:Int}:m ∈ xU l n↔m ∈ l∨m=n:=by
 unfold xU
 split
 ·rename_i h
  exact ⟨.inl,fun h'=>h'.elim id fun e=>e ▸ h⟩
 ·simp
theorem qnl {m:Int}: ∀ (xs:List Int) {l:List Int},m ∈ xs.foldl xU l↔m ∈ l∨m ∈ xs
 |[],l=>by simp
 |x::xs,l=>by rw [List.foldl_cons,qnl xs,qiU,List.mem_cons,or_assoc]
theorem qp3(t:Tm):(qG t).Nodup:=by rw [qgJ];exact qmn _ (by simp)
theorem XR {t:Tm} {n:Int}:n ∈ qG t↔n ∈ vl t:=by rw [qgJ,qnl];simp
theorem qmm {f:Int→Int}: ∀ (xs l:List Int),(∀ a b,(a ∈ l∨a ∈ xs)→(b ∈ l∨b ∈ xs)→f a=f b→a=b)→(xs.map f).foldl xU (l.map f)=(xs.foldl xU l).map f
 |[],l,h=>rfl
 |x::xs,l,h=>by
  have e:xU (l.map f) (f x)=(xU l x).map f:=by
   unfold xU
   by_cases hx:x ∈ l
   ·rw [if_pos hx,if_pos (List.mem_map_of_mem hx)]
   ·rw [if_neg hx,if_neg,List.map_append]; · rfl
    intro hm
    obtain ⟨y,hy,e⟩:=List.mem_map.1 hm
    exact hx (h y x (.inl hy) (.inr (by simp)) e ▸ hy)
  rw [List.map_cons,List.foldl_cons,List.foldl_cons,e]
  refine qmm xs (xU l x) fun a b ha hb e=>h a b ?_ ?_ e
  ·rw [qiU,List.mem_cons]at*;rcases ha with (h|h)|h<;>simp [h]
  ·rw [qiU,List.mem_cons]at*;rcases hb with (h|h)|h<;>simp [h]
theorem qp4(f:Int→Int) (t:Tm) (h: ∀ a ∈ vl t,∀ b ∈ vl t,f a=f b→a=b):qG (rnm f t)=(qG t).map f:=by
 rw [qgJ,qgJ,qp5]
 exact qmm (vl t) [] fun a b ha hb e=>h a (by simpa using ha) b (by simpa using hb) e
theorem qmw(n m:Int): ∀ es:List (Int × Int),qU n (zF n m es)=some m
 |[]=>by simp [zF,qU]
 |(a,b)::r=>by
  unfold zF
  by_cases h:a=n
  ·simp [h,qU]
  ·simp [h,qU,qmw n m r]
theorem qmv {n k:Int} (m:Int) (h:n ≠ k): ∀ es:List (Int × Int),qU n (zF k m es)=qU n es
 |[]=>by simp [zF,qU,Ne.symm h]
 |(a,b)::r=>by
  unfold zF
  by_cases ha:a=k
  ·subst ha;simp [qU,Ne.symm h]
  ·simp only [if_neg ha,qU,qmv m h r]
theorem qmu {n:Int}: ∀ (x y:List Int) (es:List (Int × Int)),n ∉ x→qU n (yS x y es)=qU n es
 |[],_,es,h=>by simp [yS]
 |k::x,[],es,h=>by simp [yS]
 |k::x,m::y,es,h=>by
  rw [yS,qmu x y _ fun h'=>h (List.mem_cons_of_mem _ h'),qmv _ fun e=>h (by simp [e])]
theorem qms: ∀ (x y:List Int) (es:List (Int × Int)) (i:Nat) (n m:Int),x.Nodup→x[i]? =some n→y[i]? =some m→qU n (yS x y es)=some m
 |[],y,es,i,n,m,h,hn,hm=>by simp at hn
 |k::x,[],es,i,n,m,h,hn,hm=>by simp at hm
 |k::x,j::y,es,0,n,m,h,hn,hm=>by
  simp only [List.getElem?_cons_zero,Option.some.injEq]at hn hm
  subst hn;subst hm
  rw [yS,qmu _ _ _ (List.nodup_cons.1 h).1,qmw]
 |k::x,j::y,es,i+1,n,m,h,hn,hm=>by
  rw [yS]
  exact qms x y _ i n m (List.nodup_cons.1 h).2 (by simpa using hn) (by simpa using hm)
def ixN(l:List Int) (n:Int):Int:=(l.idxOf n:Nat)
def qfA(t:Tm):Tm:=rnm (ixN (qG t)) t
theorem J6 {l:List Int} (h:l.Nodup) {i:Nat} {n:Int} (hn:l[i]? =some n):ixN l n=(i:Int):=by
 obtain ⟨hi,rfl⟩:=List.getElem?_eq_some_iff.1 hn
 unfold ixN
 rw [List.Nodup.idxOf_getElem h]
theorem qcv {l:List Int} {n:Int} (h:n ∈ l): ∃ i,i < l.length∧l[i]? =some n:=by
 obtain ⟨i,hi,e⟩:=List.mem_iff_getElem.1 h
 exact ⟨i,hi,by rw [List.getElem?_eq_getElem hi,e]⟩
theorem qmQ {l:List Int} (hd:l.Nodup) {a b:Int} (ha:a ∈ l) (hb:b ∈ l) (e:ixN l a=ixN l b):a=b:=by
 obtain ⟨i,-,h1⟩:=qcv ha
 obtain ⟨j,-,h2⟩:=qcv hb
 rw [J6 hd h1,J6 hd h2]at e
 obtain rfl:i=j:=by omega
 rw [h1]at h2;exact Option.some.inj h2
theorem qCm(a b:Tm):X8 a b=true↔qfA a=qfA b:=by
 have xa:=qp3 a
 have xb:=qp3 b
 have fat: ∀ (i:Nat) (n m:Int),(qG a)[i]? =some n→(qG b)[i]? =some m→jt (yS (qG a) (qG b) []) n=m:=by
  intro i n m hn hm
  unfold jt
  rw [qms _ _ _ i n m xa hn hm];rfl
 unfold X8 qfA
 constructor
 ·intro h
  split at h
  case isFalse=>cases h
  rename_i hl
  have e:=of_decide_eq_true h
  have:rnm (ixN (qG b)) b=rnm (ixN (qG b)) (rnm (jt (yS (qG a) (qG b) [])) a):=by rw [e]
  rw [this,qgt]
  refine qjG a fun n hn=> ?_
  obtain ⟨i,hi,hn'⟩:=qcv (XR.2 hn)
  have hm:(qG b)[i]? =some ((qG b)[i]'(by omega)):=List.getElem?_eq_getElem _
  rw [J6 xa hn',fat i n _ hn' hm,J6 xb hm]
 ·intro h
  have l1:qG (rnm (ixN (qG a)) a)=(qG a).map (ixN (qG a)):=qp4 _ a fun x hx y hy e=>qmQ xa (XR.2 hx) (XR.2 hy) e
  have l2:qG (rnm (ixN (qG b)) b)=(qG b).map (ixN (qG b)):=qp4 _ b fun x hx y hy e=>qmQ xb (XR.2 hx) (XR.2 hy) e
  have hl:(qG a).length=(qG b).length:=by
   rw [h]at l1
   have:=congrArg List.length (l1.symm.trans l2)
   simpa using this
  rw [if_pos hl]
  refine decide_eq_true ?_
  let g:Int→Int:=fun i=>((qG b)[i.toNat]?).getD 0
  have e1:rnm g (rnm (ixN (qG b)) b)=b:=by
   rw [qgt]
   refine qo3 b fun n hn=> ?_
   obtain ⟨i,hi,hn'⟩:=qcv (XR.2 hn)
   show ((qG b)[(ixN (qG b) n).toNat]?).getD 0=n
   rw [J6 xb hn',Int.toNat_natCast,hn'];rfl
  rw [← h,qgt]at e1
  refine Eq.trans (qjG a fun n hn=> ?_) e1
  obtain ⟨i,hi,hn'⟩:=qcv (XR.2 hn)
  have hm:(qG b)[i]? =some ((qG b)[i]'(by omega)):=List.getElem?_eq_getElem _
  rw [fat i n _ hn' hm]
  show _=((qG b)[(ixN (qG a) n).toNat]?).getD 0
  rw [J6 xa hn',Int.toNat_natCast,hm];rfl
def jv(c:Cl):Str × Tm:=(c.file,qfA (zH c))
theorem qh0(a b:Cl):xm a b=true↔jv a=jv b:=by
 unfold xm jv
 by_cases h:a.file=b.file
 ·rw [if_pos h,qCm,Prod.mk.injEq];exact ⟨fun e=>⟨h,e⟩,fun e=>e.2⟩
 ·rw [if_neg h,Prod.mk.injEq];exact ⟨fun e=>(by cases e),fun e=>absurd e.1 h⟩
end Go.Vm
namespace Go.Vm
noncomputable def ct(l:List Cl) (k:Str × Tm):Nat:=(l.map jv).countP fun x=> @decide (x=k) (Classical.propDecidable _)
theorem qcB(k:Str × Tm):ct [] k=0:=rfl
theorem js(c:Cl) (l:List Cl) (k:Str × Tm):ct (c::l) k=ct l k+ @ite _ (jv c=k) (Classical.propDecidable _) 1 0:=by
 unfold ct
 rw [List.map_cons,List.countP_cons]
 by_cases h:jv c=k<;>simp [h]
theorem ql3(l m:List Cl) (k:Str × Tm):ct (l++m) k=ct l k+ct m k:=by unfold ct;rw [List.map_append,List.countP_append]
theorem qic(l:List Cl) (c:Cl):y5 l c=ct l (jv c):=by
 unfold y5 ct
 rw [List.countP_map]
 refine List.countP_congr fun x _=> ?_
 simp only [Function.comp,decide_eq_true_eq]
 exact qh0 x c
theorem qnq(other:List Cl) (k:Str × Tm): ∀ (r pre:List Cl),ct (yL other pre r) k=(ct pre k+ct r k) - max (ct pre k) (ct other k)
 |[],pre=>by rw [yL,qcB];omega
 |c::r,pre=>by
  have ih:=qnq other k r (pre++[c])
  rw [ql3,js,qcB]at ih
  rw [js c r,yL,qic,qic]
  by_cases hk:jv c=k
  ·subst hk
   rw [if_pos rfl]at ih ⊢
   split
   ·rw [js,if_pos rfl,ih];omega
   ·rw [ih];omega
  ·rw [if_neg hk]at ih ⊢
   split
   ·rw [js,if_neg hk,ih];omega
   ·rw [ih];omega
theorem qfU(l o:List Cl) (k:Str × Tm):ct (qJ l o) k=ct l k - ct o k:=by
 unfold qJ
 rw [qnq,qcB];omega
theorem ql4 {l:List Cl} (h: ∀ k,ct l k=0):l=[]:=by
 cases l with
 |nil=>rfl
 |cons c l=>have:=h (jv c);rw [js,if_pos rfl]at this;omega
theorem qii {c:Cl} (k:Str × Tm): ∀ {l:List Cl} {i:Nat} {y:Cl},l[i]? =some y→ct (l.eraseIdx i) k+ @ite _ (jv y=k) (Classical.propDecidable _) 1 0=ct l k
 |[],i,y,h=>by simp at h
 |x::l,0,y,h=>by
  simp only [List.getElem?_cons_zero,Option.some.injEq]at h
  subst h
  rw [List.eraseIdx_cons_zero,js]
 |x::l,i+1,y,h=>by
  have:=qii (c:=c) k (l:=l) (i:=i) (y:=y) (by simpa using h)
  rw [List.eraseIdx_cons_succ,js,js];omega
noncomputable def jQ(l:List Cl) (c:Cl):Nat→Option Nat
 |0=>none
 |n+1=>match l[n]? with
  |some x=>if xm x c then some n else jQ l c n
  |none=>jQ l c n
theorem qiR {l:List Cl} {c:Cl}: ∀ {n i:Nat},jQ l c n=some i→i < n∧ ∃ x,l[i]? =some x∧xm x c=true
 |0,i,h=>by cases h
 |n+1,i,h=>by
  unfold jQ at h
  split at h
  ·rename_i x hx
   split at h
   ·cases h;exact ⟨by omega,x,hx,by assumption⟩
   ·obtain ⟨a,b⟩:=qiR h;exact ⟨by omega,b⟩
  ·obtain ⟨a,b⟩:=qiR h;exact ⟨by omega,b⟩
theorem qiQ {l:List Cl} {c:Cl}: ∀ {n:Nat},jQ l c n=none→ ∀ i,i < n→ ∀ x,l[i]? =some x→xm x c=false
 |0,h,i,hi,x,hx=>by omega
 |n+1,h,i,hi,x,hx=>by
  unfold jQ at h
  split at h
  ·rename_i y hy
   split at h
   ·cases h
   ·rename_i hn
    by_cases e:i=n
    ·subst e;rw [hx]at hy;cases hy;simpa using hn
    ·exact qiQ h i (by omega) x hx
  ·rename_i hy
   by_cases e:i=n
   ·subst e;rw [hx]at hy;cases hy
   ·exact qiQ h i (by omega) x hx
noncomputable def YQ:List Cl→List Cl→Option (List Cl)
 |out,[]=>some out
 |out,c::r=>match jQ out c out.length with
  |none=>none
  |some k=>YQ (out.eraseIdx k) r
theorem qpT: ∀ (g out:List Cl),(∀ k,ct g k≤ct out k)→ ∃ o,YQ out g=some o∧(∀ k,ct o k=ct out k - ct g k)∧(∀ x ∈ o,x ∈ out)
 |[],out,h=>⟨out,rfl,fun k=>by rw [qcB,Nat.sub_zero],fun x hx=>hx⟩
 |c::g,out,h=>by
  rw [YQ]
  cases hl:jQ out c out.length with
  |none=>
   exfalso
   have h1:=h (jv c)
   rw [js,if_pos rfl]at h1
   have:0 < y5 out c:=by rw [qic];omega
   unfold y5 at this
   rw [List.countP_pos_iff]at this
   obtain ⟨x,hx,ha⟩:=this
   obtain ⟨i,hi,e⟩:=List.mem_iff_getElem.1 hx
   have:=qiQ hl i hi x (by rw [List.getElem?_eq_getElem hi,e])
   rw [ha]at this;cases this
  |some i=>
   obtain ⟨hi,x,hx,ha⟩:=qiR hl
   have hk:=(qh0 x c).1 ha
   have he:=fun k=>qii (c:=c) k hx
   obtain ⟨o,h1,h2,h3⟩:=qpT g (out.eraseIdx i) fun k=>by
    have:=h k;have e:=he k
    rw [js]at this
    rw [hk]at e
    omega
   refine ⟨o,h1,fun k=> ?_,fun y hy=>List.mem_of_mem_eraseIdx (h3 y hy)⟩
   have e:=he k
   rw [hk]at e
   rw [h2 k,js];omega
theorem qw6: ∀ (l m:List Cl),(∀ k,ct l k=ct m k)→l.length=m.length:=by
 intro l
 induction l with
 |nil=>intro m h;rw [ql4 fun k=>(h k).symm.trans (qcB k)]
 |cons c l ih=>
  intro m h
  have h1:=h (jv c)
  rw [js,if_pos rfl]at h1
  have hp:0 < ct m (jv c):=by omega
  unfold ct at hp
  rw [List.countP_pos_iff]at hp
  obtain ⟨k,hk,e⟩:=hp
  have e:= @of_decide_eq_true _ (Classical.propDecidable _) e
  subst e
  obtain ⟨x,hx,e⟩:=List.mem_map.1 hk
  obtain ⟨i,hi,hxi⟩:=List.mem_iff_getElem.1 hx
  have hx':m[i]? =some x:=by rw [List.getElem?_eq_getElem hi,hxi]
  have:=ih (m.eraseIdx i) fun k=>by
   have a:=h k;have b:=qii (c:=c) k hx'
   rw [e]at b
   rw [js]at a
   omega
  rw [List.length_cons,this,List.length_eraseIdx,if_pos hi];omega
theorem qr7(a b:List Cl): ∃ o,YQ a (qJ a b)=some o∧(∀ x ∈ o,x ∈ a)∧(∀ k,ct (o++qJ b a) k=ct b k)∧(o++qJ b a).length=b.length:=by
 obtain ⟨o,h1,h2,h3⟩:=qpT (qJ a b) a fun k=>by rw [qfU];omega
 have h4: ∀ k,ct (o++qJ b a) k=ct b k:=fun k=>by rw [ql3,h2 k,qfU,qfU];omega
 exact ⟨o,h1,h3,h4,qw6 _ _ h4⟩
theorem qiW {a b:List Cl} (h: ∀ k,ct a k=ct b k):qJ a b=[]:=ql4 fun k=>by rw [qfU,h k];omega
end Go.Vm
set_option maxHeartbeats 16000000
set_option maxRecDepth 100000
namespace Go.Vm
theorem qxI {d:Nat} {k:Key} {i:Nat} {σ:Sl} {T:Mem} {ob:Ob}:qjc d k i σ T ob none=⟨σ,T⟩:=rfl
theorem qrj(c:Cl) (hw:wCl c) (σ0 σ1:Bool) (us0 us1:List V) (hb:bCl c (.a [I c.head.kind,S c.head.name,I c.head.num,.i σ0 us0,I c.body.kind,S c.body.name,I c.body.num,.i σ1 us1,S c.file]))
 (τ τ' τ0 τ1:Bool) (gs ws vs0:List V) (os:List Str) (n i:Int) (out:List Cl) (hl:out.length≤2^20) (hlw: ∀ x ∈ out,wCl x) (k:Nat):k≤out.length→
 match jQ out c k with
 |some j=> ∃ pre x post,out=pre++x::post∧pre.length=j∧lw qg ZG ⟨[(2,.i τ' ws),(3,.p (100000,0) 0 0),(6,.p (100000,1) 0 0),(8,.p (100000,2) 0 0),(10,.p (100000,3) 0 0),(11,I ((k:Int) - 1)),(14,.i τ gs),(15,I n),(16,I i)],[((100000,0),2,[.a [.i τ0 vs0,.i τ1 (os.map S)]]),((100000,1),2,[.a [.s (100000,4) 0 0,.s (100000,5) 0 0]]),((100000,2),2,[.a [.s (100000,6) 0 (out).length,.s (100000,7) 0 os.length]]),((100000,3),9,[.a [I c.head.kind,S c.head.name,I c.head.num,.i σ0 us0,I c.body.kind,S c.body.name,I c.body.num,.i σ1 us1,S c.file]]),((100000,4),9,[]),((100000,5),1,[]),((100000,6),9,(out).map oCl),((100000,7),1,os.map S)]⟩=some (.exit 2,⟨[(2,.i τ' ws),(3,.p (100000,0) 0 0),(6,.p (100000,1) 0 0),(8,.p (100000,2) 0 0),(11,I (j:Int)),(14,.i τ gs),(15,I n),(16,I i)],[((500000,0),4,(x).head.kids.map oT),((500000,1),4,(x).body.kids.map oT),((100000,6),9,(pre).map oCl++ .a [I (x).head.kind,S (x).head.name,I (x).head.num,.s (500000,0) 0 (x).head.kids.length,I (x).body.kind,S (x).body.name,I (x).body.num,.s (500000,1) 0 (x).body.kids.length,S (x).file]::(post).map oCl),((100000,0),2,[.a [.i τ0 vs0,.i τ1 (os.map S)]]),((100000,1),2,[.a [.s (100000,4) 0 0,.s (100000,5) 0 0]]),((100000,2),2,[.a [.s (100000,6) 0 out.length,.s (100000,7) 0 os.length]]),((100000,3),9,[.a [I c.head.kind,S c.head.name,I c.head.num,.i σ0 us0,I c.body.kind,S c.body.name,I c.body.num,.i σ1 us1,S c.file]]),((100000,4),9,[]),((100000,5),1,[]),((100000,7),1,os.map S)]⟩)
 |none=>(out=[]∧lw qg ZG ⟨[(2,.i τ' ws),(3,.p (100000,0) 0 0),(6,.p (100000,1) 0 0),(8,.p (100000,2) 0 0),(10,.p (100000,3) 0 0),(11,I ((k:Int) - 1)),(14,.i τ gs),(15,I n),(16,I i)],[((100000,0),2,[.a [.i τ0 vs0,.i τ1 (os.map S)]]),((100000,1),2,[.a [.s (100000,4) 0 0,.s (100000,5) 0 0]]),((100000,2),2,[.a [.s (100000,6) 0 (out).length,.s (100000,7) 0 os.length]]),((100000,3),9,[.a [I c.head.kind,S c.head.name,I c.head.num,.i σ0 us0,I c.body.kind,S c.body.name,I c.body.num,.i σ1 us1,S c.file]]),((100000,4),9,[]),((100000,5),1,[]),((100000,6),9,(out).map oCl),((100000,7),1,os.map S)]⟩=some (.exit 2,⟨[(2,.i τ' ws),(3,.p (100000,0) 0 0),(6,.p (100000,1) 0 0),(8,.p (100000,2) 0 0),(11,I (-1)),(14,.i τ gs),(15,I n),(16,I i)],[((100000,0),2,[.a [.i τ0 vs0,.i τ1 (os.map S)]]),((100000,1),2,[.a [.s (100000,4) 0 0,.s (100000,5) 0 0]]),((100000,2),2,[.a [.s (100000,6) 0 (out).length,.s (100000,7) 0 os.length]]),((100000,3),9,[.a [I c.head.kind,S c.head.name,I c.head.num,.i σ0 us0,I c.body.kind,S c.body.name,I c.body.num,.i σ1 us1,S c.file]]),((100000,4),9,[]),((100000,5),1,[]),((100000,6),9,(out).map oCl),((100000,7),1,os.map S)]⟩))∨
  ∃ x post,out=x::post∧lw qg ZG ⟨[(2,.i τ' ws),(3,.p (100000,0) 0 0),(6,.p (100000,1) 0 0),(8,.p (100000,2) 0 0),(10,.p (100000,3) 0 0),(11,I ((k:Int) - 1)),(14,.i τ gs),(15,I n),(16,I i)],[((100000,0),2,[.a [.i τ0 vs0,.i τ1 (os.map S)]]),((100000,1),2,[.a [.s (100000,4) 0 0,.s (100000,5) 0 0]]),((100000,2),2,[.a [.s (100000,6) 0 (out).length,.s (100000,7) 0 os.length]]),((100000,3),9,[.a [I c.head.kind,S c.head.name,I c.head.num,.i σ0 us0,I c.body.kind,S c.body.name,I c.body.num,.i σ1 us1,S c.file]]),((100000,4),9,[]),((100000,5),1,[]),((100000,6),9,(out).map oCl),((100000,7),1,os.map S)]⟩=some (.exit 2,⟨[(2,.i τ' ws),(3,.p (100000,0) 0 0),(6,.p (100000,1) 0 0),(8,.p (100000,2) 0 0),(11,I (-1)),(14,.i τ gs),(15,I n),(16,I i)],[((500000,0),4,(x).head.kids.map oT),((500000,1),4,(x).body.kids.map oT),((100000,6),9,(([]:List Cl)).map oCl++ .a [I (x).head.kind,S (x).head.name,I (x).head.num,.s (500000,0) 0 (x).head.kids.length,I (x).body.kind,S (x).body.name,I (x).body.num,.s (500000,1) 0 (x).body.kids.length,S (x).file]::(post).map oCl),((100000,0),2,[.a [.i τ0 vs0,.i τ1 (os.map S)]]),((100000,1),2,[.a [.s (100000,4) 0 0,.s (100000,5) 0 0]]),((100000,2),2,[.a [.s (100000,6) 0 out.length,.s (100000,7) 0 os.length]]),((100000,3),9,[.a [I c.head.kind,S c.head.name,I c.head.num,.i σ0 us0,I c.body.kind,S c.body.name,I c.body.num,.i σ1 us1,S c.file]]),((100000,4),9,[]),((100000,5),1,[]),((100000,7),1,os.map S)]⟩):=by
 induction k with
 |zero=>
  intro hk
  have g: ¬ (0:Int)≤ -1:=by decide
  have n0:(-1:Int).toNat=0:=rfl
  have n1:(0:Int) - 1= -1:=rfl
  simp only [jQ]
  cases out with
  |nil=>
   refine .inl ⟨rfl, ?_⟩
   rw [ql]
   simp only [go_sem,qa,qb,qc,qd,qe,qf,reduceCtorEq,JF,g,n0,n1,qxI,List.map_nil,List.getElem?_nil]
  |cons x post=>
   refine .inr ⟨x,post,rfl, ?_⟩
   rw [ql]
   simp only [go_sem,qa,qb,qc,qd,qe,qf,reduceCtorEq,JF,g,n0,n1,List.map_cons,List.map_nil,List.nil_append,List.getElem?_cons_zero,List.set_cons_zero,oCl,List.length_map]
 |succ k ih=>
  intro hk
  obtain ⟨x,hx⟩:=qV (l:=out) (i:=k) (by omega)
  have hpo:out=out.take k++x::out.drop (k+1):=by rw [← zP hx,List.take_append_drop]
  have hpl:(out.take k).length=k:=by simp;omega
  have xw:=hlw x (List.mem_of_getElem? hx)
  have al:=qh1 x c xw hw (iCl true x) _ (yY true x) hb
  unfold iCl at al
  have gx:=zu (f:=oCl) hx
  have ix:=x3 (k:=(100000,6)) (e:=9) (xs:=out.map oCl) (i:=k) (len:=out.length) (by omega) (by simp)
  have sm: ∀ v,(out.map oCl).set k v=(out.take k).map oCl++v::(out.drop (k+1)).map oCl:=fun v=>by
   conv => lhs;rw [hpo]
   have:=qjQ (out.take k) (out.drop (k+1)) x v
   rwa [hpl]at this
  have ix2: ∀ v,ixO (100000,6) 0 out.length 9 (k:Int) (some (9,(out.take k).map oCl++v::(out.drop (k+1)).map oCl))=some (.p (100000,6) k 0):=fun v=>x3 (by omega) (by simp;omega)
  have gm: ∀ v,((out.take k).map oCl++v::(out.drop (k+1)).map oCl)[k]? =some v:=fun v=>by
   have hk':((out.take k).map oCl).length=k:=by simp;omega
   rw [List.getElem?_append_right (by omega),hk',Nat.sub_self]
   rfl
  have e0:((k+1:Nat):Int) - 1=(k:Int):=by omega
  have e1:(0:Int)≤(k:Int):=by omega
  rw [e0]
  unfold jQ
  simp only [hx]
  cases hp:xm x c with
  |true=>
   rw [hp]at al
   simp only [if_true]
   refine ⟨out.take k,x,out.drop (k+1),hpo,hpl, ?_⟩
   rw [ql]
   simp only [go_sem,qa,qb,qc,qd,qe,qf,reduceCtorEq,JF,e1,gx,ix,ix2,gm,sm,al,oCl,iCl,List.length_map,Int.toNat_natCast]
  |false=>
   rw [hp]at al
   have e2:w64 ((k:Int) - 1)=(k:Int) - 1:=by rw [qm]<;>omega
   have i1:=ih (by omega)
   have e3:out.map oCl=(out.take k).map oCl++oCl x::(out.drop (k+1)).map oCl:=by
    conv => lhs;rw [hpo]
    rw [List.map_append,List.map_cons]
   have st:lw qg ZG ⟨[(2,.i τ' ws),(3,.p (100000,0) 0 0),(6,.p (100000,1) 0 0),(8,.p (100000,2) 0 0),(10,.p (100000,3) 0 0),(11,I (k:Int)),(14,.i τ gs),(15,I n),(16,I i)],[((100000,0),2,[.a [.i τ0 vs0,.i τ1 (os.map S)]]),((100000,1),2,[.a [.s (100000,4) 0 0,.s (100000,5) 0 0]]),((100000,2),2,[.a [.s (100000,6) 0 (out).length,.s (100000,7) 0 os.length]]),((100000,3),9,[.a [I c.head.kind,S c.head.name,I c.head.num,.i σ0 us0,I c.body.kind,S c.body.name,I c.body.num,.i σ1 us1,S c.file]]),((100000,4),9,[]),((100000,5),1,[]),((100000,6),9,(out).map oCl),((100000,7),1,os.map S)]⟩=lw qg ZG ⟨[(2,.i τ' ws),(3,.p (100000,0) 0 0),(6,.p (100000,1) 0 0),(8,.p (100000,2) 0 0),(10,.p (100000,3) 0 0),(11,I ((k:Int) - 1)),(14,.i τ gs),(15,I n),(16,I i)],[((100000,0),2,[.a [.i τ0 vs0,.i τ1 (os.map S)]]),((100000,1),2,[.a [.s (100000,4) 0 0,.s (100000,5) 0 0]]),((100000,2),2,[.a [.s (100000,6) 0 (out).length,.s (100000,7) 0 os.length]]),((100000,3),9,[.a [I c.head.kind,S c.head.name,I c.head.num,.i σ0 us0,I c.body.kind,S c.body.name,I c.body.num,.i σ1 us1,S c.file]]),((100000,4),9,[]),((100000,5),1,[]),((100000,6),9,(out).map oCl),((100000,7),1,os.map S)]⟩:=by
    rw [ql]
    rw [oCl]at e3
    simp only [go_sem,qa,qb,qc,qd,qe,qf,reduceCtorEq,JF,e1,e2,gx,ix,ix2,gm,sm,al,oCl,iCl,Qt,Qn,Qu,qaa,List.length_map,Int.toNat_natCast]
    rw [e3]
   rw [st]
   simpa using i1
theorem qrk(τ τ' τ0 τ1:Bool) (g:List Cl) (gs ws vs0:List V) (hg:RL bCl g gs) (hgl:g.length≤2^20) (hgw: ∀ x ∈ g,wCl x) (os:List Str) (o:List Cl) (m:Nat): ∀ (i:Nat) (out:List Cl),i+m=g.length→out.length≤2^20→(∀ x ∈ out,wCl x)→YQ out (g.drop i)=some o→
 lw qg qbz ⟨[(2,.i τ' ws),(3,.p (100000,0) 0 0),(6,.p (100000,1) 0 0),(8,.p (100000,2) 0 0),(14,.i τ gs),(15,I g.length),(16,I i)],[((100000,0),2,[.a [.i τ0 vs0,.i τ1 (os.map S)]]),((100000,1),2,[.a [.s (100000,3) 0 0,.s (100000,4) 0 0]]),((100000,2),2,[.a [.s (100000,5) 0 (out).length,.s (100000,6) 0 os.length]]),((100000,3),9,[]),((100000,4),1,[]),((100000,5),9,(out).map oCl),((100000,6),1,os.map S)]⟩=some (.exit 0,⟨[(2,.i τ' ws),(3,.p (100000,0) 0 0),(6,.p (100000,1) 0 0),(8,.p (100000,2) 0 0)],[((100000,0),2,[.a [.i τ0 vs0,.i τ1 (os.map S)]]),((100000,1),2,[.a [.s (100000,3) 0 0,.s (100000,4) 0 0]]),((100000,2),2,[.a [.s (100000,5) 0 (o).length,.s (100000,6) 0 os.length]]),((100000,3),9,[]),((100000,4),1,[]),((100000,5),9,(o).map oCl),((100000,6),1,os.map S)]⟩):=by
 have hlv:=qS hg
 induction m with
 |zero=>
  intro i out hi hl hw ht
  have h: ¬ (i:Int) < (g.length:Int):=by omega
  rw [List.drop_eq_nil_of_le (by omega),YQ]at ht
  cases ht
  rw [ql]
  simp only [go_sem,qa,qb,qc,qd,qe,qf,reduceCtorEq,qfa,h]
 |succ m ih=>
  intro i out hi hl hw ht
  have h:(i:Int) < (g.length:Int):=by omega
  obtain ⟨c,hc⟩:=qV (l:=g) (i:=i) (by omega)
  obtain ⟨v,gv,b⟩:=yJ hg hc
  have wc:=hgw c (List.mem_of_getElem? hc)
  rw [zP hc,YQ]at ht
  cases hla:jQ out c out.length with
  |none=>rw [hla]at ht;cases ht
  |some j=>
  rw [hla]at ht
  simp only at ht
  have a1:=fun T=>qZ (τ:=τ) (T:=T) (e:=9) gv (jk b)
  have e1:w64 ((i:Int)+1)=((i+1:Nat):Int):=by rw [qm]<;>omega
  have e2:w64 ((out.length:Int) - 1)=(out.length:Int) - 1:=by rw [qm]<;>omega
  obtain ⟨σ0,us0,σ1,us1,rfl,hb1,hb2⟩:=b
  have lp:=qrj c wc σ0 σ1 us0 us1 ⟨σ0,us0,σ1,us1,rfl,hb1,hb2⟩ τ τ' τ0 τ1 gs ws vs0 os g.length i out hl hw out.length (Nat.le_refl _)
  rw [hla]at lp
  obtain ⟨pre,x,post,ho,rfl,lp⟩:=lp
  have er:out.eraseIdx pre.length=pre++post:=by
   rw [ho,List.eraseIdx_append_of_length_le (Nat.le_refl _),Nat.sub_self];rfl
  rw [er]at ht
  have hl':pre.length+(post.length+1)≤2^20:=by rw [ho]at hl;simpa using hl
  have e3:w64 ((pre.length:Int)+1)=((pre.length+1:Nat):Int):=by rw [qm]<;>omega
  have g1: ¬ (pre.length:Int) < 0:=by omega
  have del:cw qg qhc [.o 9 (pre.map oCl++oCl x::post.map oCl),I (pre.length:Nat),I ((pre.length+1:Nat):Int)]=some (.o 9 (pre.map oCl++post.map oCl),[.d,I (pre.length:Nat),I ((pre.length+1:Nat):Int)]):=by
   rw [qfF qyL]
   show JY 9 [.o 9 _,.v (.int .i64 _),.v (.int .i64 _)]=_
   simp only [JY]
   rw [if_pos ⟨trivial,by omega,by omega,by simp only [List.length_append,List.length_cons,List.length_map];omega⟩]
   have t1:(pre.map oCl++oCl x::post.map oCl).take pre.length=pre.map oCl:=by
    have hk:(pre.map oCl).length=pre.length:=by simp
    rw [← hk,List.take_left]
   have t2:(pre.map oCl++oCl x::post.map oCl).drop (pre.length+1)=post.map oCl:=by
    rw [List.drop_append]
    simp
   simp only [Int.toNat_natCast,t1,t2]
  have lo:out.length≤pre.length+(post.length+1):=by rw [ho];simp
  have tko: ∀ v:V,(pre.map oCl++v::post.map oCl).take out.length=pre.map oCl++v::post.map oCl:=fun v=>List.take_of_length_le (by rw [ho];simp)
  have i1:=ih (i+1) (pre++post) (by omega) (by simp only [List.length_append];omega) (fun y hy=>hw y (by rw [ho];simp only [List.mem_append,List.mem_cons]at hy ⊢;rcases hy with h|h<;>simp [h])) ht
  simp only [List.length_append,List.map_append]at i1
  rw [← i1,ql]
  rw [oCl]at del
  simp only [go_sem,qa,qb,qc,qd,qe,qf,reduceCtorEq,qfa,h,a1,gv,e1,e2,e3,g1,lp,del,lo,tko,oCl,Qt,Qn,Qu,qaa,List.length_append,List.length_map]
end Go.Vm
namespace Go.Vm
theorem qqj(x:Db) (hx:x.clauses.length≤2^20) (hxw: ∀ c ∈ x.clauses,wCl c) (hop:x.opn.length≤2^20) (vx:V) (bx:bDb x vx) (τ τ':Bool) (g come:List Cl) (gs ws:List V) (hg:RL bCl g gs) (hgl:g.length≤2^20) (hgw: ∀ x ∈ g,wCl x)
 (hc:RL bCl come ws) (hcl:come.length≤2^20) (hcw: ∀ x ∈ come,wCl x) (o:List Cl) (ho:YQ x.clauses g=some o) (hol:o.length≤2^20) (hos: ∀ y ∈ o,y ∈ x.clauses):
 cr qg qgP [vx,.i τ gs,.i τ' ws]=some (if xr ⟨o++come,x.opn⟩=true then .t [oDb ⟨o++come,x.opn⟩,B true]else .t [oDb x,B false]):=by
 have cd:=qrV x hx hxw hop vx bx
 have cc:=ql2 τ' come ws hc hcl hcw
 have hlc:=qS hc
 have hlg:=qS hg
 obtain ⟨τ0,vs0,τ1,rfl,h0⟩:=bx
 have lp:=qrk τ τ' τ0 τ1 g gs ws vs0 hg hgl hgw x.opn o g.length 0 x.clauses (by omega) hx hxw ho
 simp only [Int.natCast_zero]at lp
 have hzw: ∀ c ∈ (⟨o++come,x.opn⟩:Db).clauses,WT c.head∧WT c.body:=by
  intro c hc
  rcases List.mem_append.1 hc with h|h
  ·have:=hxw c (hos c h);exact ⟨this.1.1,this.2.1.1⟩
  ·have:=hcw c h;exact ⟨this.1.1,this.2.1.1⟩
 have db:=qsI ⟨o++come,x.opn⟩ (by simp only [List.length_append];unfold Lm;omega) hzw (iDb true ⟨o++come,x.opn⟩) (xF true _)
 have b1:decide ((o.length+come.length)*128≤lim)=true:=decide_eq_true (by rw [qM];omega)
 have b2:decide (o.length+come.length≤lim)=true:=decide_eq_true (by rw [qM];omega)
 have al:xV 9 (come.map oCl)=true:=JP (f:=oCl) (e:=9) (fun _=>⟨rfl,rfl⟩) come
 have tko:(o.map oCl).take o.length=o.map oCl:=List.take_of_length_le (by simp)
 have tkc:(come.map oCl).take come.length=come.map oCl:=List.take_of_length_le (by simp)
 have tkx:(x.clauses.map oCl).take x.clauses.length=x.clauses.map oCl:=List.take_of_length_le (by simp)
 have tks:(x.opn.map S).take x.opn.length=x.opn.map S:=List.take_of_length_le (by simp)
 have tkz:(o.map oCl++come.map oCl).take (o.length+come.length)=o.map oCl++come.map oCl:=List.take_of_length_le (by simp)
 have cE: ∀ l:List Cl,qC (l.map oCl)=true:=fun l=>jr qfB l
 unfold oDb at cd ⊢
 unfold iDb at db
 simp only [List.map_append]at db
 rw [qo qxK rfl]
 cases hz:ya (come.map oCl)<;>cases hd:xr ⟨o++come,x.opn⟩
 all_goals rw [hd]at db
 all_goals first|rw [if_pos rfl]|rw [if_neg (by decide)]
 all_goals simp only [go_sem,qa,qb,qc,qd,qe,qf,reduceCtorEq,Kb,cd,cc,lp,db,b1,b2,al,hz,tko,tkc,tkx,tks,tkz,cE,Qt,Qn,Qu,qaa,hlg,List.length_append,List.length_map,List.map_append]
end Go.Vm
namespace Go.Vm
theorem qi2: ∀ {vs:List V} {i:Nat} {v:V},qH vs=true→vs[i]? =some v→zd v=true
 |[],i,v,h,hv=>by simp at hv
 |w::vs,0,v,h,hv=>by
  simp only [List.getElem?_cons_zero,Option.some.injEq]at hv
  subst hv
  simp only [qH,Bool.and_eq_true]at h
  exact h.1
 |w::vs,i+1,v,h,hv=>by
  simp only [qH,Bool.and_eq_true]at h
  exact qi2 h.2 (by simpa using hv)
theorem qBj(l:List Cl) (hl:l.length≤2^20) (hlw: ∀ x ∈ l,wCl x) (vs vs':List V) (hv:RL bCl l vs) (hv':RL bCl l vs') (hn:qH vs=true) (hn':qH vs'=true) (m:Nat): ∀ i:Nat,i+m=l.length→
 lw qg qbO ⟨[(2,.p (100000,0) 0 0),(3,.p (100000,1) 0 0),(5,I i)],[((100000,0),2,[.a [.i false vs,.i true []]]),((100000,1),2,[.a [.i false vs',.i true []]])]⟩=some (.exit 0,⟨[],[((100000,0),2,[.a [.i false vs,.i true []]]),((100000,1),2,[.a [.i false vs',.i true []]])]⟩):=by
 have hlv:=qS hv
 have hlv':=qS hv'
 induction m with
 |zero=>
  intro i hi
  have h: ¬ (i:Int) < (vs.length:Int):=by omega
  rw [ql]
  simp only [go_sem,qa,qb,qc,qd,qe,qf,reduceCtorEq,qfk,h]
 |succ m ih=>
  intro i hi
  have h:(i:Int) < (vs.length:Int):=by omega
  obtain ⟨x,hx⟩:=qV (l:=l) (i:=i) (by omega)
  obtain ⟨v,g,b⟩:=yJ hv hx
  obtain ⟨v',g',b'⟩:=yJ hv' hx
  have nv:=qi2 hn g
  have nv':=qi2 hn' g'
  have wx:=hlw x (List.mem_of_getElem? hx)
  have c1:=qpD x wx v b nv
  have c2:=qpD x wx v' b' nv'
  have a1:=fun T=>qZ (τ:=false) (T:=T) (e:=9) g (jk b)
  have a2:=fun T=>qZ (τ:=false) (T:=T) (e:=9) g' (jk b')
  have e1:w64 ((i:Int)+1)=((i+1:Nat):Int):=by rw [qm]<;>omega
  have sm:=qBJ (zH x) (JU x wx).1 (zH x) (iT false (zH x)) (iT false (zH x)) (xl false _) (xl false _)
  rw [decide_eq_true rfl]at sm
  obtain ⟨σ0,ws0,σ1,ws1,rfl,hb1,hb2⟩:=b
  obtain ⟨σ2,ws2,σ3,ws3,rfl,hb3,hb4⟩:=b'
  simp only [zd,qH,qfV,qfW,Bool.true_and,Bool.and_true,Bool.and_eq_true,Bool.not_eq_true']at nv nv'
  obtain ⟨⟨rfl,na⟩,⟨rfl,nb⟩⟩:=nv
  obtain ⟨⟨rfl,na'⟩,⟨rfl,nb'⟩⟩:=nv'
  have ne:decide (x.file ≠ x.file)=false:=by simp
  rw [← ih (i+1) (by omega),ql]
  generalize zH x=t at c1 c2 sm
  simp only [go_sem,qa,qb,qc,qd,qe,qf,reduceCtorEq,qfk,h,a1,a2,g,g',c1,c2,sm,e1,ne]
theorem qpl(l:List Cl) (hl:l.length≤2^20) (hlw: ∀ x ∈ l,wCl x) (vs vs':List V) (hv:RL bCl l vs) (hv':RL bCl l vs') (hn:qH vs=true) (hn':qH vs'=true):
 cr qg Jq [.i false vs,.i false vs']=some (B true):=by
 have lp:=qBj l hl hlw vs vs' hv hv' hn hn' l.length 0 (by omega)
 simp only [Int.natCast_zero]at lp
 have st:cr qg qg7 [.i true [],.i true []]=some (B true):=by
  have lt:lw qg qbP ⟨[(0,.i true []),(1,.i true []),(5,I 0)],[]⟩=some (.exit 0,⟨[],[]⟩):=by
   have h: ¬ (0:Int) < 0:=by decide
   rw [ql]
   simp only [go_sem,qa,qb,qc,qd,qe,qf,reduceCtorEq,qhK,h]
  rw [qo qyI rfl]
  simp only [go_sem,qa,qb,qc,qd,qe,qf,reduceCtorEq,KJ,lt]
 have hlv:=qS hv
 have hlv':=qS hv'
 have ln:decide (((vs.length:Nat):Int) ≠ ((vs'.length:Nat):Int))=false:=by rw [hlv,hlv'];simp
 have sd:cr qg qg6 [.a [.i false vs,.i true []],.a [.i false vs',.i true []]]=some (B true):=by
  rw [qo qyH rfl]
  simp only [go_sem,qa,qb,qc,qd,qe,qf,reduceCtorEq,KI,ln,st,lp]
 rw [qo qyG rfl]
 simp only [go_sem,qa,qb,qc,qd,qe,qf,reduceCtorEq,KH,sd]
end Go.Vm
namespace Go.Vm
theorem qkr {m:Nat} {t u:Tm} (h:Dr m t) (hu:u ∈ t.kids):Dr m u:=by
 refine ⟨yt h.1 u hu, ?_⟩
 have h2:=h.2
 have e:nT t=nTs t.kids+1:=by cases t;rfl
 have:=qiY hu
 omega
theorem qqs:Dr 1 jD:=ZA (by omega) (by simp) (by omega)
theorem qkt:Dr 1 zT:=ZA (by omega) (by simp) (by omega)
theorem qqr {m:Nat} {t:Tm} (h:Dr m t):Dr (m+1) (jJ t):=⟨qhT h.1,by have:=h.2;simp only [jJ,nT,nTs];omega⟩
theorem qxm(t:Tm):1≤nT t:=by cases t;simp only [nT];omega
theorem qz1 {m:Nat} {t:Tm} (h:Dr m t) (f:Str):Dr (m+1) (zC t f).head∧Dr (m+1) (zC t f).body:=by
 have h1:1≤m:=Nat.le_trans (qxm t) h.2
 have ht:Dr (m+1) jD:=yA qqs (by omega)
 unfold zC
 split
 ·split
  ·rename_i a b hk
   have ha:=qkr h (u:=a) (by rw [hk];simp)
   have hb:=qkr h (u:=b) (by rw [hk];simp)
   refine ⟨yA ha (by omega), ?_⟩
   show Dr (m+1) (if b.kind=1 then jJ b else b)
   split
   ·exact qqr hb
   ·exact yA hb (by omega)
  ·exact ⟨yA h (by omega),ht⟩
 ·exact ⟨yA h (by omega),ht⟩
theorem qrF {m:Nat} {t:Tm} (h:Dr m t) (f:Str):Dr (m+1) (yi t f).head∧Dr (m+1) (yi t f).body:=by
 unfold yi
 split
 ·exact qz1 h f
 ·exact ⟨yA qkt (by omega),yA qkt (by omega)⟩
theorem qrH(t:Tm) (f:Str):(yi t f).file.length≤f.length:=by
 unfold yi
 split
 ·rw [qjj];exact Nat.le_refl _
 ·simp [zCl]
structure DC (c:Cl):Prop where
 h:Dr 500 c.head
 b:Dr 500 c.body
 f:c.file.length≤20
theorem DC.wd {c:Cl} (h:DC c):jE c:=⟨h.h.1,h.b.1⟩
theorem qea(s f:Str) (hf:f.length≤20):DC (yi (zz s) f):=by
 have:=qrF (qc2 s) f
 exact ⟨yA this.1 (by decide),yA this.2 (by decide),Nat.le_trans (qrH _ _) hf⟩
structure DD (n:Nat) (x:Db):Prop where
 c: ∀ c ∈ x.clauses,DC c
 l:x.clauses.length≤n
 o:x.opn.length≤41∧ ∀ s ∈ x.opn,s.length≤20
theorem DD.wd {n:Nat} {x:Db} (h:DD n x): ∀ c ∈ x.clauses,jE c:=fun c hc=>(h.c c hc).wd
theorem qeb {n:Nat} {x:Db} {c:Cl} (h:DD n x) (hc:DC c):DD (n+1) (yh x c):=by
 obtain ⟨q1,q2,q3⟩:=XC x c
 have:=h.l
 refine ⟨?_,by omega,by rw [q3];exact h.o⟩
 unfold yh
 split
 ·intro y hy
  rcases List.mem_append.1 hy with hy|hy
  ·exact h.c y hy
  ·simp only [List.mem_singleton]at hy;subst hy;exact hc
 ·exact h.c
theorem Jh {n m:Nat} {x:Db} (h:DD n x) (hm:n≤m):DD m x:=⟨h.c,Nat.le_trans h.l hm,h.o⟩
def zg(s:Str):Str:=s++[32,46]
theorem qsn:Za (zg [112,40,97,41])=true:=by decide+kernel
theorem qmk:Q2 (zz (zg [112,40,97,41]))=true:=by decide+kernel
theorem qsm(f:Str):jg ⟨[],[]⟩ (yi (zz (zg [112,40,97,41])) f)=true:=by
 have e:yi (zz (zg [112,40,97,41])) f=⟨(zC (zz (zg [112,40,97,41])) []).head,(zC (zz (zg [112,40,97,41])) []).body,f⟩:=by
  unfold yi
  rw [if_pos qmk,qjj]
 have h1:zA (zC (zz (zg [112,40,97,41])) []).head=true:=by decide+kernel
 have h2:zA (zC (zz (zg [112,40,97,41])) []).body=true:=by decide+kernel
 have h3:jO (zC (zz (zg [112,40,97,41])) []).head=true:=by decide+kernel
 rw [e]
 unfold jg ZI xr xq
 simp only [List.nil_append,List.all_cons,List.all_nil,h1,h2,h3,Bool.and_self,Bool.true_and,List.length_cons,List.length_nil]
 rfl
def qmd:List Str:=[[111,110,101],[116,119,111],[]]
theorem qkl(x:Db) (c:Cl) (n:Nat) (hn:n≤1000) (hx:DD n x) (hc:DC c):cr qg Xq [.a [.i false ((x).clauses.map (iCl false)),.i false ((x).opn.map S)],iCl false c]=some (.t [.a [.o 9 ((yh x c).clauses.map oCl),.o 1 ((yh x c).opn.map S)],B (jg x c)]):=
 qgL x c (by have:=hx.l;omega) (by have:=hx.o.1;omega) hx.wd hc.wd false false _ (xR (yY false) _) (yM _) _ _ (jG false _) (jG false _) (qad _) (qad _)
theorem qwO(bs:List UInt8) (ci:Nat) (ch sk:Int) (x:Db) (i:Nat) (hi:i < 29) (hx:DD i x):
 ∃ x',lw qg ZH ⟨[(0,.p (0,0) 0 0),(2,.p (100000,0) 0 0),(3,.p (100000,1) 0 0),(4,.s (100000,2) 0 29),(5,I sk),(6,I (i:Int))],[((0,0),3,[.a [.i false (bs.map zm),I ci,I ch]]),((100000,0),2,[.a [.s (100000,3) 0 0,.s (100000,4) 0 0]]),((100000,1),2,[.a [.i false ((x).clauses.map (iCl false)),.i false ((x).opn.map S)]]),((100000,2),1,yR.map S),((100000,3),9,[]),((100000,4),1,[])]⟩=lw qg ZH ⟨[(0,.p (0,0) 0 0),(2,.p (100000,0) 0 0),(3,.p (100000,1) 0 0),(4,.s (100000,2) 0 29),(5,I sk),(6,I ((i+1:Nat):Int))],[((0,0),3,[.a [.i false (bs.map zm),I ci,I ch]]),((100000,0),2,[.a [.s (100000,3) 0 0,.s (100000,4) 0 0]]),((100000,1),2,[.a [.i false ((x').clauses.map (iCl false)),.i false ((x').opn.map S)]]),((100000,2),1,yR.map S),((100000,3),9,[]),((100000,4),1,[])]⟩∧DD (i+1) x'∧x.clauses.length≤x'.clauses.length∧x'.opn=x.opn:=by
 obtain ⟨s,hs⟩:=qV (l:=yR) (i:=i) hi
 have ls:=qw9 s (List.mem_of_getElem? hs)
 have g:=zu (f:=S) hs
 have ix:=x3 (k:=(100000,2)) (e:=1) (xs:=yR.map S) (i:=i) (len:=29) hi (by simp [yR])
 have a1:=zl (x:=s) (y:=[32,46]) (by simp only [List.length_cons,List.length_nil];omega)
 have rt:=qfs (zg s)
 have hlt:(i:Int) < ((29:Nat):Int):=by omega
 have e1:w64 ((i:Int)+1)=((i+1:Nat):Int):=by rw [qm]<;>omega
 have b3:=ZK (a:=(i:Int)) (b:=3) (by decide)
 have b7:=ZK (a:=(i:Int)) (b:=7) (by decide)
 obtain ⟨j3,e3,u3⟩:=qdj (i:Int) 3 (by omega) (by decide)
 rw [show (i:Int).tmod 3=(j3:Int)from e3]at b3
 obtain ⟨f,gf,lf⟩:=qnb qmd j3 u3 20 (by decide)
 have dc:=qea (zg s) f lf
 have co:=qd8 (zz (zg s)) (qc2 (zg s)).1 f
 have ad:=qkl x _ i (by omega) hx dc
 simp only [qmd,List.map_cons,List.map_nil]at gf
 have ix3:=x3 (k:=(34,0)) (e:=1) (xs:=[S [111,110,101],S [116,119,111],S []]) (i:=j3) (len:=3) (by omega) (by simp)
 unfold zg at*
 have keep:(∀ x':Db,x'=x→DD (i+1) x'∧x.clauses.length≤x'.clauses.length∧x'.opn=x.opn):=by
  rintro x' rfl;exact ⟨Jh hx (by omega),Nat.le_refl _,rfl⟩
 cases h1:Za (s++[32,46])with
 |false=>
  rw [h1]at rt
  refine ⟨x, ?_,keep x rfl⟩
  rw [ql]
  simp only [go_sem,qa,qb,qc,qd,qe,qf,reduceCtorEq,QT,hlt,e1,g,ix,a1,rt,b3,gf,ix3,co]
 |true=>
 rw [h1]at rt
 obtain ⟨j7,e7,u7⟩:=qdj (i:Int) 7 (by omega) (by decide)
 rw [show (i:Int).tmod 7=(j7:Int)from e7]at b7
 have yes:DD (i+1) (yh x (yi (zz (s++[32,46])) f))∧x.clauses.length≤(yh x (yi (zz (s++[32,46])) f)).clauses.length∧(yh x (yi (zz (s++[32,46])) f)).opn=x.opn:=
  ⟨qeb hx dc,(XC _ _).1,(XC _ _).2.2⟩
 cases h2:Q2 (zz (s++[32,46]))with
 |false=>
  rw [h2]at co
  refine ⟨x, ?_,keep x rfl⟩
  rw [ql]
  simp only [go_sem,qa,qb,qc,qd,qe,qf,reduceCtorEq,QT,hlt,e1,g,ix,a1,rt,b3,gf,ix3,co]
 |true=>
 rw [h2]at co
 cases h3:decide (sk=0)with
 |true=>
  refine ⟨_, ?_,yes⟩
  rw [ql]
  simp only [go_sem,qa,qb,qc,qd,qe,qf,reduceCtorEq,QT,hlt,e1,g,ix,a1,rt,b3,b7,gf,ix3,co,ad,h3]
 |false=>
 cases h4:decide ((j7:Int) ≠ sk)with
 |true=>
  refine ⟨_, ?_,yes⟩
  rw [ql]
  simp only [go_sem,qa,qb,qc,qd,qe,qf,reduceCtorEq,QT,hlt,e1,g,ix,a1,rt,b3,b7,gf,ix3,co,ad,h3,h4]
 |false=>
  refine ⟨x, ?_,keep x rfl⟩
  rw [ql]
  simp only [go_sem,qa,qb,qc,qd,qe,qf,reduceCtorEq,QT,hlt,e1,g,ix,a1,rt,b3,b7,gf,ix3,co,ad,h3,h4]
theorem qwL(bs:List UInt8) (ci:Nat) (ch sk:Int):
 ∃ x',lw qg ZH ⟨[(0,.p (0,0) 0 0),(2,.p (100000,0) 0 0),(3,.p (100000,1) 0 0),(4,.s (100000,2) 0 29),(5,I sk),(6,I 0)],[((0,0),3,[.a [.i false (bs.map zm),I ci,I ch]]),((100000,0),2,[.a [.s (100000,3) 0 0,.s (100000,4) 0 0]]),((100000,1),2,[.a [.s (100000,5) 0 0,.s (100000,6) 0 0]]),((100000,2),1,yR.map S),((100000,3),9,[]),((100000,4),1,[]),((100000,5),9,[]),((100000,6),1,[])]⟩=
  lw qg ZH ⟨[(0,.p (0,0) 0 0),(2,.p (100000,0) 0 0),(3,.p (100000,1) 0 0),(4,.s (100000,2) 0 29),(5,I sk),(6,I 1)],[((0,0),3,[.a [.i false (bs.map zm),I ci,I ch]]),((100000,0),2,[.a [.s (100000,3) 0 0,.s (100000,4) 0 0]]),((100000,1),2,[.a [.i false ((x').clauses.map (iCl false)),.i false ((x').opn.map S)]]),((100000,2),1,yR.map S),((100000,3),9,[]),((100000,4),1,[])]⟩∧DD 1 x'∧x'.clauses.length=1∧x'.opn=[]:=by
 have g:(yR.map S)[0]? =some (S [112,40,97,41]):=rfl
 have ix:ixO (100000,2) 0 29 1 (0:Int) (some (1,yR.map S))=some (.p (100000,2) 0 0):=x3 (k:=(100000,2)) (e:=1) (xs:=yR.map S) (i:=0) (len:=29) (by decide) (by simp [yR])
 have a1:=zl (x:=[112,40,97,41]) (y:=[32,46]) (by decide)
 have rt:=qfs (zg [112,40,97,41])
 rw [qsn]at rt
 have hlt:(0:Int) < ((29:Nat):Int):=by decide
 have e1:w64 (0+1)=1:=rfl
 have b3:qD .rem (I 0) (I 3)=some (I 0):=rfl
 have b7:qD .rem (I 0) (I 7)=some (I 0):=rfl
 have dc:=qea (zg [112,40,97,41]) [111,110,101] (by decide)
 have fa:=qsm [111,110,101]
 have co:=qd8 (zz (zg [112,40,97,41])) (qc2 _).1 [111,110,101]
 rw [qmk]at co
 generalize yi (zz (zg [112,40,97,41])) [111,110,101]=c at co dc fa
 have d0:DD 0 ⟨[],[]⟩:=⟨fun c hc=>(by cases hc),Nat.le_refl _,by simp⟩
 have ad:cr qg Xq [.a [.i true [],.i true []],iCl false c]=some (.t [.a [.o 9 ((yh ⟨[],[]⟩ c).clauses.map oCl),.o 1 ((yh ⟨[],[]⟩ c).opn.map S)],B (jg ⟨[],[]⟩ c)]):=
  qgL ⟨[],[]⟩ c (by simp) (by simp) d0.wd dc.wd true true [] rfl rfl _ _ (jG false _) (jG false _) (qad _) (qad _)
 refine ⟨yh ⟨[],[]⟩ c, ?_,qeb d0 dc, ?_,(XC _ _).2.2⟩
 ·simp only [show zg [112,40,97,41]=[112,40,97,41,32,46]from rfl]at rt co
  generalize zz [112,40,97,41,32,46]=t at rt co
  cases h3:decide (sk=0)with
  |true=>
   rw [ql]
   simp only [go_sem,qa,qb,qc,qd,qe,qf,reduceCtorEq,QT,hlt,e1,g,ix,a1,rt,b3,b7,co,ad,h3]
  |false=>
   have h4:decide ((0:Int) ≠ sk)=true:=decide_eq_true (fun h=>by rw [← h]at h3;simp at h3)
   rw [ql]
   simp only [go_sem,qa,qb,qc,qd,qe,qf,reduceCtorEq,QT,hlt,e1,g,ix,a1,rt,b3,b7,co,ad,h3,h4]
 ·unfold yh;rw [if_pos fa];rfl
theorem qwM(bs:List UInt8) (ci:Nat) (ch sk:Int) (m:Nat): ∀ (i:Nat) (x:Db),i+m=29→DD i x→
 ∃ x',lw qg ZH ⟨[(0,.p (0,0) 0 0),(2,.p (100000,0) 0 0),(3,.p (100000,1) 0 0),(4,.s (100000,2) 0 29),(5,I sk),(6,I (i:Int))],[((0,0),3,[.a [.i false (bs.map zm),I ci,I ch]]),((100000,0),2,[.a [.s (100000,3) 0 0,.s (100000,4) 0 0]]),((100000,1),2,[.a [.i false ((x).clauses.map (iCl false)),.i false ((x).opn.map S)]]),((100000,2),1,yR.map S),((100000,3),9,[]),((100000,4),1,[])]⟩=some (.exit 0,⟨[(0,.p (0,0) 0 0),(2,.p (100000,0) 0 0),(3,.p (100000,1) 0 0)],[((0,0),3,[.a [.i false (bs.map zm),I ci,I ch]]),((100000,0),2,[.a [.s (100000,3) 0 0,.s (100000,4) 0 0]]),((100000,1),2,[.a [.i false ((x').clauses.map (iCl false)),.i false ((x').opn.map S)]]),((100000,2),1,yR.map S),((100000,3),9,[]),((100000,4),1,[])]⟩)∧DD 29 x'∧x.clauses.length≤x'.clauses.length∧x'.opn=x.opn:=by
 induction m with
 |zero=>
  intro i x hi hx
  have hlt: ¬ (i:Int) < ((29:Nat):Int):=by omega
  obtain rfl:i=29:=by omega
  refine ⟨x, ?_,hx,Nat.le_refl _,rfl⟩
  rw [ql]
  simp only [go_sem,qa,qb,qc,qd,qe,qf,reduceCtorEq,QT,hlt]
 |succ m ih=>
  intro i x hi hx
  obtain ⟨x1,s1,d1,l1,o1⟩:=qwO bs ci ch sk x i (by omega) hx
  obtain ⟨x2,s2,d2,l2,o2⟩:=ih (i+1) x1 (by omega) d1
  exact ⟨x2,by rw [s1,s2],d2,by omega,by rw [o2,o1]⟩
theorem qwN(bs:List UInt8) (hl:bs.length≤2^40) (i:Nat) (h:Int) (hi:i≤bs.length):
 ∃ (i':Nat) (h':Int) (x:Db),cw qg qhB [CU bs i h]=some (iDb false x,[CU bs i' h'])∧i'≤bs.length∧DD 29 x∧1≤x.clauses.length:=by
 obtain ⟨i1,h1,sk,b1,p1,q1,r1⟩:=xK bs hl i h hi 7 (by decide) (by decide)
 have ll:=qm5
 obtain ⟨x1,s1,d1,l1,o1⟩:=qwL bs i1 h1 sk
 obtain ⟨x2,s2,d2,l2,o2⟩:=qwM bs i1 h1 sk 28 1 x1 (by omega) d1
 simp only [Int.natCast_one]at s2
 rw [s2]at s1
 have o3:x2.opn=[]:=by rw [o2,o1]
 obtain ⟨i3,h3,c3,b3,p3⟩:=qfQ bs hl i1 h1 p1 2 (by decide) (by decide)
 have ln:(yR.map S).length=29:=rfl
 unfold CU at b1 b3
 rw [o3]at s1
 simp only [List.map_nil]at s1
 cases c3 with
 |false=>
  refine ⟨i3,h3,x2, ?_,p3,d2,by omega⟩
  rw [qI qn1 rfl]
  unfold CU iDb
  rw [o3]
  simp only [List.map_nil]
  simp only [go_sem,qa,qb,qc,qd,qe,qf,reduceCtorEq,Xj,qw,b1,b3,ll,ln,s1]
 |true=>
  have op:=qqW x2.clauses [117,110,107,110,111,119,110,47,49] (by have:=d2.l;omega) d2.wd false false _ (xR (yY false) _) (yM _)
  unfold oDb at op
  simp only [List.map_cons,List.map_nil]at op
  refine ⟨i3,h3,⟨x2.clauses,[[117,110,107,110,111,119,110,47,49]]⟩, ?_,p3,⟨d2.c,d2.l,by simp⟩,by simp only;omega⟩
  rw [qI qn1 rfl]
  unfold CU iDb
  simp only [List.map_cons,List.map_nil]
  simp only [go_sem,qa,qb,qc,qd,qe,qf,reduceCtorEq,Xj,qw,b1,b3,ll,ln,s1,op]
end Go.Vm
namespace Go.Vm
def oF(x:Db):V:= .a [.o 9 (x.clauses.map (iCl false)),.o 1 (x.opn.map S)]
theorem xI(τ:Bool) (l:List Cl):qC (l.map (iCl τ))=true:=jr (qrC τ) l
theorem kU(d:Nat) (τ:Bool) (l:List Cl):qB d (l.map (iCl τ))=l.map (iCl τ):=ZR d _ (xI τ l)
theorem kW(m:Nat) (T:Mem) (τ:Bool) (l:List Cl):qy (zf m) T (l.map (iCl τ))=(l.map (iCl τ),T):=ku m T _ (xI τ l)
theorem jb(k:Key) (ob:Ob) (τ:Bool) (l:List Cl):zG k ob (l.map (iCl τ))=none:=jZ k ob _ (xI τ l)
theorem kq(ρ τ:Bool) (l:List Cl):qT ρ (l.map (iCl τ))=l.map (iCl τ):=jK (qrS ρ τ) l
theorem qwI(bs:List UInt8) (ci:Nat) (ch:Int) (os:List Str) (c:Cl) (m:Nat): ∀ (i:Nat) (cs:List Cl),i+m=120→cs.length≤30+i→cs[0]? =some c→
 lw qg qb3 ⟨[(0,.p (0,0) 0 0),(2,.p (100000,0) 0 0),(4,.p (100000,1) 0 0),(5,I (i:Int))],[((0,0),3,[.a [.i false (bs.map zm),I ci,I ch]]),((100000,0),2,[.a [.s (100000,2) 0 0,.s (100000,3) 0 0]]),((100000,1),2,[.a [.s (100000,4) 0 cs.length,.s (100000,5) 0 os.length]]),((100000,2),9,[]),((100000,3),1,[]),((100000,4),9,cs.map (iCl false)),((100000,5),1,os.map S)]⟩=some (.exit 1,⟨[(0,.p (0,0) 0 0),(2,.p (100000,0) 0 0),(4,.p (100000,1) 0 0)],[((0,0),3,[.a [.i false (bs.map zm),I ci,I ch]]),((100000,0),2,[.a [.s (100000,2) 0 0,.s (100000,3) 0 0]]),((100000,1),2,[.a [.s (100000,4) 0 (cs++List.replicate m c).length,.s (100000,5) 0 os.length]]),((100000,2),9,[]),((100000,3),1,[]),((100000,4),9,(cs++List.replicate m c).map (iCl false)),((100000,5),1,os.map S)]⟩):=by
 induction m with
 |zero=>
  intro i cs hi hl hc
  have hlt: ¬ (i:Int) < 120:=by omega
  simp only [List.replicate_zero,List.append_nil]
  rw [ql]
  simp only [go_sem,qa,qb,qc,qd,qe,qf,reduceCtorEq,qfn,hlt,List.length_map]
 |succ m ih=>
  intro i cs hi hl hc
  have hlt:(i:Int) < 120:=by omega
  have e1:w64 ((i:Int)+1)=((i+1:Nat):Int):=by rw [qm]<;>omega
  have h:=ih (i+1) (cs++[c]) (by omega) (by simp;omega) (by rw [List.getElem?_append_left (by have:=(List.getElem?_eq_some_iff.1 hc).1;omega)];exact hc)
  have rr:cs++[c]++List.replicate m c=cs++List.replicate (m+1) c:=by rw [List.append_assoc];rfl
  rw [rr]at h
  rw [← h]
  have hp:1≤cs.length:=(List.getElem?_eq_some_iff.1 hc).1
  have g:(cs.map (iCl false))[0]? =some (iCl false c):=zu (f:=iCl false) hc
  have ix:ixO (100000,4) 0 cs.length 9 (0:Int) (some (9,cs.map (iCl false)))=some (.p (100000,4) 0 0):=by
   have:=x3 (k:=(100000,4)) (e:=9) (xs:=cs.map (iCl false)) (i:=0) (len:=cs.length) hp (by simp)
   simpa using this
  have b1:decide ((cs.length+1)*128≤lim)=true:=decide_eq_true (by rw [qM];omega)
  have b2:decide (cs.length+1≤lim)=true:=decide_eq_true (by rw [qM];omega)
  have ln:(cs++[c]).length=cs.length+1:=by simp
  rw [ln,ql]
  simp only [go_sem,qa,qb,qc,qd,qe,qf,reduceCtorEq,qfn,hlt,e1,g,ix,b1,b2,xI,kU,kW,jb,List.length_map]
def tA:List Str:=[[97],[112,40,88,44,32,98,41],[113,32,58,45,32,112,40,88,44,32,89,41,44,32,92,43,32,114,40,89,41],[91,97,44,32,66,124,67,93,32,61,32,68],[120,32,45,45,62,32,91,119,93,44,32,121],[45,32,51,32,43,32,45,51,32,42,32,88],[102,40,45,44,32,97,41],[40,43,41],[88,32,105,115,32,49,32,43,32,50,32,45,32,51],[97,32,58,45,32,40,98,32,59,32,99,32,45,62,32,100,41],[39,120,45,121,39,40,90,41],[102,40,97],[91,93],[103,40,95,44,32,95,41],[58,45,32,111,112,101,110,40,47,40,97,44,32,50,41,41],[97,32,98],[45,32,40,49,41]]
def tB:List Str:=[[46,10],[46,32],[46],[32,46,10,37,32,110,111,10]]
end Go.Vm
namespace Go.Vm
theorem qr0 {f:Nat} {xs:List V} (hs:cr qg f xs=some (B true)): ∃ outs,cw qg f xs=some (B true,outs):=by
 unfold cr at hs
 cases hc:cw qg f xs with
 |none=>rw [hc]at hs;cases hs
 |some r=>rw [hc]at hs;obtain ⟨a,b⟩:=r;simp only [Option.map_some,Option.some.injEq]at hs;subst hs;exact ⟨b,rfl⟩
end Go.Vm
namespace Go.Vm
def qxa:List Str→Str
 |[]=>[]
 |s::ss=>s++[10]++qxa ss
end Go.Vm
set_option maxHeartbeats 8000000
namespace Go.Vm
def qBw:List Cl→Str
 |[]=>[]
 |c::cs=>qBv c++qBw cs
end Go.Vm
namespace Go.Vm
open Go.Lib (itoa join joinTail)
end Go.Vm
namespace Go.Vm
def nl4:Str:=[10,32,32,32,32]
def bl:Nat→Tm→Str
 |0,_=>[]
 |n+1,t=>match yE t [44] 2,t.kids with
  |true,[a,b]=>nl4++held true 999 a++[44]++bl n b
  |_,_=>nl4++held true 999 t++[46,10]
def qzW(c:Cl):Bool:=zA c.head&&(zA c.body&&decide (xy c.head≤1199))
def qzV(c:Cl):Str:=
 if qzW c=true then
  if Qs c.body [116,114,117,101]=true then wr true c.head++[46,10]else wr true c.head++[32,58,45]++bl (nT c.body) c.body
 else y9 true (zH c)++[32,46,10]
end Go.Vm
namespace Go.Vm
def qzX:List Cl→Str
 |[]=>[]
 |c::cs=>qzV c++qzX cs
end Go.Vm
namespace Go.Vm
theorem qwJ(bs:List UInt8) (hl:bs.length≤2^40) (i:Nat) (h:Int) (hi:i≤bs.length):
 ∃ (i':Nat) (h':Int) (x:Db),cw qg qhx [CU bs i h]=some (oF x,[CU bs i' h'])∧i'≤bs.length∧DD 150 x∧1≤x.clauses.length:=by
 obtain ⟨i1,h1,k,b1,p1,q1,r1⟩:=xK bs hl i h hi 10 (by decide) (by decide)
 obtain ⟨i2,h2,x,b2,p2,dx,lx⟩:=qwN bs hl i1 h1 p1
 have dl:=dx.l
 have cp:=qfS x (by unfold Lm;omega) (by have:=dx.o.1;unfold Lm;omega) false false _ (xR (yY false) _) (yM _)
 have tko:=List.take_of_length_le (l:=x.opn.map S) (i:=x.opn.length) (by simp)
 have tkc: ∀ l:List Cl,(l.map (iCl false)).take l.length=l.map (iCl false):=fun l=>List.take_of_length_le (by simp)
 unfold iDb at b2
 unfold CU at b1 b2
 by_cases k0:k=0
 ·have d0:decide (k=0)=true:=decide_eq_true k0
  obtain ⟨i3,h3,t,b3,p3,w3⟩:=qm1 bs hl i2 h2 p2
  obtain ⟨i4,h4,u,b4,p4,w4⟩:=qm1 bs hl i3 h3 p3
  refine ⟨i4,h4,⟨x.clauses++[⟨t,u,[]⟩],x.opn⟩, ?_,p4,⟨?_,by simp only [List.length_append,List.length_cons,List.length_nil];omega,dx.o⟩,by simp⟩
  ·have b1':decide ((x.clauses.length+1)*128≤lim)=true:=decide_eq_true (by rw [qM];omega)
   have b2':decide (x.clauses.length+1≤lim)=true:=decide_eq_true (by rw [qM];omega)
   have e:(x.clauses++[(⟨t,u,[]⟩:Cl)]).map (iCl false)=x.clauses.map (iCl false)++[.a [I t.kind,S t.name,I t.num,.i false (t.kids.map (iT false)),I u.kind,S u.name,I u.num,.i false (u.kids.map (iT false)),S []]]:=by
    rw [List.map_append];rfl
   have tk1: ∀ w:V,(x.clauses.map (iCl false)++[w]).take (x.clauses.length+1)=x.clauses.map (iCl false)++[w]:=fun w=>List.take_of_length_le (by simp)
   rw [qI qf6 rfl]
   unfold oF
   rw [e]
   unfold CU at b3 b4 ⊢
   rw [qv]at b3 b4
   simp only [go_sem,qa,qb,qc,qd,qe,qf,reduceCtorEq,Zy,qw,b1,b2,b3,b4,cp,d0,b1',b2',tko,tkc,tk1,xI,kU,kW,jb,kq,yM,List.length_map]
  ·intro c hc
   rcases List.mem_append.1 hc with hc|hc
   ·exact dx.c c hc
   ·simp only [List.mem_singleton]at hc;subst hc
    exact ⟨yA w3 (by decide),yA w4 (by decide),by simp⟩
 have d0:decide (k=0)=false:=decide_eq_false k0
 by_cases k1:k=1
 ·have d1:decide (k=1)=true:=decide_eq_true k1
  obtain ⟨c,hc⟩:=qV (l:=x.clauses) (i:=0) (by omega)
  have lp:=qwI bs i2 h2 x.opn c 120 0 x.clauses (by omega) (by omega) hc
  simp only [Int.natCast_zero]at lp
  refine ⟨i2,h2,⟨x.clauses++List.replicate 120 c,x.opn⟩, ?_,p2,⟨?_,by simp only [List.length_append,List.length_replicate];omega,dx.o⟩,by simp only [List.length_append];omega⟩
  ·generalize x.clauses++List.replicate 120 c=cs at lp ⊢
   rw [qI qf6 rfl]
   unfold oF CU
   simp only [go_sem,qa,qb,qc,qd,qe,qf,reduceCtorEq,Zy,qw,b1,b2,cp,d0,d1,lp,tko,tkc,xI,kU,kW,jb,kq,yM,List.length_map]
  ·intro y hy
   rcases List.mem_append.1 hy with hy|hy
   ·exact dx.c y hy
   ·rw [(List.mem_replicate.1 hy).2];exact dx.c c (List.mem_of_getElem? hc)
 have d1:decide (k=1)=false:=decide_eq_false k1
 by_cases k2:k=2
 ·have d2:decide (k=2)=true:=decide_eq_true k2
  refine ⟨i2,h2,⟨x.clauses,List.replicate 41 []⟩, ?_,p2,⟨dx.c,by simp only;omega,by simp only [List.length_replicate];exact ⟨by omega,fun s hs=>by rw [(List.mem_replicate.1 hs).2];simp⟩⟩,lx⟩
  have mk: ∀ σ T,mkK 1 16 (S []) (I 41) (I 41) 41 σ T=_:=fun σ T=>qxi (σ:=σ) (T:=T) (e:=1) (bytes:=16) (z:=S []) (n:=41) (d:=41) (by decide) (by decide) rfl rfl rfl
  rw [qI qf6 rfl]
  unfold oF CU
  rw [List.map_replicate]
  have tk41:(List.replicate 41 (S [])).take 41=List.replicate 41 (S []):=rfl
  simp only [go_sem,qa,qb,qc,qd,qe,qf,reduceCtorEq,Zy,qw,b1,b2,cp,d0,d1,d2,mk,tk41,tko,tkc,xI,kU,kW,jb,kq,yM,List.length_map]
 have d2:decide (k=2)=false:=decide_eq_false k2
 refine ⟨i2,h2,x, ?_,p2,Jh dx (by decide),lx⟩
 rw [qI qf6 rfl]
 unfold oF CU
 simp only [go_sem,qa,qb,qc,qd,qe,qf,reduceCtorEq,Zy,qw,b1,b2,cp,d0,d1,d2,tko,tkc,xI,kU,kW,jb,kq,yM,List.length_map]
end Go.Vm
namespace Go.Vm
def J9:List Str:=[[97,32,58,45,32,98,44,32,92,43,32,99],[98,32,58,45,32,100,32,59,32,101],[99,32,58,45,32,99,97,108,108,40,100,41],[100],[101,32,58,45,32,40,102,32,45,62,32,103,32,59,32,104,41],[102,32,58,45,32,92,43,32,97],[103,32,58,45,32,99,97,116,99,104,40,120,44,32,95,44,32,121,41],[104,32,58,45,32,104],[107,40,88,41,32,58,45,32,112,40,88,41,44,32,92,43,32,107,40,88,41],[120],[121,32,58,45,32,88,44,32,99,97,108,108,40,88,41],[109,32,58,45,32,92,43,32,92,43,32,100,44,32,99]]
theorem qwS:cr qg qhF []=some (.o 1 (J9.map S)):=by
 rw [qo qzH rfl]
 simp only [go_sem,qa,qb,qc,qd,qe,qf,reduceCtorEq,K9]
 rfl
def XU(s:Str):Bool:=Za (zg s)&&Q2 (zz (zg s))&&zA (zC (zz (zg s)) []).head&&zA (zC (zz (zg s)) []).body&&jO (zC (zz (zg s)) []).head
theorem qxz:J9.all XU=true:=by decide+kernel
theorem qxA:yR.all XU=true:=by decide+kernel
theorem qw8(b:Bool): ∀ s ∈ (if b then yR else J9),XU s=true∧s.length≤60:=by
 have l1: ∀ s ∈ J9,s.length≤60:=by decide
 have l2: ∀ s ∈ yR,s.length≤60:=by decide
 cases b
 ·exact fun s hs=>⟨List.all_eq_true.1 qxz s hs,l1 s hs⟩
 ·exact fun s hs=>⟨List.all_eq_true.1 qxA s hs,l2 s hs⟩
theorem qna(s f:Str) (h:XU s=true):Za (zg s)=true∧Q2 (zz (zg s))=true∧jg ⟨[],[]⟩ (yi (zz (zg s)) f)=true:=by
 unfold XU at h
 simp only [Bool.and_eq_true]at h
 obtain ⟨⟨⟨⟨h0,hc⟩,h1⟩,h2⟩,h3⟩:=h
 have e:yi (zz (zg s)) f=⟨(zC (zz (zg s)) []).head,(zC (zz (zg s)) []).body,f⟩:=by
  unfold yi
  rw [if_pos hc,qjj]
 refine ⟨h0,hc, ?_⟩
 rw [e]
 unfold jg ZI xr xq
 simp only [List.nil_append,List.all_cons,List.all_nil,h1,h2,h3,Bool.and_self,Bool.true_and,List.length_cons,List.length_nil]
 rfl
theorem qwQ(bs:List UInt8) (hl:bs.length≤2^40) (ls:List Str) (hls: ∀ s ∈ ls,XU s=true∧s.length≤60) (h0:0 < ls.length) (h1:ls.length≤256) (m:Nat): ∀ (i:Nat) (x:Db) (ci:Nat) (ch:Int),i+m=12→DD i x→ci≤bs.length→
 ∃ (ci':Nat) (ch':Int) (x':Db),lw qg Xw ⟨[(0,.p (0,0) 0 0),(2,.p (100000,0) 0 0),(3,.p (100000,1) 0 0),(4,.s (100000,2) 0 ls.length),(5,I (i:Int))],[((0,0),3,[.a [.i false (bs.map zm),I ci,I ch]]),((100000,0),2,[.a [.s (100000,3) 0 0,.s (100000,4) 0 0]]),((100000,1),2,[.a [.i false ((x).clauses.map (iCl false)),.i false ((x).opn.map S)]]),((100000,2),1,ls.map S),((100000,3),9,[]),((100000,4),1,[])]⟩=some (.exit 0,⟨[(0,.p (0,0) 0 0),(2,.p (100000,0) 0 0),(3,.p (100000,1) 0 0)],[((0,0),3,[.a [.i false (bs.map zm),I ci',I ch']]),((100000,0),2,[.a [.s (100000,3) 0 0,.s (100000,4) 0 0]]),((100000,1),2,[.a [.i false ((x').clauses.map (iCl false)),.i false ((x').opn.map S)]]),((100000,2),1,ls.map S),((100000,3),9,[]),((100000,4),1,[])]⟩)∧ci'≤bs.length∧DD 12 x'∧x'.opn=x.opn∧x.clauses.length≤x'.clauses.length:=by
 induction m with
 |zero=>
  intro i x ci ch hi hx hc
  obtain ⟨c1,d1,x1,b1,q1,q2,q3⟩:=xK bs hl ci ch hc 10 (by decide) (by decide)
  have e1:w64 (2+x1)=2+x1:=by rw [qm]<;>omega
  have hlt: ¬ (i:Int) < 2+x1:=by omega
  refine ⟨c1,d1,x, ?_,q1,Jh hx (by omega),rfl,Nat.le_refl _⟩
  unfold CU at b1
  rw [ql]
  simp only [go_sem,qa,qb,qc,qd,qe,qf,reduceCtorEq,JM,b1,e1,hlt]
 |succ m ih=>
  intro i x ci ch hi hx hc
  obtain ⟨c1,d1,x1,b1,q1,q2,q3⟩:=xK bs hl ci ch hc 10 (by decide) (by decide)
  have e1:w64 (2+x1)=2+x1:=by rw [qm]<;>omega
  by_cases hlt:(i:Int) < 2+x1
  case neg=>
   refine ⟨c1,d1,x, ?_,q1,Jh hx (by omega),rfl,Nat.le_refl _⟩
   unfold CU at b1
   rw [ql]
   simp only [go_sem,qa,qb,qc,qd,qe,qf,reduceCtorEq,JM,b1,e1,hlt]
  obtain ⟨c2,d2,s,b2,q4,hs⟩:=J8 bs hl c1 d1 q1 1 ls h0 h1
  obtain ⟨ok,lens⟩:=hls s hs
  have a1:=zl (x:=s) (y:=[32,46]) (by simp only [List.length_cons,List.length_nil];omega)
  have rt:=qfs (zg s)
  obtain ⟨r1,r2,-⟩:=qna s [111,110,101] ok
  rw [r1]at rt
  have dc:=qea (zg s) [111,110,101] (by decide)
  have co:=qd8 (zz (zg s)) (qc2 (zg s)).1 [111,110,101]
  rw [r2]at co
  have ad:=qkl x _ i (by omega) hx dc
  have e2:w64 ((i:Int)+1)=((i+1:Nat):Int):=by rw [qm]<;>omega
  obtain ⟨c4,d4,x4,h4,q8,q9,q10,q11⟩:=ih (i+1) (yh x (yi (zz (zg s)) [111,110,101])) c2 d2 (by omega) (qeb hx dc) q4
  have al:=XC x (yi (zz (zg s)) [111,110,101])
  refine ⟨c4,d4,x4, ?_,q8,q9,by rw [q10,al.2.2],by have:=al.1;omega⟩
  rw [← h4]
  unfold zg at*
  unfold CU at b1 b2
  rw [ql]
  simp only [go_sem,qa,qb,qc,qd,qe,qf,reduceCtorEq,JM,b1,b2,e1,e2,a1,hlt,rt,co,ad,List.length_map]
theorem qwP(bs:List UInt8) (hl:bs.length≤2^40) (ls:List Str) (hls: ∀ s ∈ ls,XU s=true∧s.length≤60) (h0:0 < ls.length) (h1:ls.length≤256) (ci:Nat) (ch:Int) (hc:ci≤bs.length):
 ∃ (ci':Nat) (ch':Int) (x':Db),lw qg Xw ⟨[(0,.p (0,0) 0 0),(2,.p (100000,0) 0 0),(3,.p (100000,1) 0 0),(4,.s (100000,2) 0 ls.length),(5,I 0)],[((0,0),3,[.a [.i false (bs.map zm),I ci,I ch]]),((100000,0),2,[.a [.s (100000,3) 0 0,.s (100000,4) 0 0]]),((100000,1),2,[.a [.s (100000,5) 0 0,.s (100000,6) 0 0]]),((100000,2),1,ls.map S),((100000,3),9,[]),((100000,4),1,[]),((100000,5),9,[]),((100000,6),1,[])]⟩=
  lw qg Xw ⟨[(0,.p (0,0) 0 0),(2,.p (100000,0) 0 0),(3,.p (100000,1) 0 0),(4,.s (100000,2) 0 ls.length),(5,I 1)],[((0,0),3,[.a [.i false (bs.map zm),I ci',I ch']]),((100000,0),2,[.a [.s (100000,3) 0 0,.s (100000,4) 0 0]]),((100000,1),2,[.a [.i false ((x').clauses.map (iCl false)),.i false ((x').opn.map S)]]),((100000,2),1,ls.map S),((100000,3),9,[]),((100000,4),1,[])]⟩∧ci'≤bs.length∧DD 1 x'∧x'.opn=[]∧x'.clauses.length=1:=by
 obtain ⟨c1,d1,x1,b1,q1,q2,q3⟩:=xK bs hl ci ch hc 10 (by decide) (by decide)
 have e1:w64 (2+x1)=2+x1:=by rw [qm]<;>omega
 have hlt:(0:Int) < 2+x1:=by omega
 obtain ⟨c2,d2,s,b2,q4,hs⟩:=J8 bs hl c1 d1 q1 1 ls h0 h1
 obtain ⟨ok,lens⟩:=hls s hs
 have a1:=zl (x:=s) (y:=[32,46]) (by simp only [List.length_cons,List.length_nil];omega)
 have rt:=qfs (zg s)
 obtain ⟨r1,r2,fa⟩:=qna s [111,110,101] ok
 rw [r1]at rt
 have dc:=qea (zg s) [111,110,101] (by decide)
 have co:=qd8 (zz (zg s)) (qc2 (zg s)).1 [111,110,101]
 rw [r2]at co
 generalize yi (zz (zg s)) [111,110,101]=c at co dc fa
 have d0:DD 0 ⟨[],[]⟩:=⟨fun c hc=>(by cases hc),Nat.le_refl _,by simp⟩
 have ad:cr qg Xq [.a [.i true [],.i true []],iCl false c]=some (.t [.a [.o 9 ((yh ⟨[],[]⟩ c).clauses.map oCl),.o 1 ((yh ⟨[],[]⟩ c).opn.map S)],B (jg ⟨[],[]⟩ c)]):=
  qgL ⟨[],[]⟩ c (by simp) (by simp) d0.wd dc.wd true true [] rfl rfl _ _ (jG false _) (jG false _) (qad _) (qad _)
 have e2:w64 (0+1)=1:=rfl
 refine ⟨c2,d2,yh ⟨[],[]⟩ c, ?_,q4,qeb d0 dc,(XC _ _).2.2,by unfold yh;rw [if_pos fa];rfl⟩
 unfold zg at*
 unfold CU at b1 b2
 generalize zz (s++[32,46])=t at rt co
 rw [ql]
 simp only [go_sem,qa,qb,qc,qd,qe,qf,reduceCtorEq,JM,b1,b2,e1,e2,a1,hlt,rt,co,ad,List.length_map]
theorem qwR(bs:List UInt8) (hl:bs.length≤2^40) (i:Nat) (h:Int) (hi:i≤bs.length):
 ∃ (i':Nat) (h':Int) (x:Db),cw qg qhE [CU bs i h]=some (iDb false x,[CU bs i' h'])∧i'≤bs.length∧DD 29 x∧1≤x.clauses.length:=by
 obtain ⟨i3,h3,c3,b3,p3⟩:=qfQ bs hl i h hi 2 (by decide) (by decide)
 have l1:=qwS
 have l2:=qm5
 have hls:=qw8 c3
 have hn:0 < (if c3 then yR else J9).length∧(if c3 then yR else J9).length≤256:=by cases c3<;>decide
 obtain ⟨c1,d1,x1,s1,q1,dx,o1,n1⟩:=qwP bs hl _ hls hn.1 hn.2 i3 h3 p3
 obtain ⟨c2,d2,x2,s2,q2,dx2,o2,n2⟩:=qwQ bs hl _ hls hn.1 hn.2 11 1 x1 c1 d1 (by omega) dx q1
 simp only [Int.natCast_one]at s2
 rw [s2]at s1
 have o3:x2.opn=[]:=by rw [o2,o1]
 refine ⟨c2,d2,x2, ?_,q2,Jh dx2 (by omega),by omega⟩
 rw [o3]at s1
 simp only [List.map_nil]at s1
 rw [qI qzG rfl]
 unfold CU iDb
 unfold CU at b3
 rw [o3]
 simp only [List.map_nil]
 cases c3 with
 |false=>
  simp only [Bool.false_eq_true,if_false]at s1
  simp only [go_sem,qa,qb,qc,qd,qe,qf,reduceCtorEq,Xm,qw,b3,l1,l2,s1,List.length_map]
 |true=>
  simp only [if_true]at s1
  simp only [go_sem,qa,qb,qc,qd,qe,qf,reduceCtorEq,Xm,qw,b3,l1,l2,s1,List.length_map]
theorem qm6(bs:List UInt8) (hl:bs.length≤2^40) (i:Nat) (h:Int) (hi:i≤bs.length):
 ∃ (i':Nat) (h':Int) (x:Db) (v:V),cw qg qeL [CU bs i h]=some (v,[CU bs i' h'])∧(v=oF x∨v=iDb false x)∧i'≤bs.length∧DD 150 x∧1≤x.clauses.length:=by
 obtain ⟨i1,h1,c1,b1,p1⟩:=qfQ bs hl i h hi 5 (by decide) (by decide)
 unfold CU at b1
 cases c1 with
 |true=>
  obtain ⟨i2,h2,x,b2,p2,dx,lx⟩:=qwJ bs hl i1 h1 p1
  refine ⟨i2,h2,x,oF x, ?_,.inl rfl,p2,dx,lx⟩
  have tko:=List.take_of_length_le (l:=x.opn.map S) (i:=x.opn.length) (by simp)
  have tkc: ∀ l:List Cl,(l.map (iCl false)).take l.length=l.map (iCl false):=fun l=>List.take_of_length_le (by simp)
  unfold CU at b2
  rw [qI qn2 rfl]
  unfold CU oF at*
  simp only [go_sem,qa,qb,qc,qd,qe,qf,reduceCtorEq,Xl,qw,b1,b2,tko,tkc,xI,kU,kW,jb,kq,yM,List.length_map]
 |false=>
  obtain ⟨i2,h2,x,b2,p2,dx,lx⟩:=qwR bs hl i1 h1 p1
  refine ⟨i2,h2,x,iDb false x, ?_,.inr rfl,p2,Jh dx (by decide),lx⟩
  unfold CU at b2
  rw [qI qn2 rfl]
  unfold CU iDb at*
  simp only [go_sem,qa,qb,qc,qd,qe,qf,reduceCtorEq,Xl,qw,b1,b2,xI,kU,kW,jb,kq,yM,List.length_map]
end Go.Vm
namespace Go.Vm
theorem qlV {x:Db} {v:V} (h:v=oF x∨v=iDb false x):zb false v=iDb false x:=by
 rcases h with rfl|rfl
 ·unfold oF iDb
  simp only [zb,qT,kq]
  congr 3
  exact congrArg _ (jK (g:=S) (fun s=>rfl) _)
 ·unfold iDb
  simp only [zb,qT]
theorem qBz(T:Mem) (e i:Nat) (τ:Bool) (C:List V) (hh:XK e C=true) (h:i≤C.length):YN T e (.i τ C) (some (I (i:Int))) none=some (.i τ (C.drop i)):=by
 have h0:(0:Int)≤(i:Int):=by omega
 have ht:(C.drop i).take (C.length - i)=C.drop i:=List.take_of_length_le (by simp)
 simp only [YN,ZT,xH,I,h0,if_true,Int.toNat_natCast,Nat.le_refl,and_true,h,hh,ht]
def oG(x:Db):V:= .a [.o 9 (x.clauses.map (iCl false)),.i false (x.opn.map S)]
def qf7(a:Db) (k:Nat):List Cl:=a.clauses.take k++a.clauses.drop (k+1)
theorem qwT(bs:List UInt8) (hl:bs.length≤2^40): ∃ (a b:Db) (v:V),cr qg qhG [.i false (bs.map zm)]=some (.t [iDb false a,v])∧(v=oG b∨v=iDb false b)∧DD 150 a∧DD 150 b:=by
 obtain ⟨h,n⟩:=qwp bs hl
 obtain ⟨i1,h1,a,va,b1,ca,p1,da,la⟩:=qm6 bs hl 0 h (Nat.zero_le _)
 obtain ⟨i2,h2,c2,b2,p2⟩:=qfQ bs hl i1 h1 p1 2 (by decide) (by decide)
 have cv:=qlV ca
 have al:=da.l
 unfold CU at n b1 b2
 simp only [Int.natCast_zero]at n b1
 unfold iDb at cv
 cases c2 with
 |false=>
  obtain ⟨i3,h3,b,vb,b3,cb,p3,db,lb⟩:=qm6 bs hl i2 h2 p2
  have cw':=qlV cb
  refine ⟨a,b,iDb false b, ?_,.inr rfl,da,db⟩
  unfold CU at b3
  unfold iDb at*
  rw [qo qn3 rfl]
  simp only [go_sem,qa,qb,qc,qd,qe,qf,reduceCtorEq,Xn,n,b1,b2,b3,cv,cw',xI,kU,kW,jb,kq,yM,List.length_map]
 |true=>
  obtain ⟨i3,h3,k,b3,p3,k0,k1⟩:=xK bs hl i2 h2 p2 (a.clauses.length:Nat) (by omega) (by omega)
  obtain ⟨k,rfl⟩: ∃ n:Nat,k=n:=⟨k.toNat,by omega⟩
  have kl:k < a.clauses.length:=by omega
  have cp:=qfS a (by unfold Lm;omega) (by have:=da.o.1;unfold Lm;omega) false false _ (xR (yY false) _) (yM _)
  obtain ⟨c,hc⟩:=qV (l:=a.clauses) (i:=0) (by omega)
  have gc:=zu (f:=iCl false) hc
  have a1: ∀ T,jj T 9 (.i false (a.clauses.map (iCl false))) 0=some (.q false (a.clauses.map (iCl false)) 0 0):=fun T=>qZ (τ:=false) (T:=T) (e:=9) gc (jk (yY false c))
  have hh:XK 9 (a.clauses.map (iCl false))=true:=qmE (xR (yY false) _)
  have s1:=fun T=>qpy T 9 k false (a.clauses.map (iCl false)) hh (by simp;omega)
  have s2:=fun T=>qBz T 9 (k+1) false (a.clauses.map (iCl false)) hh (by simp;omega)
  have m1:(a.clauses.map (iCl false)).take k=(a.clauses.take k).map (iCl false):=by rw [List.map_take]
  have m2:(a.clauses.map (iCl false)).drop (k+1)=(a.clauses.drop (k+1)).map (iCl false):=by rw [List.map_drop]
  rw [m1]at s1
  rw [m2]at s2
  have z1: ∀ l:List Cl,ya (l.map (iCl false))=true:=fun l=>JN (xR (yY false) l)
  have q1: ∀ l:List Cl,xV 9 (l.map (iCl false))=true:=fun l=>qcp (xR (yY false) l)
  have w1: ∀ n:Nat,n≤400→decide (n*128≤lim)=true∧decide (n≤lim)=true:=fun n hn=>⟨decide_eq_true (by rw [qM];omega),decide_eq_true (by rw [qM];omega)⟩
  have n1:(a.clauses.take k).length=k:=by simp;omega
  have n2:(a.clauses.drop (k+1)).length=a.clauses.length - (k+1):=by simp
  obtain ⟨w2,w3⟩:=w1 k (by omega)
  obtain ⟨w4,w5⟩:=w1 (k+(a.clauses.length - (k+1))) (by omega)
  obtain ⟨w6,w7⟩:=w1 (k+(a.clauses.length - (k+1))+1) (by omega)
  have tk2:((a.clauses.take k).map (iCl false)).take k=(a.clauses.take k).map (iCl false):=List.take_of_length_le (by simp;omega)
  have tk3:((a.clauses.take k).map (iCl false)++(a.clauses.drop (k+1)).map (iCl false)).take (k+(a.clauses.length - (k+1)))=(a.clauses.take k).map (iCl false)++(a.clauses.drop (k+1)).map (iCl false):=List.take_of_length_le (by simp;omega)
  have tk4:((a.clauses.take k).map (iCl false)++((a.clauses.drop (k+1)).map (iCl false)++[iCl false c])).take (k+(a.clauses.length - (k+1)+1))=(a.clauses.take k).map (iCl false)++((a.clauses.drop (k+1)).map (iCl false)++[iCl false c]):=List.take_of_length_le (by simp;omega)
  have tk5:((a.clauses.take k).map (iCl false)++(a.clauses.drop (k+1)).map (iCl false)++[iCl false c]).take (k+(a.clauses.length - (k+1))+1)=(a.clauses.take k).map (iCl false)++(a.clauses.drop (k+1)).map (iCl false)++[iCl false c]:=List.take_of_length_le (by simp;omega)
  have tk0: ∀ l:List Cl,(l.map (iCl false)).take l.length=l.map (iCl false):=fun l=>List.take_of_length_le (by simp)
  have e1:w64 ((k:Int)+1)=((k+1:Nat):Int):=by rw [qm]<;>omega
  have gt:(0:Int) < (a.clauses.length:Int):=by omega
  refine ⟨a,⟨qf7 a k++[c],a.opn⟩,oG ⟨qf7 a k++[c],a.opn⟩, ?_,.inl rfl,da, ?_⟩
  ·unfold CU at b3
   unfold iDb oG qf7 at*
   rw [qo qn3 rfl]
   simp only [go_sem,qa,qb,qc,qd,qe,qf,reduceCtorEq,Xn,n,b1,b2,b3,cv,cp,gc,a1,s1,s2,z1,q1,n1,n2,w2,w3,w4,w5,w6,w7,tk2,tk3,tk4,tk5,tk0,Qt,Qn,Qu,JW,qac,List.length_append,List.map_append,List.map_cons,List.map_nil,e1,gt,xI,kU,kW,jb,kq,yM,List.length_map]
  ·refine ⟨fun y hy=> ?_, ?_,da.o⟩
   ·rcases List.mem_append.1 hy with hy|hy
    ·rcases List.mem_append.1 hy with hy|hy
     ·exact da.c y (List.mem_of_mem_take hy)
     ·exact da.c y (List.mem_of_mem_drop hy)
    ·simp only [List.mem_singleton]at hy;subst hy;exact da.c y (List.mem_of_getElem? hc)
   ·simp only [qf7,List.length_append,List.length_cons,List.length_nil,n1,n2];omega
theorem qqt(bs:List UInt8) (hl:bs.length≤2^40): ∃ (a b:Db) (v:V),cr qg qhh [.i false (bs.map zm)]=some (.t [iDb false a,v])∧(v=oG b∨v=iDb false b)∧DD 150 a∧DD 150 b:=by
 obtain ⟨a,b,v,h,hv,da,db⟩:=qwT bs hl
 refine ⟨a,b,v, ?_,hv,da,db⟩
 have tk0: ∀ l:List Cl,(l.map (iCl false)).take l.length=l.map (iCl false):=fun l=>List.take_of_length_le (by simp)
 rw [qo qyV rfl]
 rcases hv with rfl|rfl
 ·unfold iDb oG at*
  simp only [go_sem,qa,qb,qc,qd,qe,qf,reduceCtorEq,Y9,h,tk0,xI,kU,kW,jb,kq,yM,List.length_map]
 ·unfold iDb at*
  simp only [go_sem,qa,qb,qc,qd,qe,qf,reduceCtorEq,Y9,h,tk0,xI,kU,kW,jb,kq,yM,List.length_map]
theorem qrT {a b:Db} {v:V} (h:v=oG b∨v=iDb false b):zb false (.t [iDb false a,v])= .t [iDb false a,iDb false b]:=by
 rcases h with rfl|rfl
 ·unfold iDb oG
  simp only [zb,qT,kq]
 ·unfold iDb
  simp only [zb,qT]
theorem qxv {b:Db} {v:V} (h:v=oG b∨v=iDb false b):zd v=true:=by
 rcases h with rfl|rfl
 ·unfold oG
  simp only [zd,qH,yM,Bool.and_true,Bool.not_false,Bool.true_and]
  exact x7 (fun s=>rfl) _
 ·exact qi3 b
end Go.Vm
namespace Go.Vm
theorem qw4(bs:List UInt8):cr qg qg4 [.i false (bs.map zm)]=some (B (decide ((1048576:Int) < bs.length))):=by
 rw [qo qyE rfl]
 simp only [go_sem,qa,qb,qc,qd,qe,qf,reduceCtorEq,KG,List.length_map]
section
variable {P:Program}
def cU(c:UInt8) (xs:List V):Prop:=xs=[zm c]
def RU(c:UInt8) (v:V):Prop:=v=zm c
theorem qAj {t:TypeId} (hu:P.underlying t=some (.int .u8)):RdC P t cU (fun _=>True):=fun n xs h hb=>by
 cases n with
 |zero=>simp [Shp]at h
 |succ n=>
  simp only [Shp,hu]at h
  obtain ⟨m,rfl,hw⟩:=h
  simp only [Lit.wf,IntKind.min,IntKind.max,IntKind.signed,IntKind.bits,Bool.and_eq_true,decide_eq_true_eq]at hw
  simp at hw
  refine ⟨by simp [zp,ko],UInt8.ofNat m.toNat, ?_,trivial⟩
  unfold cU zm
  have:((UInt8.ofNat m.toNat).toNat:Int)=m:=by
   rw [UInt8.toNat_ofNat']
   omega
  rw [this]
theorem qCH {te:TypeId} (hu:P.underlying te=some (.int .u8)): ∀ (x:UInt8) (zs:List V),cU x zs→RU x (xD P te zs)∧(yQ P te=false→ ∃ z,zs=[z]):=fun x zs h=>by
 unfold cU at h;subst h
 rw [qCI hu]
 exact ⟨rfl,fun _=>⟨_,rfl⟩⟩
theorem qqX {l:List UInt8} {vs:List V} (h:RL RU l vs):vs=l.map zm:=qkW (fun _ _ h=>h) h
end
end Go.Vm
namespace Go.Vm
theorem qks {m:Nat} {t:Tm} (h:Dr m t) (hm:m≤10000):wTm t:=⟨h.1,by have:=h.2;unfold Lm;omega⟩
theorem qqo {c:Cl} (h:DC c):wCl c:=⟨qks h.h (by decide),qks h.b (by decide),by have:=h.f;unfold wS Lm;omega⟩
theorem qsp(a:Db) (ha:a.clauses.length≤150) (haw: ∀ x ∈ a.clauses,wCl x) (b c:Db) (g:List Cl) (hg: ∀ x ∈ g,x ∈ a.clauses) (hgl:g.length≤150) (ok:Bool) (v6 v7 v8:List V) (m:Nat): ∀ i:Nat,i+m=g.length→
 lw qg qbM ⟨[(3,.p (100000,0) 0 0),(4,.p (100000,1) 0 0),(5,.i false (g.map (iCl false))),(6,.i false v6),(7,.i false v7),(8,.i false v8),(9,.p (100000,2) 0 0),(10,B ok),(11,I i)],
  [((100000,0),2,[.a [.i false (a.clauses.map (iCl false)),.i false (a.opn.map S)]]),((100000,1),2,[.a [.i false (b.clauses.map (iCl false)),.i false (b.opn.map S)]]),((100000,2),2,[.a [.s (100000,3) 0 c.clauses.length,.s (100000,4) 0 c.opn.length]]),((100000,3),9,c.clauses.map oCl),((100000,4),1,c.opn.map S)]⟩=
 some (.exit 0,⟨[(3,.p (100000,0) 0 0),(4,.p (100000,1) 0 0),(5,.i false (g.map (iCl false))),(6,.i false v6),(7,.i false v7),(8,.i false v8),(9,.p (100000,2) 0 0),(10,B ok)],
  [((100000,0),2,[.a [.i false (a.clauses.map (iCl false)),.i false (a.opn.map S)]]),((100000,1),2,[.a [.i false (b.clauses.map (iCl false)),.i false (b.opn.map S)]]),((100000,2),2,[.a [.s (100000,3) 0 c.clauses.length,.s (100000,4) 0 c.opn.length]]),((100000,3),9,c.clauses.map oCl),((100000,4),1,c.opn.map S)]⟩):=by
 induction m with
 |zero=>
  intro i hi
  have h: ¬ (i:Int) < (g.length:Int):=by omega
  rw [ql]
  simp only [go_sem,qa,qb,qc,qd,qe,qf,reduceCtorEq,qfj,h,List.length_map]
 |succ m ih=>
  intro i hi
  have h:(i:Int) < (g.length:Int):=by omega
  obtain ⟨x,hx⟩:=qV (l:=g) (i:=i) (by omega)
  have hm:=hg x (List.mem_of_getElem? hx)
  have gx:=zu (f:=iCl false) hx
  have a1:=fun T=>qZ (τ:=false) (T:=T) (e:=9) gx (jk (yY false x))
  have e1:w64 ((i:Int)+1)=((i+1:Nat):Int):=by rw [qm]<;>omega
  obtain ⟨r,cr1,cr2⟩:=qql a (by omega) haw (iDb false a) (xF false a) x (haw x hm) (iCl false x) (yY false x)
  have r0: ¬ r < 0:=by
   have:=cr2 (List.any_eq_true.2 ⟨x,hm,(qh0 x x).2 rfl⟩)
   omega
  unfold iDb at cr1
  rw [← ih (i+1) (by omega),ql]
  simp only [go_sem,qa,qb,qc,qd,qe,qf,reduceCtorEq,qfj,h,a1,gx,e1,cr1,r0,List.length_map]
theorem qkp {n:Nat} {x:Db} (h:DD n x): ∀ c ∈ x.clauses,wCl c:=fun c hc=>qqo (h.c c hc)
theorem qri(a b:Db) (ha:xr a=true) (hb:xr b=true) (o:List Cl) (ho: ∀ x ∈ o,x ∈ a.clauses) (hl:(o++qJ b.clauses a.clauses).length=b.clauses.length):xr ⟨o++qJ b.clauses a.clauses,a.opn⟩=true:=by
 unfold xr at*
 simp only [Bool.and_eq_true,decide_eq_true_eq,List.all_eq_true]at*
 refine ⟨fun x hx=> ?_,by omega,ha.2.2⟩
 rcases List.mem_append.1 hx with h|h
 ·exact ha.1 x (ho x h)
 ·exact hb.1 x (qab _ _ _ x h)
theorem qw1(bs:List UInt8) (hw:bs.length≤Lm): ∃ outs,cw qg qg3 [.i false (bs.map zm)]=some (B true,outs):=by
 have hl:bs.length≤2^40:=by unfold Lm at hw;omega
 have bg:=qw4 bs
 obtain ⟨a,b,v,dd,hv,da,db⟩:=qqt bs hl
 have cv:=qrT (a:=a) hv
 have nv:=qxv hv
 have al:=da.l
 have bl:=db.l
 have aw:=qkp da
 have bw:=qkp db
 have d1:=qec a b (by omega) aw (by omega) bw (iDb false a) (iDb false b) (xF false a) (xF false b)
 have d2:=qec b a (by omega) bw (by omega) aw (iDb false b) (iDb false a) (xF false b) (xF false a)
 have gl:(qJ a.clauses b.clauses).length≤a.clauses.length:=XS _ _ []
 have cl:(qJ b.clauses a.clauses).length≤b.clauses.length:=XS _ _ []
 have gs: ∀ x ∈ qJ a.clauses b.clauses,x ∈ a.clauses:=qab _ _ []
 have cs: ∀ x ∈ qJ b.clauses a.clauses,x ∈ b.clauses:=qab _ _ []
 have gw: ∀ x ∈ qJ a.clauses b.clauses,wCl x:=fun x h=>aw x (gs x h)
 have cwl: ∀ x ∈ qJ b.clauses a.clauses,wCl x:=fun x h=>bw x (cs x h)
 obtain ⟨o,ho,hos,hct,hlen⟩:=qr7 a.clauses b.clauses
 have hol:o.length≤b.clauses.length:=by rw [← hlen,List.length_append];omega
 have ad:=qqj a (by omega) aw (by have:=da.o.1;omega) (iDb false a) (xF false a) false false (qJ a.clauses b.clauses) (qJ b.clauses a.clauses) _ _ (xR (yY false) _) (by omega) gw (xR (yY false) _) (by omega) cwl o ho (by omega) hos
 have ok1:=qgN a (by unfold Lm;omega) (fun c hc=>⟨(aw c hc).1.1,(aw c hc).2.1.1⟩) (iDb false a) (xF false a)
 have ok2:=qgN b (by unfold Lm;omega) (fun c hc=>⟨(bw c hc).1.1,(bw c hc).2.1.1⟩) (iDb false b) (xF false b)
 have sc1:=qpl (qJ a.clauses b.clauses) (by omega) gw _ _ (xR (yY false) _) (xR (yY false) _) (yM _) (yM _)
 have sc2:=qpl (qJ b.clauses a.clauses) (by omega) cwl _ _ (xR (yY false) _) (xR (yY false) _) (yM _) (yM _)
 have appl:=qri a b
 obtain ⟨s,dt,ds⟩:=qqq a b (by omega) aw (by omega) bw (iDb false a) (iDb false b) (xF false a) (xF false b)
 have ss:=qhO a b (by omega) aw (by omega) bw (iDb false a) (iDb false b) (xF false a) (xF false b)
 have saa:=qhO a a (by omega) aw (by omega) aw (iDb false a) (iDb false a) (xF false a) (xF false a)
 have ea:ZZ a a=true:=by
  unfold ZZ
  rw [qiW (a:=a.clauses) (b:=a.clauses) fun _=>rfl];rfl
 rw [ea]at saa
 have es:(decide (s=[])==ZZ a b)=true:=by
  have:decide (s=[])=ZZ a b:=by
   unfold ZZ
   rw [decide_eq_decide,ds]
   constructor
   ·rintro ⟨h1,h2⟩;rw [h1,h2];rfl
   ·intro h;exact ⟨List.length_eq_zero_iff.1 (by omega),List.length_eq_zero_iff.1 (by omega)⟩
  rw [this];simp
 have sz: ∀ z:Db,z.clauses=o++qJ b.clauses a.clauses→cr qg Jm [iDb true z,iDb false b]=some (B true):=by
  intro z hz
  have zw: ∀ c ∈ z.clauses,wCl c:=by
   rw [hz]
   intro c hc
   rcases List.mem_append.1 hc with h|h
   ·exact aw c (hos c h)
   ·exact cwl c h
  have:=qhO z b (by rw [hz,hlen];omega) zw (by omega) bw (iDb true z) (iDb false b) (xF true z) (xF false b)
  have e:ZZ z b=true:=by
   unfold ZZ
   rw [hz,qiW hct,qiW fun k=>(hct k).symm];rfl
  rwa [e]at this
 have lp:=fun z:Db=>qsp a al aw b z (qJ a.clauses b.clauses) gs (by omega) true ((qJ b.clauses a.clauses).map (iCl false)) ((qJ b.clauses a.clauses).map (iCl false)) ((qJ a.clauses b.clauses).map (iCl false)) (qJ a.clauses b.clauses).length 0 (by omega)
 have tkx: ∀ l:List Cl,(l.map oCl).take l.length=l.map oCl:=fun l=>List.take_of_length_le (by simp)
 have tks: ∀ l:List Str,(l.map S).take l.length=l.map S:=fun l=>List.take_of_length_le (by simp)
 simp only [Int.natCast_zero]at lp
 generalize qJ a.clauses b.clauses=gone at*
 generalize qJ b.clauses a.clauses=come at*
 apply qr0
 rw [qo qyD rfl]
 unfold iDb at d1 d2 ad ok1 ok2 dt ss saa sz cv
 have cv':zb false v= .a [.i false (b.clauses.map (iCl false)),.i false (b.opn.map S)]:=by
  simp only [zb,qT,V.t.injEq,List.cons.injEq]at cv
  exact cv.2.1
 unfold iDb at dd
 cases hb:decide ((1048576:Int) < bs.length)with
 |true=>
  rw [hb]at bg
  simp only [go_sem,qa,qb,qc,qd,qe,qf,reduceCtorEq,Zq,bg]
 |false=>
  rw [hb]at bg
  cases h1:xr a with
  |false=>
   rw [h1]at ok1
   have tkz:(o.map oCl++come.map oCl).take (o.length+come.length)=o.map oCl++come.map oCl:=List.take_of_length_le (by simp)
   cases hz:xr ⟨o++come,a.opn⟩
   all_goals rw [hz]at ad
   all_goals first|rw [if_pos rfl]at ad|rw [if_neg (by decide)]at ad
   all_goals unfold oDb at ad
   all_goals try simp only [List.map_append,List.length_append]at ad
   all_goals simp only [go_sem,qa,qb,qc,qd,qe,qf,reduceCtorEq,Zq,qd5,qd6,qd7,bg,dd,nv,cv',d1,d2,ad,ok1,sc1,sc2,tkx,tks,tkz,xI,kU,kW,jb,kq,yM,Qt,Qn,Qu,JW,qac,List.length_append,List.length_map,List.map_append]
  |true=>
   rw [h1]at ok1
   cases h2:xr b with
   |false=>
    rw [h2]at ok2
    have tkz:(o.map oCl++come.map oCl).take (o.length+come.length)=o.map oCl++come.map oCl:=List.take_of_length_le (by simp)
    cases hz:xr ⟨o++come,a.opn⟩
    all_goals rw [hz]at ad
    all_goals first|rw [if_pos rfl]at ad|rw [if_neg (by decide)]at ad
    all_goals unfold oDb at ad
    all_goals try simp only [List.map_append,List.length_append]at ad
    all_goals simp only [go_sem,qa,qb,qc,qd,qe,qf,reduceCtorEq,Zq,qd5,qd6,qd7,bg,dd,nv,cv',d1,d2,ad,ok1,ok2,sc1,sc2,tkx,tks,tkz,xI,kU,kW,jb,kq,yM,Qt,Qn,Qu,JW,qac,List.length_append,List.length_map,List.map_append]
   |true=>
    rw [h2]at ok2
    rw [if_pos (appl h1 h2 o hos hlen)]at ad
    unfold oDb at ad
    have lp':=lp ⟨o++come,a.opn⟩
    have sz':=sz ⟨o++come,a.opn⟩ rfl
    have hlen':decide (((o.length+come.length:Nat):Int)=(b.clauses.length:Int))=true:=by
     rw [List.length_append]at hlen
     exact decide_eq_true (by omega)
    simp only [List.map_append,List.length_append]at lp' ad sz'
    have tkz:(o.map oCl++come.map oCl).take (o.length+come.length)=o.map oCl++come.map oCl:=List.take_of_length_le (by simp)
    simp only [go_sem,qa,qb,qc,qd,qe,qf,reduceCtorEq,Zq,qd5,qd6,qd7,bg,dd,nv,cv',d1,d2,ad,ok1,ok2,sc1,sc2,dt,ss,saa,sz',lp',es,hlen',tkx,tks,tkz,xI,kU,kW,jb,kq,yM,Qt,Qn,Qu,JW,qac,List.length_append,List.length_map,List.map_append]
    rfl
theorem qw0(x:List UInt8) (hw:wL (fun _=>True) x) (τ:Bool) (vs:List V) (hv:RL RU x vs): ∃ outs,cw qg qg3 [.i false vs]=some (B true,outs):=by
 rw [qqX hv]
 exact qw1 x hw.1
end Go.Vm
set_option maxRecDepth 1000000
namespace Go.Vm
open Go.Proofs Go.Shelf Go.RowKit Go.Lib Go.Sort
def Zm:Value:= .agg #[.int .i64 0,.string ⟨#[]⟩,.int .i64 0,.slice none 0 0,.int .i64 0,.string ⟨#[]⟩,.int .i64 0,.slice none 0 0,.string ⟨#[]⟩]
set_option maxHeartbeats 8000000 in
theorem qr3(blk off cap n i j:Nat) (w:World) (cells:Array Value) (T:TypeId) (fz:Nat × Nat) (hw:w.heap[blk]? =some (.cells cells T fz)) (hfz:Q9 fz cells.size) (hs:off+cap*9≤cells.size) (hn:n≤cap) (hij:i < j) (hj:j≤n)
 (ho: ∀ v ∈ seg cells off (n*9),v.oneCell'=true):
 Calls Tryz.prog 80 #[.slice (some ⟨blk,off,none⟩) n cap,.int .i64 i,.int .i64 j] w fun e w'=>e= .returned (.slice (some ⟨blk,off,none⟩) (n - (j - i)) cap)∧ ∃ W cells',Adds w W∧W.heap=w.heap∧Wrote W blk cells' w'∧
  seg cells' off ((n - (j - i))*9)=(seg cells off (n*9)).take (i*9)++(seg cells off (n*9)).drop (j*9):=by
 obtain ⟨i0,hi0,hz1⟩: ∃ i0,Tryz.prog.info? 52=some i0∧i0.size=9:=⟨_,rfl,rfl⟩
 have h9:i*9≤j*9:=by omega
 have h10:j*9≤n*9:=by omega
 have h11:n*9≤cap*9:=by omega
 have hfrz: ∀ o,o < cells.size→w.frozen? ⟨blk,o,none⟩=false:=fun o ho=>qiq hw hfz ho
 obtain ⟨news,hnews⟩: ∃ news,news=(seg cells off (n*9)).drop (j*9):=⟨_,rfl⟩
 have hlen:news.length=(n - j)*9:=by rw [hnews,List.length_drop,qas (by omega)];omega
 obtain ⟨A,hA,hsrc⟩: ∃ A:Addr,(if cap=j then some (⟨blk,off,none⟩:Addr)else some ⟨blk,off+j*9,none⟩)=some A∧Hid (∀ t u,news[t]? =some u→w.drew.cell? (A.add t)=some u):=by
  by_cases h:cap=j
  ·refine ⟨⟨blk,off,none⟩,by simp [h],fun t u hu=> ?_⟩
   have h0:news.length=0:=by rw [hlen];omega
   rw [List.length_eq_zero_iff.1 h0]at hu
   simp at hu
  ·refine ⟨⟨blk,off+j*9,none⟩,by simp [h],fun t u hu=> ?_⟩
   rw [hnews,List.getElem?_drop]at hu
   have:=Z0 hu
   rw [ji]
   show w.cell? _=_
   rw [Q0 hw, ← this];congr 1;omega
 have s1:Hid (news.length=(n - j)*9):=hlen
 have s2:Hid (∀ u ∈ news,u.oneCell'=true):=fun u hu=>ho u (List.mem_of_mem_drop (by rw [hnews]at hu;exact hu))
 have s3:Hid (∀ t,t < news.length→(w.drew.cell? ⟨blk,off+i*9+t,none⟩).isSome=true∧w.drew.frozen? ⟨blk,off+i*9+t,none⟩=false):=by
  intro t ht
  rw [hlen]at ht
  refine ⟨?_,hfrz _ (by omega)⟩
  show (w.cell? _).isSome=true
  rw [Q0 hw,Array.getElem?_eq_getElem (by omega)];rfl
 obtain ⟨W1,hW1⟩: ∃ W1,W1=w.drew.setCells blk (off+i*9) news:=⟨_,rfl⟩
 obtain ⟨cells1,hWr1,hc1⟩:=qjO (b:=blk) (T:=T) (fz:=fz) news (off+i*9) w.drew cells hw (by rw [hlen];omega)
 rw [← hW1]at hWr1
 obtain ⟨hw1,hsz1⟩:=hWr1.self _ _ _ hw
 have hcl: ∀ ty,(Builtin.clear_ #[28] ty #[.slice (some ⟨blk,off+(i+(n - j))*9,none⟩) (n - (i+(n - j))) (cap - (i+(n - j)))]).run Tryz.prog W1= .ok (.tuple #[]) (W1.setCells blk (off+(i+(n - j))*9) (Builtin.zeroCells Zm.cells (n - (i+(n - j)))).toList):=
  fun ty=>qAF W1 28 52 ty Zm Tryz.underlying28 Tryz.zeroValue52 (by intro v hv;simp [Zm,Value.cells]at hv;repeat (first|(rcases hv with rfl|hv; · rfl)|(subst hv;rfl))) blk (off+(i+(n - j))*9) _ _ (by omega)
   (fun t ht=>by rw [Q0 hw1,Array.getElem?_eq_getElem (by have:Zm.cells.size=9:=rfl;rw [this]at ht;omega)];rfl)
   (fun t ht=>qiq hw1 (by rw [hsz1];exact hfz) (by have:Zm.cells.size=9:=rfl;rw [this]at ht;omega))
 have hzl:(Builtin.zeroCells Zm.cells (n - (i+(n - j)))).toList.length=(j - i)*9:=by rw [qkk];show _*9=_;omega
 obtain ⟨cells2,hWr2,hc2⟩:=qjO (b:=blk) (T:=T) (fz:=fz) (Builtin.zeroCells Zm.cells (n - (i+(n - j)))).toList (off+(i+(n - j))*9) W1 cells1 hw1 (by rw [hzl];omega)
 have fin:Hid (∃ W cells',Adds w W∧W.heap=w.heap∧Wrote W blk cells' (W1.setCells blk (off+(i+(n - j))*9) (Builtin.zeroCells Zm.cells (n - (i+(n - j)))).toList)∧
  seg cells' off ((n - (j - i))*9)=(seg cells off (n*9)).take (i*9)++(seg cells off (n*9)).drop (j*9)):=by
  refine ⟨w.drew,cells2,⟨rfl,rfl,rfl,Nat.le_refl _,fun _ _=>rfl⟩,rfl,hWr1.trans hWr2, ?_⟩
  have:=qr4 (cells:=cells.toList) (base:=off) (i:=i) (j:=j) (n:=n) (e:=9) (zs:=(Builtin.zeroCells Zm.cells (n - (i+(n - j)))).toList) (by omega) hj (by rw [Array.length_toList];omega) hzl
  unfold seg at*
  rw [hc2,hc1,hnews]
  exact this
 generalize (Builtin.zeroCells Zm.cells (n - (i+(n - j)))).toList=zs at hcl fin
 have hW:Hid (W1=w.drew.setCells blk (off+i*9) news):=hW1
 have hic:i≤cap:=by omega
 have hjc:j≤cap:=by omega
 have hne: ¬ i=j:=by omega
 clear hW1 hWr1 hWr2 hw1 hc1 hc2 hnews hlen hw hfz ho hfrz hzl hsz1 h9 h10 h11
 have mixed:Tryz.prog.follows .mixedOrders=true:=by kernel_rfl
 go_enter Tryz.func80,Tryz.ntmps80
 go_wp2_with fail
 go_region_law_o (refine step_append_room rfl (.tmp 22) (.tmp 25) 28 rfl 52 i0 9 Tryz.underlying28 hi0 hz1 blk off i cap (by simp [Act.eval,Act.put]) A (n - j) (cap - j) news (by simp [Act.eval,Act.put]) s1.out hsrc.out s2.out (by omega) s3.out ?_;rw [← hW.out])
 go_wp2
 go_ret
 exact ⟨by rw [show n - (j - i)=i+(n - j)by omega];rfl,fin.out⟩
theorem qxC {v:Value} (h:v.oneCell=true):v.oneCell'=true:=by cases v<;>simp_all [Value.oneCell,Value.oneCell']
theorem qr2 [Lay]: ∀ args r outs,JY 9 args=some (r,outs)→Xo Tryz.prog 80 args r outs:=by
 intro args r outs h
 unfold JY at h
 split at h
 case h_2=>cases h
 rename_i e' xs i j
 split at h
 case isFalse=>cases h
 rename_i hc
 obtain ⟨rfl,hi,hij,hj⟩:=hc
 simp only [Option.some.injEq,Prod.mk.injEq]at h
 obtain ⟨rfl,rfl⟩:=h
 obtain ⟨i,rfl⟩: ∃ n:Nat,i=n:=⟨i.toNat,by omega⟩
 obtain ⟨j,rfl⟩: ∃ n:Nat,j=n:=⟨j.toNat,by omega⟩
 simp only [Int.toNat_natCast]
 intro E vs c hxs hg
 simp only [qk]at hxs
 obtain ⟨y0,ys,c1,d1,rfl,h0,⟨y1,ys1,c2,d2,rfl,h1,⟨y2,ys2,c3,d3,rfl,h2,⟨rfl,rfl⟩,rfl⟩,rfl⟩,rfl⟩:=hxs
 simp only [Rel]at h1 h2
 obtain ⟨rfl,-,rfl⟩:=h1
 obtain ⟨rfl,-,rfl⟩:=h2
 simp only [XE]at hg ⊢
 simp only [Rel]at h0
 rcases h0 with ⟨rfl,-,-⟩|⟨b,base,cap,cells,T,fz,c4,rfl,hpos,hle,hsz,hw,hfz,hr,rfl⟩
 ·simp only [List.length_nil]at hj;omega
 have hrun:(callFunc 80 [Value.slice (some ⟨b,base,none⟩) xs.length cap,.int .i64 i,.int .i64 j].toArray).run Tryz.prog E.w= .ok (.enter 80 #[.slice (some ⟨b,base,none⟩) xs.length cap,.int .i64 i,.int .i64 j]) E.w:=by
  simp [callFunc,Tryz.func80,Tryz.f80]
 rw [hrun]
 have hnb:c4 b=0:=by have:=hg.one b;simp only [qh,qA,if_true]at this;omega
 have hcb:(qh (qA b) c4) b ≠ 0:=by simp only [qh,qA,if_true];omega
 have hIb: ∀ τ b',E.I τ b'→b' ≠ b:=by rintro τ b' hb rfl;exact hcb (hg.imm τ _ hb).1
 refine ⟨rfl,(qr3 b base cap xs.length i j E.w cells T fz hw hfz hsz hle (by omega) (by omega) (fun v hv=>qxC (qgj hr v hv))).mono ?_⟩
 rintro e w' ⟨rfl,W,cells',hA,hWh,hWr,hseg⟩
 obtain ⟨hw',hsz'⟩:=hWr.self cells T fz (by rw [hWh];exact hw)
 have hoth: ∀ b',b' ≠ b→w'.heap[b']? =E.w.heap[b']? :=fun b' hb=>by rw [hWr.other b' hb,hWh]
 have hsize:w'.heap.size=E.w.heap.size:=by rw [hWr.size,hWh]
 obtain ⟨ca,cr,ra,rr,rfl⟩:=ja i hr
 obtain ⟨cm,cz,-,rz,rfl⟩:=ja (j - i) rr
 simp only [List.drop_drop]at rz
 rw [show i+(j - i)=j by omega, ← Nat.add_mul,show i+(j - i)=j by omega]at rz
 have hcc:cle (qh (qA b) (qh ca cz)) (qh (qA b) (qh ca (qh cm cz))):=fun u=>by simp only [qh];omega
 have hmono:Mono E.cl ({E with w:=w'}:Env).cl (qh ca cz):=⟨fun τ b' hb=>⟨hb,hoth b' (hIb τ b' hb)⟩,fun b' hb=>hoth b' (by rintro rfl;apply hb;simp only [qh]at hnb ⊢;omega),fun k l hk=>by simp [Env.cl]at hk⟩
 have hlen:(xs.take i++xs.drop j).length=xs.length - (j - i):=by simp only [List.length_append,List.length_take,List.length_drop];omega
 have hR:=yN (YL ra rz) hmono
 rw [← hseg, ← hlen]at hR
 refine ⟨_,rfl,{E with w:=w'},qh (qA b) (qh ca cz),c0,rfl, ?_, ?_, ?_, ?_⟩
 ·simp only [Rel]
  refine .inr ⟨b,base,cap,cells',T,fz,qh ca cz,by rw [hlen],hpos,by rw [hlen];omega,by rw [hsz'];exact hsz,hw',by rw [hsz'];exact hfz,hR,rfl⟩
 ·simp only [qk,Rel]
  exact ⟨_,_,c0,c0,rfl,rfl,⟨_,_,c0,c0,rfl,⟨rfl,rfl,rfl⟩,⟨_,_,c0,c0,rfl,⟨rfl,rfl,rfl⟩,⟨rfl,rfl⟩,rfl⟩,rfl⟩,rfl⟩
 ·rw [XE]
  have h1:=hg.le hcc
  exact ⟨h1.one,fun τ b' hb=>⟨(h1.imm τ b' hb).1,by rw [hsize];exact (h1.imm τ b' hb).2⟩,h1.sub,fun b' hb=>by rw [hsize];exact h1.bnd b' hb,h1.lay.next (fun b' hb=>hb) fun b' hb=>hoth b' (hIb _ b' hb)⟩
 ·rw [XE]
  refine ⟨fun b' n hn=> ?_,hWr.os.trans hA.os,hWr.tape.trans hA.tape,hWr.output.trans hA.output,by rw [hsize];exact Nat.le_refl _,fun b' _ hb=>hoth b' (by rintro rfl;exact hcb hb),fun _ _ h=>h,fun b' hb=> .inl fun h0=>hb (by have:=hcc b';omega),fun τ b' hb=> .inl hb⟩
  by_cases hbb:b'=b
  ·subst hbb
   have hw2:E.w.heap[b']? =some (.cells cells T fz):=hw
   rw [yu,hw2]at hn
   show yu w' b'=some n
   rw [yu,hw']
   simp only at hn ⊢
   rw [hsz'];exact hn
  ·rw [qcy (hoth b' hbb)];exact hn
end Go.Vm
namespace Go.Proofs
open Go.Shelf
def qhR:Go.Shelf.Ren:=⟨fun|171=>172|243=>221|246=>250|283=>262|284=>263|285=>264|286=>265|129=>279|317=>278|318=>280|319=>281|320=>282|337=>285|338=>286|n=>n,fun|3=>3|9=>9|2=>2|4=>4|171=>223|0=>0|53=>224|37=>38|5=>5|173=>227|212=>235|51=>236|20=>20|213=>237|46=>213|232=>242|233=>243|n=>n,fun|17=>0|18=>2|19=>3|n=>n⟩
theorem qhQ:Go.Proofs.LaysM.n171 Tryz.prog qhR where
 mixed:=by kernel_rfl
 f129:=Tryz.func279.trans (congrArg some (by kernel_rfl))
 f171:=Tryz.func172.trans (congrArg some (by kernel_rfl))
 f243:=Tryz.func221.trans (congrArg some (by kernel_rfl))
 f246:=Tryz.func250.trans (congrArg some (by kernel_rfl))
 f283:=Tryz.func262.trans (congrArg some (by kernel_rfl))
 f284:=Tryz.func263.trans (congrArg some (by kernel_rfl))
 f285:=Tryz.func264.trans (congrArg some (by kernel_rfl))
 f286:=Tryz.func265.trans (congrArg some (by kernel_rfl))
 f317:=Tryz.func278.trans (congrArg some (by kernel_rfl))
 f318:=Tryz.func280.trans (congrArg some (by kernel_rfl))
 f319:=Tryz.func281.trans (congrArg some (by kernel_rfl))
 f320:=Tryz.func282.trans (congrArg some (by kernel_rfl))
 f337:=Tryz.func285.trans (congrArg some (by kernel_rfl))
 f338:=Tryz.func286.trans (congrArg some (by kernel_rfl))
 t0:=Tryz.underlying0
 a0:=Tryz.isAgg0
 z0:=Tryz.sizeOf0
 v0:=Tryz.zeroValue0
 t2:=Tryz.underlying2
 a2:=Tryz.isAgg2
 z2:=Tryz.sizeOf2
 v2:=Tryz.zeroValue2
 t3:=Tryz.underlying3
 a3:=Tryz.isAgg3
 z3:=Tryz.sizeOf3
 v3:=Tryz.zeroValue3
 t4:=Tryz.underlying4
 a4:=Tryz.isAgg4
 z4:=Tryz.sizeOf4
 v4:=Tryz.zeroValue4
 t5:=Tryz.underlying5
 a5:=Tryz.isAgg5
 z5:=Tryz.sizeOf5
 v5:=Tryz.zeroValue5
 t9:=Tryz.underlying9
 a9:=Tryz.isAgg9
 z9:=Tryz.sizeOf9
 v9:=Tryz.zeroValue9
 t20:=Tryz.underlying20
 a20:=Tryz.isAgg20
 z20:=Tryz.sizeOf20
 v20:=Tryz.zeroValue20
 t37:=Tryz.underlying38
 a37:=Tryz.isAgg38
 z37:=Tryz.sizeOf38
 v37:=Tryz.zeroValue38
 t46:=Tryz.underlying213
 a46:=Tryz.isAgg213
 z46:=Tryz.sizeOf213
 v46:=Tryz.zeroValue213
 t51:=Tryz.underlying236
 a51:=Tryz.isAgg236
 z51:=Tryz.sizeOf236
 v51:=Tryz.zeroValue236
 t53:=Tryz.underlying224
 a53:=Tryz.isAgg224
 z53:=Tryz.sizeOf224
 v53:=Tryz.zeroValue224
 t171:=Tryz.underlying223
 a171:=Tryz.isAgg223
 z171:=Tryz.sizeOf223
 v171:=Tryz.zeroValue223
 t173:=Tryz.underlying227
 a173:=Tryz.isAgg227
 z173:=Tryz.sizeOf227
 v173:=Tryz.zeroValue227
 t212:=Tryz.underlying235
 a212:=Tryz.isAgg235
 z212:=Tryz.sizeOf235
 v212:=Tryz.zeroValue235
 t213:=Tryz.underlying237
 a213:=Tryz.isAgg237
 z213:=Tryz.sizeOf237
 t232:=Tryz.underlying242
 a232:=Tryz.isAgg242
 z232:=Tryz.sizeOf242
 v232:=Tryz.zeroValue242
 t233:=Tryz.underlying243
 a233:=Tryz.isAgg243
 z233:=Tryz.sizeOf243
 v233:=Tryz.zeroValue243
 g17:=by kernel_rfl
 g18:=by kernel_rfl
 g19:=by kernel_rfl
 i0:=by kernel_rfl
 i2:=by kernel_rfl
 i3:=by kernel_rfl
 i4:=by kernel_rfl
 i5:=by kernel_rfl
 i9:=by kernel_rfl
 i20:=by kernel_rfl
 i37:=by kernel_rfl
 i46:=by kernel_rfl
 i51:=by kernel_rfl
 i53:=by kernel_rfl
 i171:=by kernel_rfl
 i173:=by kernel_rfl
 i212:=by kernel_rfl
 i232:=by kernel_rfl
 i233:=by kernel_rfl
 m17:=by kernel_rfl
 m18:=by kernel_rfl
 m19:=by kernel_rfl
end Go.Proofs
namespace Go.Vm
open Go.Proofs
instance layD:Lay where
 B b:=b=qhR.g 17
 L w:=Lib.TabIs Tryz.prog w "internal/strconv.uint64pow10" .u64 Lib.pow10Tab
 st w w' h hL:=by
  unfold Lib.TabIs World.var? at*
  rw [qhQ.m17]at*
  simp only [Option.bind_some]at*
  rw [h _ rfl];exact hL
theorem qs2: ∀ args r outs,XN args=some (r,outs)→Xo Tryz.prog (qhR.f 171) args r outs:=by
 intro args r outs h
 unfold XN at h
 split at h
 case h_2=>cases h
 rename_i n
 split at h
 case isFalse=>cases h
 rename_i hb
 simp only [Option.some.injEq,Prod.mk.injEq]at h
 obtain ⟨rfl,rfl⟩:=h
 have hz: ∀ (E:Env) vs c,qk E.cl [I n] vs c→c=c0∧vs=[.int .i64 n]:=by
  intro E vs c hx
  simp only [qk,I,Rel]at hx
  obtain ⟨y,ys,c1,c2,rfl,⟨rfl,-,rfl⟩,⟨rfl,rfl⟩,rfl⟩:=hx
  exact ⟨rfl,rfl⟩
 refine qjk (x:= .string ⟨(Lib.itoa n).toArray⟩) qhQ.f171 rfl rfl rfl rfl ?_ (fun E vs c hx=>(hz E vs c hx).1)
 intro E vs hx hL
 obtain ⟨-,rfl⟩:=hz E vs c0 hx
 refine (Any.strconv_Itoa qhQ n hb.1 hb.2 E.w hL).mono ?_
 rintro e w' ⟨rfl,k,os,rfl⟩
 exact ⟨rfl,qre _ _ _⟩
end Go.Vm
namespace Go.Proofs
open Go.Shelf
def qk2:Go.Shelf.Ren:=⟨fun|137=>274|217=>284|266=>287|n=>n,fun|9=>9|5=>5|3=>3|n=>n,fun|n=>n⟩
theorem qk1:Go.Proofs.Lays.n137 Tryz.prog qk2 where
 mixed:=by kernel_rfl
 f137:=Tryz.func274.trans (congrArg some (by kernel_rfl))
 f217:=Tryz.func284.trans (congrArg some (by kernel_rfl))
 f266:=Tryz.func287.trans (congrArg some (by kernel_rfl))
 t3:=Tryz.underlying3
 a3:=Tryz.isAgg3
 z3:=Tryz.sizeOf3
 v3:=Tryz.zeroValue3
 t5:=Tryz.underlying5
 a5:=Tryz.isAgg5
 z5:=Tryz.sizeOf5
 v5:=Tryz.zeroValue5
 t9:=Tryz.underlying9
 a9:=Tryz.isAgg9
 z9:=Tryz.sizeOf9
 v9:=Tryz.zeroValue9
def qft:Go.Shelf.Ren:=⟨fun|156=>189|165=>231|166=>232|169=>233|240=>256|241=>257|276=>276|277=>277|n=>n,fun|31=>23|9=>9|3=>3|4=>4|0=>0|20=>20|72=>205|76=>209|70=>203|37=>38|75=>208|127=>219|164=>231|5=>5|80=>211|n=>n,fun|n=>n⟩
theorem qhS:Go.Proofs.Lays.n156 Tryz.prog qft where
 mixed:=by kernel_rfl
 f156:=Tryz.func189.trans (congrArg some (by kernel_rfl))
 f165:=Tryz.func231.trans (congrArg some (by kernel_rfl))
 f166:=Tryz.func232.trans (congrArg some (by kernel_rfl))
 f169:=Tryz.func233.trans (congrArg some (by kernel_rfl))
 f240:=Tryz.func256.trans (congrArg some (by kernel_rfl))
 f241:=Tryz.func257.trans (congrArg some (by kernel_rfl))
 f276:=Tryz.func276.trans (congrArg some (by kernel_rfl))
 f277:=Tryz.func277.trans (congrArg some (by kernel_rfl))
 t0:=Tryz.underlying0
 a0:=Tryz.isAgg0
 z0:=Tryz.sizeOf0
 v0:=Tryz.zeroValue0
 t3:=Tryz.underlying3
 a3:=Tryz.isAgg3
 z3:=Tryz.sizeOf3
 v3:=Tryz.zeroValue3
 t4:=Tryz.underlying4
 a4:=Tryz.isAgg4
 z4:=Tryz.sizeOf4
 v4:=Tryz.zeroValue4
 t9:=Tryz.underlying9
 a9:=Tryz.isAgg9
 z9:=Tryz.sizeOf9
 v9:=Tryz.zeroValue9
 t20:=Tryz.underlying20
 a20:=Tryz.isAgg20
 z20:=Tryz.sizeOf20
 v20:=Tryz.zeroValue20
 t31:=Tryz.underlying23
 a31:=Tryz.isAgg23
 z31:=Tryz.sizeOf23
 v31:=Tryz.zeroValue23
 t37:=Tryz.underlying38
 a37:=Tryz.isAgg38
 z37:=Tryz.sizeOf38
 v37:=Tryz.zeroValue38
 t70:=Tryz.underlying203
 a70:=Tryz.isAgg203
 z70:=Tryz.sizeOf203
 v70:=Tryz.zeroValue203
 t72:=Tryz.underlying205
 a72:=Tryz.isAgg205
 z72:=Tryz.sizeOf205
 v72:=Tryz.zeroValue205
 t75:=Tryz.underlying208
 a75:=Tryz.isAgg208
 z75:=Tryz.sizeOf208
 v75:=Tryz.zeroValue208
 t76:=Tryz.underlying209
 a76:=Tryz.isAgg209
 z76:=Tryz.sizeOf209
 v76:=Tryz.zeroValue209
 t127:=Tryz.underlying219
 a127:=Tryz.isAgg219
 z127:=Tryz.sizeOf219
 v127:=Tryz.zeroValue219
 t164:=Tryz.underlying231
 a164:=Tryz.isAgg231
 z164:=Tryz.sizeOf231
 v164:=Tryz.zeroValue231
theorem qk3:Go.Proofs.Builder.Extra Tryz.prog qft where
 t5:=Tryz.underlying5
 a5:=Tryz.isAgg5
 z5:=Tryz.sizeOf5
 v5:=Tryz.zeroValue5
 infoByte:=by kernel_rfl
 cellsByte:=by kernel_rfl
 sizeByte:=by kernel_rfl
 neB5:=by decide
 sizeBuilder:=by kernel_rfl
 liesBuilder:=by kernel_rfl
end Go.Proofs
namespace Go.Vm
open Go.Proofs
theorem qs3: ∀ args r outs,qcO args=some (r,outs)→Xo Tryz.prog (qk2.f 137) args r outs:=by
 intro args r outs h
 unfold qcO at h
 split at h
 case h_2=>cases h
 rename_i s n
 simp only [Option.some.injEq,Prod.mk.injEq]at h
 obtain ⟨rfl,rfl⟩:=h
 have hz: ∀ (E:Env) vs c,qk E.cl [.v (.string s),.v (.int .u8 n)] vs c→c=c0∧vs=[.string s,.int .u8 n]:=by
  intro E vs c hx
  simp only [qk,Rel]at hx
  obtain ⟨y,ys,c1,c2,rfl,⟨rfl,-,rfl⟩,⟨y',ys',c3,c4,rfl,⟨rfl,-,rfl⟩,⟨rfl,rfl⟩,rfl⟩,rfl⟩:=hx
  exact ⟨rfl,rfl⟩
 refine qjk (x:= .int .i64 (Lib.indexByte s.data.toList n.toNat.toUInt8)) qk1.f137 rfl rfl rfl rfl ?_ (fun E vs c hx=>(hz E vs c hx).1)
 intro E vs hx hL
 obtain ⟨-,rfl⟩:=hz E vs c0 hx
 refine (Any.strings_IndexByte qk1 s n E.w).mono ?_
 rintro e w' ⟨rfl,rfl⟩
 exact ⟨rfl,Adds.refl _⟩
theorem qs4: ∀ args r outs,XO args=some (r,outs)→Xo Tryz.prog (qft.f 156) args r outs:=by
 intro args r outs h
 unfold XO at h
 split at h
 case h_2=>cases h
 rename_i τ xs p
 split at h
 case h_2=>cases h
 rename_i ss hss
 split at h
 case isFalse=>cases h
 rename_i hb
 simp only [Option.some.injEq,Prod.mk.injEq]at h
 obtain ⟨rfl,rfl⟩:=h
 obtain rfl:=qpL hss
 rw [List.length_map]at hb
 refine qjk (x:= .string ⟨(Lib.join ss p.data.toList).toArray⟩) qhS.f156 rfl rfl rfl rfl ?_ ?_
 ·intro E vs hx hL
  simp only [qk,Rel]at hx
  obtain ⟨y,ys,c1,c2,rfl,⟨-,A,cap,rfl,hcap,hxs⟩,⟨y',ys',c3,c4,rfl,⟨rfl,-,-⟩,⟨rfl,-⟩,-⟩,-⟩:=hx
  rw [List.length_map]at hcap ⊢
  have hm:(ss.map fun s=>(⟨s.toArray⟩:ByteArray)).map (·.data.toList)=ss:=by
   rw [List.map_map]
   conv => rhs;rw [← List.map_id ss]
   exact List.map_congr_left fun s _=>by simp
  have key:Calls Tryz.prog (qft.f 156) #[.slice A ss.length cap,.string p] E.w fun e w'=>e= .returned (.string ⟨(Lib.join ss p.data.toList).toArray⟩)∧Go.RowKit.Below E.w.heap.size E.w w':=by
   rcases hxs with h0|⟨b,base,e,cells,T,fz,rfl,-,hcell,hr⟩
   ·obtain rfl:ss=[]:=by simpa using h0
    exact (Any.strings_Join_none qhS qk3 A cap p E.w).mono fun e w' ⟨he,hw⟩=>⟨he,hw ▸ Go.RowKit.Below.refl _ _⟩
   ·obtain ⟨he,hs⟩:=qoJ hr
    have:=Any.strings_Join qhS qk3 b base cap (ss.map fun s=>⟨s.toArray⟩) p E.w (by
     intro j x hj
     rw [List.getElem?_map,Option.map_eq_some_iff]at hj
     obtain ⟨s,hj,rfl⟩:=hj
     have he1:e=1:=by rcases he with rfl|he;(cases hj);exact he
     subst he1
     have h1:(seg cells base ((ss.map S).length*1))[j]? =some (.string ⟨s.toArray⟩):=by rw [hs,List.getElem?_map,hj];rfl
     have hlt:j < ss.length:=(List.getElem?_eq_some_iff.1 hj).1
     rw [seg,List.getElem?_take_of_lt (by rw [List.length_map];omega),List.getElem?_drop,Array.getElem?_toList]at h1
     have hc:E.cl.w.heap[b]? =E.w.heap[b]? :=rfl
     rw [hc]at hcell
     simp only [World.cell?,hcell]
     exact h1) (by have:=(Array.getElem?_eq_some_iff.1 hcell).1;exact this) (by rw [List.length_map];exact hb.1) (by rw [List.length_map];exact hcap) (by rw [hm];exact hb.2)
    rw [hm,List.length_map]at this
    exact this
  refine key.mono ?_
  rintro e w' ⟨rfl,hB⟩
  exact ⟨rfl,⟨hB.os,hB.tape,hB.output,hB.size,hB.block⟩⟩
 ·intro E vs c hx
  simp only [qk,Rel]at hx
  obtain ⟨y,ys,c1,c2,rfl,⟨rfl,-⟩,⟨y',ys',c3,c4,rfl,⟨-,-,rfl⟩,⟨-,rfl⟩,rfl⟩,rfl⟩:=hx
  rfl
end Go.Vm
