import Derived.Test.YtbbkmeicdhnihaaGreatDoorT05
open Nat renaming reduceAdd → qa, reduceSub → qb, reduceMul → qc, reduceEqDiff → qd, reduceLeDiff → qe, reduceBEq → qf
set_option autoImplicit false
set_option maxHeartbeats 8000000
set_option maxRecDepth 100000
set_option linter.unusedSimpArgs false
set_option linter.unusedVariables false
namespace Go.Vm
open Go.Lib (indexByte)
theorem qkc {s:Str} {i:Nat} {c:UInt8} (hc:s[i]? =some c):zD s i (i+1)=[c]:=by
 unfold zD
 rw [List.drop_take,zP hc,Nat.add_sub_cancel_left]
 rfl
theorem qkb {s:Str} {i n:Nat} (h:i+n≤s.length):(zD s i (i+n)).length=n:=by
 unfold zD;simp only [List.length_drop,List.length_take];omega
theorem kr {n:Nat} {c:UInt8} (h:isB n c=true):c=UInt8.ofNat n:=by
 unfold isB at h
 have h1:(c.toNat:Int)=n:=of_decide_eq_true h
 have h2:c.toNat=n:=by omega
 rw [← h2];simp
theorem qpM {c:UInt8} (h:zi c=true):(inB 97 122 c||yK c)=false∧inB 48 57 c=false∧isB 39 c=false∧(isB 33 c||isB 59 c)=false∧(isB 40 c||isB 41 c||isB 91 c||isB 93 c||isB 44 c||isB 124 c)=false:=by
 unfold zi at h
 have h1:c ∈ kE:=of_decide_eq_true h
 have h2:kE.all (fun c=> !(inB 97 122 c||yK c)&& !inB 48 57 c&& !isB 39 c&& !(isB 33 c||isB 59 c)&& !(isB 40 c||isB 41 c||isB 91 c||isB 93 c||isB 44 c||isB 124 c))=true:=by decide
 have h3:=List.all_eq_true.1 h2 c h1
 simp only [Bool.and_eq_true,Bool.not_eq_true']at h3
 exact ⟨h3.1.1.1.1,h3.1.1.1.2,h3.1.1.2,h3.1.2,h3.2⟩
theorem qsh {s:Str} {i:Nat} {c:UInt8} (h:Qq s i c=true):c=46∧zi c=true:=by
 unfold Qq at h
 simp only [Bool.and_eq_true]at h
 have:c=46:=kr (n:=46) h.1
 subst this
 exact ⟨rfl,by decide⟩
def qjT(s:Str) (i:Nat) (c:UInt8):Sg × Nat:=
 if Qq s i c=true then (⟨5,[46],0,i,false⟩,i+1)
 else if (inB 97 122 c||yK c)=true then
  if pre zM (s.drop i)≤20 then (⟨if yK c=true then 2 else 1,zD s i (i+pre zM (s.drop i)),0,i,false⟩,i+pre zM (s.drop i))else bad s i
 else if inB 48 57 c=true then
  if nf (s.drop i) 0≤999999999 then (⟨3,[],nf (s.drop i) 0,i,false⟩,i+pre (inB 48 57) (s.drop i))else bad s i
 else if zi c=true then
  if pre zi (s.drop i)≤20 then (⟨1,zD s i (i+pre zi (s.drop i)),0,i,false⟩,i+pre zi (s.drop i))else bad s i
 else if (isB 33 c||isB 59 c)=true then (⟨1,zD s i (i+1),0,i,false⟩,i+1)
 else if (isB 40 c||isB 41 c||isB 91 c||isB 93 c||isB 44 c||isB 124 c)=true then (⟨4,zD s i (i+1),0,i,false⟩,i+1)
 else if isB 39 c=true then
  match Zd (s.drop (i+1))with
  |some m=>(⟨1,zD s (i+1) (i+1+m),0,i,false⟩,i+1+m+1)
  |none=>bad s i
 else bad s i
theorem qBu {s:Str} {i:Nat} {c:UInt8} (hc:s[i]? =some c):sgn s i c=qjT s i c:=by
 unfold sgn qjT
 by_cases hE:Qq s i c=true
 ·obtain ⟨h46,hs⟩:=qsh hE
  obtain ⟨h1,h2,h3,h4,h5⟩:=qpM hs
  rw [h1,h2,h3,h4,h5,if_pos hE,if_pos hE,qkc hc,h46]
  rfl
 rw [if_neg hE,if_neg hE]
 by_cases hY:zi c=true
 ·obtain ⟨h1,h2,h3,h4,h5⟩:=qpM hY
  rw [h1,h2,h3,h4,h5,if_pos hY,if_pos hY]
  rfl
 rw [if_neg hY,if_neg hY]
 by_cases h1:(inB 97 122 c||yK c)=true
 ·rw [if_pos h1,if_pos h1]
 rw [if_neg h1,if_neg h1]
 by_cases h2:inB 48 57 c=true
 ·rw [if_pos h2,if_pos h2]
 rw [if_neg h2,if_neg h2]
 by_cases h3:isB 39 c=true
 ·have:=kr (n:=39) h3
  subst this
  rw [if_pos (show isB 39 (UInt8.ofNat 39)=true by decide)]
  rfl
 ·rw [if_neg h3,if_neg h3]
theorem qoi: ∀ (r:Str),r[pre z7 r]? =some 39→jy r=some (pre z7 r)∧kz (r.take (pre z7 r))=true
 |[],h=>by simp at h
 |c::r,h=>by
  simp only [pre]at h ⊢
  by_cases hc:z7 c=true
  ·rw [if_pos hc]at h ⊢
   rw [List.getElem?_cons_succ]at h
   obtain ⟨h1,h2⟩:=qoi r h
   have h3:isB 39 c=false:=by
    cases hi:isB 39 c with
    |false=>rfl
    |true=>have:=kr (n:=39) hi;subst this;cases hc
   refine ⟨by simp only [jy,h3,h1,Bool.false_eq_true,if_false,Option.map_some], ?_⟩
   unfold kz at h2 ⊢
   rw [List.take_succ_cons,List.all_cons,hc,h2];rfl
  ·rw [if_neg hc]at h ⊢
   simp only [List.getElem?_cons_zero,Option.some.injEq]at h
   subst h
   exact ⟨rfl,rfl⟩
theorem qoc: ∀ (r:Str) (k:Nat),jy r=some k→kz (r.take k)=true→pre z7 r=k∧r[k]? =some 39
 |[],k,h,_=>by cases h
 |c::r,k,h,h2=>by
  simp only [jy]at h
  split at h
  ·rename_i h3
   cases h
   have:=kr (n:=39) h3
   subst this
   exact ⟨rfl,rfl⟩
  ·rw [Option.map_eq_some_iff]at h
   obtain ⟨m,hm,rfl⟩:=h
   unfold kz at h2
   rw [List.take_succ_cons,List.all_cons,Bool.and_eq_true]at h2
   obtain ⟨h4,h5⟩:=qoc r m hm h2.2
   refine ⟨by simp only [pre,h2.1,if_true,h4],by rw [List.getElem?_cons_succ];exact h5⟩
theorem qz6(r:Str):Zd r=if r[pre z7 r]? =some 39∧1≤pre z7 r∧pre z7 r≤20 then some (pre z7 r)else none:=by
 have hl: ∀ k,k < r.length→(r.take k).length=k:=fun k h=>by rw [List.length_take];omega
 unfold Zd
 by_cases h:r[pre z7 r]? =some 39
 ·obtain ⟨h1,h2⟩:=qoi r h
  have h3:=hl _ (qjp h1)
  rw [h1]
  simp only [xf,h2,Bool.true_and,decide_eq_true_eq,h3,h,true_and]
 ·rw [if_neg fun h'=>h h'.1]
  split
  ·rename_i k hk
   split
   ·rename_i hn
    unfold xf at hn
    rw [Bool.and_eq_true]at hn
    obtain ⟨h4,h5⟩:=qoc r k hk hn.1
    rw [h4]at h
    exact absurd h5 h
   ·rfl
  ·rfl
theorem qxh(c:UInt8):decide (0≤indexByte [40,41,91,93,44,124] c)=(isB 40 c||isB 41 c||isB 91 c||isB 93 c||isB 44 c||isB 124 c):=by
 have h:=qiH [40,41,91,93,44,124] c
 have e: ∀ n:Nat,n < 256→(isB n c=true↔c=UInt8.ofNat n):=fun n hn=>⟨kr,by
  rintro rfl
  unfold isB
  refine decide_eq_true ?_
  rw [UInt8.toNat_ofNat']
  omega⟩
 have e40:=e 40 (by decide)
 have e41:=e 41 (by decide)
 have e91:=e 91 (by decide)
 have e93:=e 93 (by decide)
 have e44:=e 44 (by decide)
 have e124:=e 124 (by decide)
 rw [Bool.eq_iff_iff,decide_eq_true_iff,h]
 simp only [Bool.or_eq_true]
 simp only [Int.cast_ofNat_Int]at e40 e41 e91 e93 e44 e124
 rw [e40,e41,e91,e93,e44,e124]
 simp only [List.mem_cons,List.not_mem_nil,or_false,or_assoc]
 rfl
theorem qxc {c:UInt8} (h:inB 97 122 c=true):yK c=false:=by
 unfold inB at h
 simp only [Bool.and_eq_true,decide_eq_true_eq]at h
 unfold yK inB isB
 simp only [Bool.or_eq_false_iff,Bool.and_eq_false_iff,decide_eq_false_iff_not]
 omega
end Go.Vm
namespace Go.Vm
theorem qwG(s:Str) (hl:s.length≤2^61) (i:Nat) (c:UInt8) (hc:s[i]? =some c):
 cr qg qhr [S s,I i]=some (.t [(sgn s i c).1.v,I (sgn s i c).2]):=by
 have hi:i < s.length:=(List.getElem?_eq_some_iff.1 hc).1
 have ix:=yw (l:=s) (i:=(i:Int)) (c:=c) (by omega) (by simpa using hc)
 have e1:w64 ((i:Int)+1)=((i+1:Nat):Int):=by rw [qm]<;>omega
 have sl:=Zi s i (i+1) (by omega) (by omega)
 have cS:=qm4 c
 have cG:=qm3 c
 have cF:=qiM c
 have cY:=qj6 c
 have cE:=qwB s hl i c hc
 rw [qo qzq rfl]
 by_cases hw:(inB 97 122 c||yK c)=true
 ·have hr:=qwF s hl i (by omega)
  have hp:=jU (p:=zM) (s:=s) (i:=i) (by omega)
  have e2:w64 (((i+pre zM (s.drop i):Nat):Int) - i)=(pre zM (s.drop i):Nat):=by rw [qm]<;>omega
  have sl2:=Zi s i (i+pre zM (s.drop i)) (by omega) hp
  unfold sgn
  rw [if_pos hw]
  by_cases h20:pre zM (s.drop i)≤20
  ·have h20':((pre zM (s.drop i):Nat):Int)≤20:=by omega
   rw [if_pos h20]
   cases hS:inB 97 122 c<;>cases hG:yK c<;>rw [hS]at cS<;>rw [hG]at cG<;>rw [hS,hG]at hw
   ·cases hw
   all_goals simp only [go_sem,qa,qb,qc,qd,qe,qf,reduceCtorEq,yz,ix,e1,sl,cS,cG,hr,e2,h20',sl2,Sg.v]
  ·have h20': ¬ ((pre zM (s.drop i):Nat):Int)≤20:=by omega
   rw [if_neg h20]
   cases hS:inB 97 122 c<;>cases hG:yK c<;>rw [hS]at cS<;>rw [hG]at cG<;>rw [hS,hG]at hw
   ·cases hw
   all_goals simp only [go_sem,qa,qb,qc,qd,qe,qf,reduceCtorEq,yz,ix,e1,sl,cS,cG,hr,e2,h20',sl2,Sg.v,bad]
 have hw':=hw
 simp only [Bool.not_eq_true,Bool.or_eq_false_iff]at hw'
 rw [hw'.1]at cS
 rw [hw'.2]at cG
 unfold sgn
 rw [if_neg hw]
 by_cases hF:inB 48 57 c=true
 ·rw [hF]at cF
  rw [if_pos hF]
  have h:=qBq s hl i (i+1) (zD s i (i+1)) (s.length - i) i 0 (by omega) (by decide) (by decide)
  by_cases hn:nf (s.drop i) 0≤999999999
  ·have hk:=qnC (s.drop i) 0 (by decide) hn
   rw [if_pos hn]
   rw [hk]at h
   simp only [go_sem,qa,qb,qc,qd,qe,qf,reduceCtorEq,yz,ix,e1,sl,cS,cG,cF,h,hn,Sg.v]
  ·rw [if_neg hn]
   simp only [go_sem,qa,qb,qc,qd,qe,qf,reduceCtorEq,yz,ix,e1,sl,cS,cG,cF,h,hn,Sg.v,bad]
 have hF':inB 48 57 c=false:=by simpa using hF
 rw [hF']at cF
 rw [if_neg hF]
 by_cases h39:isB 39 c=true
 ·have d39:decide ((c.toNat:Int)=39)=true:=h39
  rw [if_pos h39]
  have hq:=qwD s hl i hi
  unfold qjr at hq
  cases hk:Zd (s.drop (i+1))with
  |none=>
   rw [hk]at hq
   simp only [go_sem,qa,qb,qc,qd,qe,qf,reduceCtorEq,yz,ix,e1,sl,cS,cG,cF,d39,hq,Sg.v,bad]
  |some k=>
   rw [hk]at hq
   have hlt:=(qoj hk).1
   rw [List.length_drop]at hlt
   have e2:w64 (((i+1+k+1:Nat):Int) - 1)=((i+1+k:Nat):Int):=by rw [qm]<;>omega
   have sl2:=Zi s (i+1) (i+1+k) (by omega) (by omega)
   have h0:(0:Int) < ((i+1+k+1:Nat):Int):=by omega
   simp only [go_sem,qa,qb,qc,qd,qe,qf,reduceCtorEq,yz,ix,e1,sl,cS,cG,cF,d39,hq,e2,sl2,h0,Sg.v]
 have d39:decide ((c.toNat:Int)=39)=false:=by simpa [isB]using h39
 rw [if_neg h39]
 by_cases hA:(isB 33 c||isB 59 c)=true
 ·rw [if_pos hA]
  cases h33:decide ((c.toNat:Int)=33)with
  |true=>simp only [go_sem,qa,qb,qc,qd,qe,qf,reduceCtorEq,yz,ix,e1,sl,cS,cG,cF,d39,h33,Sg.v]
  |false=>
   have h59:decide ((c.toNat:Int)=59)=true:=by unfold isB at hA;rw [h33]at hA;exact hA
   simp only [go_sem,qa,qb,qc,qd,qe,qf,reduceCtorEq,yz,ix,e1,sl,cS,cG,cF,d39,h33,h59,Sg.v]
 have hA':=hA
 unfold isB at hA'
 simp only [Bool.not_eq_true,Bool.or_eq_false_iff]at hA'
 have h33:=hA'.1
 have h59:=hA'.2
 rw [if_neg hA]
 by_cases hM:(isB 40 c||isB 41 c||isB 91 c||isB 93 c||isB 44 c||isB 124 c)=true
 ·rw [if_pos hM]
  unfold isB at hM
  cases h40:decide ((c.toNat:Int)=40)with
  |true=>simp only [go_sem,qa,qb,qc,qd,qe,qf,reduceCtorEq,yz,ix,e1,sl,cS,cG,cF,d39,h33,h59,h40,Sg.v]
  |false=>
  cases h41:decide ((c.toNat:Int)=41)with
  |true=>simp only [go_sem,qa,qb,qc,qd,qe,qf,reduceCtorEq,yz,ix,e1,sl,cS,cG,cF,d39,h33,h59,h40,h41,Sg.v]
  |false=>
  cases h91:decide ((c.toNat:Int)=91)with
  |true=>simp only [go_sem,qa,qb,qc,qd,qe,qf,reduceCtorEq,yz,ix,e1,sl,cS,cG,cF,d39,h33,h59,h40,h41,h91,Sg.v]
  |false=>
  cases h93:decide ((c.toNat:Int)=93)with
  |true=>simp only [go_sem,qa,qb,qc,qd,qe,qf,reduceCtorEq,yz,ix,e1,sl,cS,cG,cF,d39,h33,h59,h40,h41,h91,h93,Sg.v]
  |false=>
  cases h44:decide ((c.toNat:Int)=44)with
  |true=>simp only [go_sem,qa,qb,qc,qd,qe,qf,reduceCtorEq,yz,ix,e1,sl,cS,cG,cF,d39,h33,h59,h40,h41,h91,h93,h44,Sg.v]
  |false=>
   have h124:decide ((c.toNat:Int)=124)=true:=by rw [h40,h41,h91,h93,h44]at hM;exact hM
   simp only [go_sem,qa,qb,qc,qd,qe,qf,reduceCtorEq,yz,ix,e1,sl,cS,cG,cF,d39,h33,h59,h40,h41,h91,h93,h44,h124,Sg.v]
 have hM':=hM
 unfold isB at hM'
 simp only [Bool.not_eq_true,Bool.or_eq_false_iff]at hM'
 obtain ⟨⟨⟨⟨⟨h40,h41⟩,h91⟩,h93⟩,h44⟩,h124⟩:=hM'
 rw [if_neg hM]
 cases hE:Qq s i c with
 |true=>
  rw [hE]at cE
  rw [if_pos rfl]
  simp only [go_sem,qa,qb,qc,qd,qe,qf,reduceCtorEq,yz,ix,e1,sl,cS,cG,cF,d39,h33,h59,h40,h41,h91,h93,h44,h124,cE,Sg.v]
 |false=>
 rw [hE]at cE
 rw [if_neg (by decide)]
 cases hY:zi c with
 |false=>
  rw [hY]at cY
  rw [if_neg (by decide)]
  simp only [go_sem,qa,qb,qc,qd,qe,qf,reduceCtorEq,yz,ix,e1,sl,cS,cG,cF,d39,h33,h59,h40,h41,h91,h93,h44,h124,cE,cY,Sg.v,bad]
 |true=>
 rw [hY]at cY
 rw [if_pos rfl]
 have h:=qBr s hl i (i+1) (zD s i (i+1)) (s.length - i) i (by omega)
 have hp:=jU (p:=zi) (s:=s) (i:=i) (by omega)
 have e2:w64 (((i+pre zi (s.drop i):Nat):Int) - i)=(pre zi (s.drop i):Nat):=by rw [qm]<;>omega
 have sl2:=Zi s i (i+pre zi (s.drop i)) (by omega) hp
 by_cases h20:pre zi (s.drop i)≤20
 ·have h20':((pre zi (s.drop i):Nat):Int)≤20:=by omega
  rw [if_pos h20]
  simp only [go_sem,qa,qb,qc,qd,qe,qf,reduceCtorEq,yz,ix,e1,sl,cS,cG,cF,d39,h33,h59,h40,h41,h91,h93,h44,h124,cE,cY,h,e2,h20',sl2,Sg.v]
 ·have h20': ¬ ((pre zi (s.drop i):Nat):Int)≤20:=by omega
  rw [if_neg h20]
  simp only [go_sem,qa,qb,qc,qd,qe,qf,reduceCtorEq,yz,ix,e1,sl,cS,cG,cF,d39,h33,h59,h40,h41,h91,h93,h44,h124,cE,cY,h,e2,h20',sl2,Sg.v,bad]
end Go.Vm
namespace Go.Vm
open Go.Lib (indexByte)
theorem qsD(s:Str) (hl:s.length≤2^61) (i:Nat) (e:Nat) (he:e≤s.length) (m:Nat): ∀ (n:Nat) (a:Int),n+m=e→n+pre (inB 48 57) (s.drop n)=e→0≤a→a≤9999999999→
 lw qg qbI ⟨[(0,S s),(1,I i),(4,.p (100000,0) 0 0),(7,.p (100000,1) 0 0),(8,I e),(9,I a),(10,I n)],[((100000,0),5,[.a [I 0,S [],I 0,I 0,B false]]),((100000,1),5,[.a [I 0,S [],I 0,I i,B false]])]⟩=some (.exit 1,⟨[(0,S s),(1,I i),(4,.p (100000,0) 0 0),(7,.p (100000,1) 0 0),(8,I e),(9,I (nf (s.drop n) a))],[((100000,0),5,[.a [I 0,S [],I 0,I 0,B false]]),((100000,1),5,[.a [I 0,S [],I 0,I i,B false]])]⟩):=by
 induction m with
 |zero=>
  intro n a hn hp h0 h1
  have h: ¬ (n:Int) < e:=by omega
  have hz:pre (inB 48 57) (s.drop n)=0:=by omega
  have hnf:nf (s.drop n) a=a:=by
   cases hd:s.drop n with
   |nil=>rfl
   |cons c r=>
    rw [hd,pre]at hz
    have hc:inB 48 57 c=false:=by
     cases hc:inB 48 57 c with
     |false=>rfl
     |true=>rw [hc,if_pos rfl]at hz;omega
    rw [nf,hc,Bool.false_and,if_neg (by decide)]
  rw [hnf,ql]
  simp only [go_sem,qa,qb,qc,qd,qe,qf,reduceCtorEq,qb9,h]
 |succ m ih=>
  intro n a hn hp h0 h1
  have h:(n:Int) < e:=by omega
  obtain ⟨c,hc⟩:=qV (l:=s) (i:=n) (by omega)
  have ix:=yw (l:=s) (i:=(n:Int)) (c:=c) (by omega) (by simpa using hc)
  have e1:w64 ((n:Int)+1)=((n+1:Nat):Int):=by rw [qm]<;>omega
  rw [zP hc,pre]at hp
  have hw:inB 48 57 c=true:=by
   cases hw:inB 48 57 c with
   |true=>rfl
   |false=>rw [hw,if_neg (by decide)]at hp;omega
  rw [hw,if_pos rfl]at hp
  rw [zP hc,ql,nf,hw]
  simp only [inB,Bool.and_eq_true,decide_eq_true_eq]at hw
  by_cases ha:a≤999999999
  ·have da:decide (a≤999999999)=true:=decide_eq_true ha
   have i1:=ih (n+1) (10*a+c.toNat - 48) (by omega) (by omega) (by omega) (by omega)
   have e3:w64 (10*a)=10*a:=by rw [qm]<;>omega
   have e4:IntKind.u8.wrap ((c.toNat:Int) - 48)=c.toNat - 48:=by
    have:((c.toNat:Int) - 48) % 256=c.toNat - 48:=by omega
    exact this
   have e5:w64 ((c.toNat:Int) - 48)=c.toNat - 48:=by rw [qm]<;>omega
   have e6:w64 (10*a+((c.toNat:Int) - 48))=10*a+c.toNat - 48:=by rw [qm]<;>omega
   have u8s:qD .sub (U8 c.toNat) (U8 48)=some (U8 (IntKind.u8.wrap ((c.toNat:Int) - 48))):=rfl
   rw [da,Bool.and_self,if_pos rfl]
   simp only [go_sem,qa,qb,qc,qd,qe,qf,reduceCtorEq,qb9,h,ix,e1,da,ha,u8s,e3,e4,e5,e6]
   exact i1
  ·have da:decide (a≤999999999)=false:=decide_eq_false ha
   rw [da,Bool.and_false,if_neg (by decide)]
   simp only [go_sem,qa,qb,qc,qd,qe,qf,reduceCtorEq,qb9,h,ix,e1,da,ha]
theorem qxp(c:UInt8):cr qg qer [U8 c.toNat]=some (B (z7 c)):=by
 have hc:=UInt8.toNat_lt c
 have hw:w64 (c.toNat:Int)=c.toNat:=by rw [qm]<;>omega
 have hin:=X9 c.toNat 33 126
 rw [qo qyq rfl]
 rcases qi7 c with ⟨h0,h1,h2,h3,h4⟩|⟨h0,h1|⟨h1,h2|⟨h2,h3|⟨h3,h4⟩⟩⟩⟩
 ·rw [decide_eq_true (show (33:Int)≤c.toNat∧(c.toNat:Int)≤126 by omega)]at hin
  simp only [go_sem,qa,qb,qc,qd,qe,qf,reduceCtorEq,QG,hw,hin,h3,h4,h0]
 ·rw [decide_eq_false (show ¬ ((33:Int)≤c.toNat∧(c.toNat:Int)≤126)by omega)]at hin
  simp only [go_sem,qa,qb,qc,qd,qe,qf,reduceCtorEq,QG,hw,hin,h0]
 ·rw [decide_eq_false (show ¬ ((33:Int)≤c.toNat∧(c.toNat:Int)≤126)by omega)]at hin
  simp only [go_sem,qa,qb,qc,qd,qe,qf,reduceCtorEq,QG,hw,hin,h0]
 ·rw [decide_eq_true (show (33:Int)≤c.toNat∧(c.toNat:Int)≤126 by omega)]at hin
  simp only [go_sem,qa,qb,qc,qd,qe,qf,reduceCtorEq,QG,hw,hin,h3,h0]
 ·rw [decide_eq_true (show (33:Int)≤c.toNat∧(c.toNat:Int)≤126 by omega)]at hin
  simp only [go_sem,qa,qb,qc,qd,qe,qf,reduceCtorEq,QG,hw,hin,h3,h4,h0]
theorem qxq(s:Str) (hl:s.length≤2^61) (i:Nat) (c:UInt8) (hc:s[i]? =some c):
 cr qg qgZ [S s,I i]=some (.t [(sgn s i c).1.v,I (sgn s i c).2]):=by
 have hi:i < s.length:=(List.getElem?_eq_some_iff.1 hc).1
 have ix:=yw (l:=s) (i:=(i:Int)) (c:=c) (by omega) (by simpa using hc)
 have e1:w64 ((i:Int)+1)=((i+1:Nat):Int):=by rw [qm]<;>omega
 have sl:=Zi s i (i+1) (by omega) (by omega)
 have ln:((zD s i (i+1)).length:Int)=1:=by rw [qkb (by omega)];rfl
 have cS:=qmM c
 have cG:=qmN c
 have cF:=qiE c
 have cY:=qiC c
 have cE:=qsi s hl i c hc
 have cX:=qfE [40,41,91,93,44,124] c
 have cM:=qxh c
 rw [qBu hc,qo qyp rfl]
 unfold qjT
 cases hE:Qq s i c with
 |true=>
  rw [hE]at cE
  rw [if_pos rfl]
  simp only [go_sem,qa,qb,qc,qd,qe,qf,reduceCtorEq,yp,ix,e1,cE,Int.reduceEq,Int.reduceLT,Int.reduceNe,decide_true,decide_false,Sg.v]
 |false=>
 rw [hE]at cE
 rw [if_neg (by decide)]
 by_cases hw:(inB 97 122 c||yK c)=true
 ·have hr:=qde zM qeu qsZ s hl i (by omega)
  have hp:=jU (p:=zM) (s:=s) (i:=i) (by omega)
  have sl2:=Zi s i (i+pre zM (s.drop i)) (by omega) hp
  have ln2:=qkb (s:=s) (i:=i) (n:=pre zM (s.drop i)) hp
  rw [if_pos hw]
  by_cases h20:pre zM (s.drop i)≤20
  ·have h20': ¬ (20:Int) < ((pre zM (s.drop i):Nat):Int):=by omega
   rw [if_pos h20]
   cases hS:inB 97 122 c with
   |true=>
    rw [hS]at cS
    rw [qxc hS]
    simp only [go_sem,qa,qb,qc,qd,qe,qf,reduceCtorEq,yp,ix,e1,cE,cS,hr,sl2,ln2,h20',Int.reduceEq,Int.reduceLT,Int.reduceNe,decide_true,decide_false,Sg.v]
   |false=>
    rw [hS]at cS
    rw [hS,Bool.false_or]at hw
    rw [hw]
    unfold yK isB at hw
    cases hU:inB 65 90 c with
    |true=>rw [hU]at cG;simp only [go_sem,qa,qb,qc,qd,qe,qf,reduceCtorEq,yp,ix,e1,cE,cS,cG,hr,sl2,ln2,h20',Int.reduceEq,Int.reduceLT,Int.reduceNe,decide_true,decide_false,Sg.v]
    |false=>
     rw [hU]at cG
     rw [hU,Bool.false_or]at hw
     simp only [go_sem,qa,qb,qc,qd,qe,qf,reduceCtorEq,yp,ix,e1,cE,cS,cG,hw,hr,sl2,ln2,h20',Int.reduceEq,Int.reduceLT,Int.reduceNe,decide_true,decide_false,Sg.v]
  ·have h20':(20:Int) < ((pre zM (s.drop i):Nat):Int):=by omega
   rw [if_neg h20]
   cases hS:inB 97 122 c with
   |true=>
    rw [hS]at cS
    simp only [go_sem,qa,qb,qc,qd,qe,qf,reduceCtorEq,yp,ix,e1,cE,cS,hr,sl,sl2,ln2,h20',Int.reduceEq,Int.reduceLT,Int.reduceNe,decide_true,decide_false,Sg.v,bad]
   |false=>
    rw [hS]at cS
    rw [hS,Bool.false_or]at hw
    unfold yK isB at hw
    cases hU:inB 65 90 c with
    |true=>rw [hU]at cG;simp only [go_sem,qa,qb,qc,qd,qe,qf,reduceCtorEq,yp,ix,e1,cE,cS,cG,hr,sl,sl2,ln2,h20',Int.reduceEq,Int.reduceLT,Int.reduceNe,decide_true,decide_false,Sg.v,bad]
    |false=>
     rw [hU]at cG
     rw [hU,Bool.false_or]at hw
     simp only [go_sem,qa,qb,qc,qd,qe,qf,reduceCtorEq,yp,ix,e1,cE,cS,cG,hw,hr,sl,sl2,ln2,h20',Int.reduceEq,Int.reduceLT,Int.reduceNe,decide_true,decide_false,Sg.v,bad]
 have hw':=hw
 unfold yK isB at hw'
 simp only [Bool.not_eq_true,Bool.or_eq_false_iff]at hw'
 obtain ⟨hS,hU,h95⟩:=hw'
 rw [hS]at cS
 rw [hU]at cG
 rw [if_neg hw]
 by_cases hF:inB 48 57 c=true
 ·rw [hF]at cF
  rw [if_pos hF]
  have hr:=qde (inB 48 57) Jp qiE s hl i (by omega)
  have hp:=jU (p:=inB 48 57) (s:=s) (i:=i) (by omega)
  have sl2:=Zi s i (i+pre (inB 48 57) (s.drop i)) (by omega) hp
  have h:=qsD s hl i (i+pre (inB 48 57) (s.drop i)) hp (pre (inB 48 57) (s.drop i)) i 0 (by omega) rfl (by decide) (by decide)
  by_cases hn:nf (s.drop i) 0≤999999999
  ·rw [if_pos hn]
   simp only [go_sem,qa,qb,qc,qd,qe,qf,reduceCtorEq,yp,ix,e1,cE,cS,cG,h95,cF,hr,h,hn,Int.reduceEq,Int.reduceLT,Int.reduceNe,decide_true,decide_false,Sg.v]
  ·rw [if_neg hn]
   simp only [go_sem,qa,qb,qc,qd,qe,qf,reduceCtorEq,yp,ix,e1,sl,cE,cS,cG,h95,cF,hr,h,hn,sl2,Int.reduceEq,Int.reduceLT,Int.reduceNe,decide_true,decide_false,Sg.v,bad]
 have hF':inB 48 57 c=false:=by simpa using hF
 rw [hF']at cF
 rw [if_neg hF]
 cases hY:zi c with
 |true=>
  rw [hY]at cY
  rw [if_pos rfl]
  have hr:=qde zi Jn qiC s hl i (by omega)
  have hp:=jU (p:=zi) (s:=s) (i:=i) (by omega)
  have sl2:=Zi s i (i+pre zi (s.drop i)) (by omega) hp
  have ln2:=qkb (s:=s) (i:=i) (n:=pre zi (s.drop i)) hp
  by_cases h20:pre zi (s.drop i)≤20
  ·have h20': ¬ (20:Int) < ((pre zi (s.drop i):Nat):Int):=by omega
   rw [if_pos h20]
   simp only [go_sem,qa,qb,qc,qd,qe,qf,reduceCtorEq,yp,ix,e1,cE,cS,cG,h95,cF,cY,hr,sl2,ln2,h20',Int.reduceEq,Int.reduceLT,Int.reduceNe,decide_true,decide_false,Sg.v]
  ·have h20':(20:Int) < ((pre zi (s.drop i):Nat):Int):=by omega
   rw [if_neg h20]
   simp only [go_sem,qa,qb,qc,qd,qe,qf,reduceCtorEq,yp,ix,e1,cE,cS,cG,h95,cF,cY,hr,sl,sl2,ln2,h20',Int.reduceEq,Int.reduceLT,Int.reduceNe,decide_true,decide_false,Sg.v,bad]
 |false=>
 rw [hY]at cY
 rw [if_neg (by decide)]
 by_cases hA:(isB 33 c||isB 59 c)=true
 ·rw [if_pos hA]
  cases h33:decide ((c.toNat:Int)=33)with
  |true=>simp only [go_sem,qa,qb,qc,qd,qe,qf,reduceCtorEq,yp,ix,e1,cE,cS,cG,h95,cF,cY,h33,sl,ln,Int.reduceEq,Int.reduceLT,Int.reduceNe,decide_true,decide_false,Sg.v]
  |false=>
   have h59:decide ((c.toNat:Int)=59)=true:=by unfold isB at hA;rw [h33]at hA;exact hA
   simp only [go_sem,qa,qb,qc,qd,qe,qf,reduceCtorEq,yp,ix,e1,cE,cS,cG,h95,cF,cY,h33,h59,sl,ln,Int.reduceEq,Int.reduceLT,Int.reduceNe,decide_true,decide_false,Sg.v]
 have hA':=hA
 unfold isB at hA'
 simp only [Bool.not_eq_true,Bool.or_eq_false_iff]at hA'
 have h33:=hA'.1
 have h59:=hA'.2
 rw [if_neg hA]
 cases hM:(isB 40 c||isB 41 c||isB 91 c||isB 93 c||isB 44 c||isB 124 c)with
 |true=>
  rw [hM]at cM
  rw [if_pos rfl]
  simp only [go_sem,qa,qb,qc,qd,qe,qf,reduceCtorEq,yp,ix,e1,cE,cS,cG,h95,cF,cY,h33,h59,cX,cM,sl,ln,Int.reduceEq,Int.reduceLT,Int.reduceNe,decide_true,decide_false,Sg.v]
 |false=>
 rw [hM]at cM
 rw [if_neg (by decide)]
 cases h39:isB 39 c with
 |false=>
  unfold isB at h39
  rw [if_neg (by decide)]
  simp only [go_sem,qa,qb,qc,qd,qe,qf,reduceCtorEq,yp,ix,e1,cE,cS,cG,h95,cF,cY,h33,h59,cX,cM,h39,sl,ln,Int.reduceEq,Int.reduceLT,Int.reduceNe,decide_true,decide_false,Sg.v,bad]
 |true=>
 unfold isB at h39
 rw [if_pos rfl]
 have hr:=qde z7 qer qxp s hl (i+1) (by omega)
 have hp:=jU (p:=z7) (s:=s) (i:=i+1) (by omega)
 have hin:=X9 (pre z7 (s.drop (i+1)):Nat) 1 20
 have e2:w64 (((i+1+pre z7 (s.drop (i+1)):Nat):Int) - i)=((1+pre z7 (s.drop (i+1)):Nat):Int):=by rw [qm]<;>omega
 have e3:w64 (((1+pre z7 (s.drop (i+1)):Nat):Int) - 1)=((pre z7 (s.drop (i+1)):Nat):Int):=by rw [qm]<;>omega
 have e4:w64 (((i+1+pre z7 (s.drop (i+1)):Nat):Int)+1)=((i+1+pre z7 (s.drop (i+1))+1:Nat):Int):=by rw [qm]<;>omega
 have sl2:=Zi s (i+1) (i+1+pre z7 (s.drop (i+1))) (by omega) hp
 rw [qz6]
 have hget:(s.drop (i+1))[pre z7 (s.drop (i+1))]? =s[i+1+pre z7 (s.drop (i+1))]? :=by rw [List.getElem?_drop]
 rw [hget]
 generalize hm:pre z7 (s.drop (i+1))=m at*
 by_cases hlt:i+1+m < s.length
 ·have hlt':((i+1+m:Nat):Int) < s.length:=by omega
  obtain ⟨d,hd⟩:=qV (l:=s) (i:=i+1+m) hlt
  have ix2:=yw (l:=s) (i:=((i+1+m:Nat):Int)) (c:=d) (by omega) (by rw [Int.toNat_natCast];exact hd)
  rw [hd]
  cases hd39:isB 39 d with
  |true=>
   have hdd:=kr (n:=39) hd39
   unfold isB at hd39
   have hsm:(some d=some (39:UInt8))=True:=eq_true (by rw [hdd];rfl)
   simp only [hsm,true_and]
   by_cases hk:1≤m∧m≤20
   ·rw [decide_eq_true (show (1:Int)≤(m:Int)∧(m:Int)≤20 by omega)]at hin
    rw [if_pos hk]
    simp only [go_sem,qa,qb,qc,qd,qe,qf,reduceCtorEq,yp,ix,e1,cE,cS,cG,h95,cF,cY,h33,h59,cX,cM,h39,hr,hlt',ix2,hd39,e2,e3,hin,sl2,e4,Int.reduceEq,Int.reduceLT,Int.reduceNe,decide_true,decide_false,Sg.v]
   ·rw [decide_eq_false (show ¬ ((1:Int)≤(m:Int)∧(m:Int)≤20)by omega)]at hin
    rw [if_neg hk]
    simp only [go_sem,qa,qb,qc,qd,qe,qf,reduceCtorEq,yp,ix,e1,cE,cS,cG,h95,cF,cY,h33,h59,cX,cM,h39,hr,hlt',ix2,hd39,e2,e3,hin,sl,ln,Int.reduceEq,Int.reduceLT,Int.reduceNe,decide_true,decide_false,Sg.v,bad]
  |false=>
   have hne: ¬ (some d=some (39:UInt8)):=by
    intro e
    cases e
    cases hd39
   unfold isB at hd39
   rw [if_neg fun h=>hne h.1]
   simp only [go_sem,qa,qb,qc,qd,qe,qf,reduceCtorEq,yp,ix,e1,cE,cS,cG,h95,cF,cY,h33,h59,cX,cM,h39,hr,hlt',ix2,hd39,sl,ln,Int.reduceEq,Int.reduceLT,Int.reduceNe,decide_true,decide_false,Sg.v,bad]
 ·have hlt': ¬ ((i+1+m:Nat):Int) < s.length:=by omega
  have hno:s[i+1+m]? =none:=List.getElem?_eq_none (by omega)
  rw [hno,if_neg (by rintro ⟨h,-⟩;cases h)]
  simp only [go_sem,qa,qb,qc,qd,qe,qf,reduceCtorEq,yp,ix,e1,cE,cS,cG,h95,cF,cY,h33,h59,cX,cM,h39,hr,hlt',sl,ln,Int.reduceEq,Int.reduceLT,Int.reduceNe,decide_true,decide_false,Sg.v,bad]
end Go.Vm
namespace Go.Vm
section
variable {l:List Sg} {τ:Bool}
@[go_sem] theorem qlM:qC (l.map Sg.v)=true:=jr (fun _=>rfl) l
@[go_sem] theorem qPy(d:Nat):qB d (l.map Sg.v)=l.map Sg.v:=ZQ (fun _=>rfl) d l
@[go_sem] theorem qMv:qT τ (l.map Sg.v)=l.map Sg.v:=jK (fun _=>rfl) l
@[go_sem] theorem qRM:qH (l.map Sg.v)=true:=x7 (fun _=>rfl) l
@[go_sem] theorem qQr(m:Nat) (T:Mem):qy (zf m) T (l.map Sg.v)=(l.map Sg.v,T):=ku m T _ qlM
@[go_sem] theorem qUk(k:Key) (ob:Ob):zG k ob (l.map Sg.v)=none:=jZ k ob _ qlM
@[go_sem] theorem qU2 {a n p:Int} {t:Str} {b:Bool}:l.map Sg.v++[.a [I a,S t,I n,I p,B b]]=(l++[Sg.mk a t n p b]).map Sg.v:=by simp [Sg.v]
end
theorem qBM(s:Str) (hl:s.length≤3000) (acc:List Sg) (m:Nat): ∀ i,i+m=s.length→
 lw qg qbT ⟨[(0,S s),(4,.s (100000,0) 0 acc.length),(5,I i)],[((100000,0),5,acc.map Sg.v)]⟩=
  some (.exit 2,⟨[(0,S s),(4,.s (100000,0) 0 acc.length),(5,I ((i+pre (fun d=> !isB 10 d) (s.drop i):Nat):Int))],[((100000,0),5,acc.map Sg.v)]⟩):=by
 induction m with
 |zero=>
  intro i hi
  rw [List.drop_eq_nil_of_le (by omega),ql]
  have h: ¬ (i:Int) < s.length:=by omega
  simp only [go_sem,qa,qb,qc,qd,qe,qf,reduceCtorEq,qch,h,pre]
 |succ m ih=>
  intro i hi
  have h:(i:Int) < s.length:=by omega
  obtain ⟨c,hc⟩:=qV (l:=s) (i:=i) (by omega)
  have ix:=yw (l:=s) (i:=(i:Int)) (c:=c) (by omega) (by simpa using hc)
  have e1:w64 ((i:Int)+1)=((i+1:Nat):Int):=by rw [qm]<;>omega
  rw [zP hc,ql,pre]
  cases hw:isB 10 c with
  |false=>
   unfold isB at hw
   have i1:=ih (i+1) (by omega)
   rw [if_pos (by rfl),show i+(pre (fun d=> !isB 10 d) (s.drop (i+1))+1)=i+1+pre (fun d=> !isB 10 d) (s.drop (i+1))by omega]
   simp only [go_sem,qa,qb,qc,qd,qe,qf,reduceCtorEq,qch,h,ix,hw,e1]
   exact i1
  |true=>
   unfold isB at hw
   rw [if_neg (by decide)]
   simp only [go_sem,qa,qb,qc,qd,qe,qf,reduceCtorEq,qch,h,ix,hw,e1,Nat.add_zero]
theorem qq4(c:UInt8):cr qg qef [U8 c.toNat]=some (B (!isB 10 c)):=by
 rw [qo qxZ rfl]
 unfold isB
 cases h:decide ((c.toNat:Int)=10)<;>simp only [go_sem,qa,qb,qc,qd,qe,qf,reduceCtorEq,Kk,h]
theorem qnu {s:Str} {e:Nat} (h:e < s.length) (hl:s.length≤3000): ∃ d,ixV (S s) (I e)=some (U8 (d:UInt8).toNat)∧decide ((d.toNat:Int)=40)=decide (s[e]? =some 40):=by
 obtain ⟨d,hd⟩:=qV (l:=s) (i:=e) h
 refine ⟨d,yw (by omega) (by simpa using hd), ?_⟩
 rw [hd]
 refine decide_eq_decide.2 ?_
 have:=JS (c:=d) (d:=40)
 rw [show (((40:UInt8).toNat:Nat):Int)=40 from rfl]at this
 rw [this]
 simp
theorem qBK(s:Str) (hl:s.length≤3000): ∀ n i (acc:List Sg),s.length≤i+n→i≤s.length→acc.length≤i→
 lw qg qbU ⟨[(0,S s),(4,.s (100000,0) 0 acc.length),(5,I i)],[((100000,0),5,acc.map Sg.v)]⟩=
  some (.exit 0,⟨[(4,.s (100000,0) 0 (acc.length+(sgs s n i).length))],[((100000,0),5,(acc++sgs s n i).map Sg.v)]⟩):=by
 intro n
 induction n with
 |zero=>
  intro i acc h1 h2 h3
  have h: ¬ (i:Int) < s.length:=by omega
  rw [sgs,List.append_nil,List.length_nil,Nat.add_zero,ql]
  simp only [go_sem,qa,qb,qc,qd,qe,qf,reduceCtorEq,Yt,h]
 |succ n ih=>
  intro i acc h1 h2 h3
  rw [ql]
  by_cases hlt:i < s.length
  ·have h:(i:Int) < s.length:=by omega
   obtain ⟨c,hc⟩:=qV (l:=s) (i:=i) hlt
   have ix:=yw (l:=s) (i:=(i:Int)) (c:=c) (by omega) (by simpa using hc)
   have e1:w64 ((i:Int)+1)=((i+1:Nat):Int):=by rw [qm]<;>omega
   have bl:=qiL c
   simp only [sgs,hc]
   cases hb:jo c with
   |true=>
    rw [hb]at bl
    have i1:=ih (i+1) acc (by omega) (by omega) (by omega)
    rw [if_pos rfl]
    simp only [go_sem,qa,qb,qc,qd,qe,qf,reduceCtorEq,Yt,h,ix,bl,e1]
    exact i1
   |false=>
   rw [hb]at bl
   rw [if_neg (by decide)]
   cases h37:isB 37 c with
   |true=>
    have hp:=jU (p:=fun d=> !isB 10 d) (s:=s) (i:=i) (by omega)
    have hp1:1≤pre (fun d=> !isB 10 d) (s.drop i):=qah hc (by have:=kr (n:=37) h37;subst this;rfl)
    have i1:=ih (i+pre (fun d=> !isB 10 d) (s.drop i)) acc (by omega) (by omega) (by omega)
    have cm:=qBM s hl acc (s.length - i) i (by omega)
    unfold isB at h37
    rw [if_pos rfl]
    simp only [go_sem,qa,qb,qc,qd,qe,qf,reduceCtorEq,Yt,h,ix,bl,h37,cm]
    exact i1
   |false=>
   unfold isB at h37
   rw [if_neg (by decide)]
   have sg:=qwG s (by omega) i c hc
   obtain ⟨g1,g2⟩:=qjU s i c hc
   have i1:=ih (sgn s i c).2 (acc++[(sgn s i c).1.near' (decide (s[(sgn s i c).2]? =some 40))]) (by omega) g2 (by simp only [List.length_append,List.length_cons,List.length_nil];omega)
   have l1:decide ((acc.length+1)*48≤lim)=true:=decide_eq_true (by rw [qM];omega)
   have l2:decide (acc.length+1≤lim)=true:=decide_eq_true (by rw [qM];omega)
   have ea:acc.length+((sgs s n (sgn s i c).2).length+1)=acc.length+1+(sgs s n (sgn s i c).2).length:=by omega
   rw [List.append_assoc,List.singleton_append]at i1
   unfold Sg.near' at i1
   rw [Sg.v]at sg
   by_cases hn:(sgn s i c).2 < s.length
   ·have hn':(((sgn s i c).2:Nat):Int) < s.length:=by omega
    obtain ⟨d,ix2,hd⟩:=qnu hn hl
    rw [← hd]at i1 ⊢
    simp only [go_sem,qa,qb,qc,qd,qe,qf,reduceCtorEq,Yt,h,ix,bl,h37,sg,hn',ix2,l1,l2,List.length_cons,List.length_nil,ea,Sg.near']at i1 ⊢
    exact i1
   ·have hn': ¬ (((sgn s i c).2:Nat):Int) < s.length:=by omega
    have hno:s[(sgn s i c).2]? =none:=List.getElem?_eq_none (by omega)
    have hf:decide (s[(sgn s i c).2]? =some 40)=false:=by rw [hno];rfl
    rw [hf]at i1 ⊢
    simp only [go_sem,qa,qb,qc,qd,qe,qf,reduceCtorEq,Yt,h,ix,bl,h37,sg,hn',l1,l2,List.length_cons,List.length_nil,ea,Sg.near']at i1 ⊢
    exact i1
  ·have h: ¬ (i:Int) < s.length:=by omega
   rw [qpw s _ i (by omega),List.append_nil,List.length_nil,Nat.add_zero]
   simp only [go_sem,qa,qb,qc,qd,qe,qf,reduceCtorEq,Yt,h]
theorem qsM(s:Str) (hl:s.length≤3000): ∀ n i (acc:List Sg),s.length≤i+n→i≤s.length→acc.length≤i→
 lw qg qbC ⟨[(0,S s),(4,.s (100000,0) 0 acc.length),(5,I i)],[((100000,0),5,acc.map Sg.v)]⟩=
  some (.exit 0,⟨[(4,.s (100000,0) 0 (acc.length+(sgs s n i).length))],[((100000,0),5,(acc++sgs s n i).map Sg.v)]⟩):=by
 intro n
 induction n with
 |zero=>
  intro i acc h1 h2 h3
  have h: ¬ (i:Int) < s.length:=by omega
  rw [sgs,List.append_nil,List.length_nil,Nat.add_zero,ql]
  simp only [go_sem,qa,qb,qc,qd,qe,qf,reduceCtorEq,QS,h]
 |succ n ih=>
  intro i acc h1 h2 h3
  rw [ql]
  by_cases hlt:i < s.length
  ·have h:(i:Int) < s.length:=by omega
   obtain ⟨c,hc⟩:=qV (l:=s) (i:=i) hlt
   have ix:=yw (l:=s) (i:=(i:Int)) (c:=c) (by omega) (by simpa using hc)
   have e1:w64 ((i:Int)+1)=((i+1:Nat):Int):=by rw [qm]<;>omega
   simp only [sgs,hc]
   by_cases hb:jo c=true
   ·have i1:=ih (i+1) acc (by omega) (by omega) (by omega)
    rw [if_pos hb]
    unfold jo isB at hb
    cases d32:decide ((c.toNat:Int)=32)with
    |true=>simp only [go_sem,qa,qb,qc,qd,qe,qf,reduceCtorEq,QS,h,ix,d32,e1];exact i1
    |false=>
    cases d9:decide ((c.toNat:Int)=9)with
    |true=>simp only [go_sem,qa,qb,qc,qd,qe,qf,reduceCtorEq,QS,h,ix,d32,d9,e1];exact i1
    |false=>
    rw [d32,d9]at hb
    have d10:decide ((c.toNat:Int)=10)=true:=hb
    simp only [go_sem,qa,qb,qc,qd,qe,qf,reduceCtorEq,QS,h,ix,d32,d9,d10,e1];exact i1
   rw [if_neg hb]
   unfold jo isB at hb
   simp only [Bool.not_eq_true,Bool.or_eq_false_iff]at hb
   obtain ⟨⟨d32,d9⟩,d10⟩:=hb
   cases h37:isB 37 c with
   |true=>
    have hp:=jU (p:=fun d=> !isB 10 d) (s:=s) (i:=i) (by omega)
    have hp1:1≤pre (fun d=> !isB 10 d) (s.drop i):=qah hc (by have:=kr (n:=37) h37;subst this;rfl)
    have i1:=ih (i+pre (fun d=> !isB 10 d) (s.drop i)) acc (by omega) (by omega) (by omega)
    have cm:=qde (fun d=> !isB 10 d) qef qq4 s (by omega) i (by omega)
    unfold isB at h37
    rw [if_pos rfl]
    simp only [go_sem,qa,qb,qc,qd,qe,qf,reduceCtorEq,QS,h,ix,d32,d9,d10,h37,cm]
    exact i1
   |false=>
   unfold isB at h37
   rw [if_neg (by decide)]
   have sg:=qxq s (by omega) i c hc
   obtain ⟨g1,g2⟩:=qjU s i c hc
   have i1:=ih (sgn s i c).2 (acc++[(sgn s i c).1.near' (decide (s[(sgn s i c).2]? =some 40))]) (by omega) g2 (by simp only [List.length_append,List.length_cons,List.length_nil];omega)
   have l1:decide ((acc.length+1)*48≤lim)=true:=decide_eq_true (by rw [qM];omega)
   have l2:decide (acc.length+1≤lim)=true:=decide_eq_true (by rw [qM];omega)
   have ea:acc.length+((sgs s n (sgn s i c).2).length+1)=acc.length+1+(sgs s n (sgn s i c).2).length:=by omega
   rw [List.append_assoc,List.singleton_append]at i1
   unfold Sg.near' at i1
   rw [Sg.v]at sg
   by_cases hn:(sgn s i c).2 < s.length
   ·have hn':(((sgn s i c).2:Nat):Int) < s.length:=by omega
    obtain ⟨d,ix2,hd⟩:=qnu hn hl
    rw [← hd]at i1 ⊢
    simp only [go_sem,qa,qb,qc,qd,qe,qf,reduceCtorEq,QS,h,ix,d32,d9,d10,h37,sg,hn',ix2,l1,l2,List.length_cons,List.length_nil,ea,Sg.near']at i1 ⊢
    exact i1
   ·have hn': ¬ (((sgn s i c).2:Nat):Int) < s.length:=by omega
    have hno:s[(sgn s i c).2]? =none:=List.getElem?_eq_none (by omega)
    have hf:decide (s[(sgn s i c).2]? =some 40)=false:=by rw [hno];rfl
    rw [hf]at i1 ⊢
    simp only [go_sem,qa,qb,qc,qd,qe,qf,reduceCtorEq,QS,h,ix,d32,d9,d10,h37,sg,hn',l1,l2,List.length_cons,List.length_nil,ea,Sg.near']at i1 ⊢
    exact i1
  ·have h: ¬ (i:Int) < s.length:=by omega
   rw [qpw s _ i (by omega),List.append_nil,List.length_nil,Nat.add_zero]
   simp only [go_sem,qa,qb,qc,qd,qe,qf,reduceCtorEq,QS,h]
def qat(s:Str):V:=if s.length≤3000 then .t [.o 5 ((xB s).map Sg.v),B true]else .t [.o 5 [],B false]
theorem qBL(s:Str):cr qg qeD [S s]=some (qat s):=by
 rw [qo qy2 rfl]
 unfold qat
 by_cases h:s.length≤3000
 ·have h': ¬ (3000:Int) < s.length:=by omega
  have hlp:=qBK s h s.length 0 [] (by omega) (by omega) (Nat.le_refl _)
  simp only [List.nil_append,List.length_nil,List.map_nil,Int.natCast_zero,Nat.zero_add]at hlp
  rw [if_pos h]
  unfold xB
  simp only [go_sem,qa,qb,qc,qd,qe,qf,reduceCtorEq,Xa,h',hlp]
 ·have h':(3000:Int) < s.length:=by omega
  rw [if_neg h]
  simp only [go_sem,qa,qb,qc,qd,qe,qf,reduceCtorEq,Xa,h']
theorem qsN(s:Str):cr qg qgV [S s]=some (qat s):=by
 rw [qo qxY rfl]
 unfold qat
 by_cases h:s.length≤3000
 ·have h': ¬ (3000:Int) < s.length:=by omega
  have hlp:=qsM s h s.length 0 [] (by omega) (by omega) (Nat.le_refl _)
  simp only [List.nil_append,List.length_nil,List.map_nil,Int.natCast_zero,Nat.zero_add]at hlp
  rw [if_pos h]
  unfold xB
  simp only [go_sem,qa,qb,qc,qd,qe,qf,reduceCtorEq,YV,h',hlp]
 ·have h':(3000:Int) < s.length:=by omega
  rw [if_neg h]
  simp only [go_sem,qa,qb,qc,qd,qe,qf,reduceCtorEq,YV,h']
end Go.Vm
namespace Go.Vm
@[go_sem] theorem qRY(x:Sg):zd x.v=true:=(rfl)
@[go_sem] theorem qME(τ:Bool) (x:Sg):zb τ x.v=x.v:=(rfl)
theorem qi9:((1:Nat):Int)=1:=rfl
theorem qz5(s:Str) (h:s.length≤2^40):qD .add (S [39]) (S s)=some (S (39::s))∧qD .add (S (39::s)) (S [39])=some (S (qc1 s)):=
 ⟨zl (by simp only [List.length_cons,List.length_nil];omega),zl (by simp only [List.length_cons,List.length_nil];omega)⟩
theorem qmH(s:Str) (h:s.length≤3000):cr qg Ji [S s]=some (S (xE s)):=by
 have e:=qsN s
 unfold qat at e
 rw [if_pos h]at e
 obtain ⟨q1,q2⟩:=qz5 s (by omega)
 rw [qo qxL rfl]
 unfold xE
 cases hs:xB s with
 |nil=>rw [hs]at e;simp only [go_sem,qa,qb,qc,qd,qe,qf,reduceCtorEq,QF,e,List.map_nil,List.length_nil,Int.reduceEq,decide_false,q1,q2]
 |cons x r=>
  rw [hs]at e
  cases r with
  |cons y r=>
   have hn:decide (((r.length+1+1:Nat):Int)=1)=false:=decide_eq_false (by omega)
   simp only [go_sem,qa,qb,qc,qd,qe,qf,reduceCtorEq,QF,e,List.map_cons,List.length_cons,hn,q1,q2]
  |nil=>
   simp only
   by_cases hk:x.kind=1
   ·have dk:decide (x.kind=1)=true:=decide_eq_true hk
    by_cases ht:x.text=s
    ·have dt:decide (x.text=s)=true:=decide_eq_true ht
     rw [if_pos ⟨hk,ht⟩]
     simp only [go_sem,qa,qb,qc,qd,qe,qf,reduceCtorEq,QF,e,List.map_cons,List.map_nil,List.length_cons,List.length_nil,qi9,Int.reduceEq,decide_true,Sg.v,dk,dt,q1,q2]
    ·have dt:decide (x.text=s)=false:=decide_eq_false ht
     rw [if_neg fun h=>ht h.2]
     simp only [go_sem,qa,qb,qc,qd,qe,qf,reduceCtorEq,QF,e,List.map_cons,List.map_nil,List.length_cons,List.length_nil,qi9,Int.reduceEq,decide_true,Sg.v,dk,dt,q1,q2]
   ·have dk:decide (x.kind=1)=false:=decide_eq_false hk
    rw [if_neg fun h=>hk h.1]
    simp only [go_sem,qa,qb,qc,qd,qe,qf,reduceCtorEq,QF,e,List.map_cons,List.map_nil,List.length_cons,List.length_nil,qi9,Int.reduceEq,decide_true,Sg.v,dk,q1,q2]
theorem qsK(s:Str):cr qg qgU [S s]=some (Qz s):=by
 rw [qo qxV rfl]
 by_cases h1:s=[58,45]
 ·subst h1;simp (decide:=true) only [go_sem,qa,qb,qc,qd,qe,qf,reduceCtorEq,Zn];rfl
 by_cases h2:s=[92,43]
 ·subst h2;simp (decide:=true) only [go_sem,qa,qb,qc,qd,qe,qf,reduceCtorEq,Zn];rfl
 by_cases h3:s=[45]
 ·subst h3;simp (decide:=true) only [go_sem,qa,qb,qc,qd,qe,qf,reduceCtorEq,Zn];rfl
 simp only [go_sem,qa,qb,qc,qd,qe,qf,reduceCtorEq,Zn,h1,h2,h3]
 simp [Qz,zO,h1,h2,h3]
theorem qau(s:Str):cr qg qeB [S s]=some (Qz s):=by
 rw [qo qyZ rfl]
 by_cases h1:s=[58,45]
 ·subst h1;simp (decide:=true) only [go_sem,qa,qb,qc,qd,qe,qf,reduceCtorEq,Zs];rfl
 by_cases h2:s=[92,43]
 ·subst h2;simp (decide:=true) only [go_sem,qa,qb,qc,qd,qe,qf,reduceCtorEq,Zs];rfl
 by_cases h3:s=[45]
 ·subst h3;simp (decide:=true) only [go_sem,qa,qb,qc,qd,qe,qf,reduceCtorEq,Zs];rfl
 simp only [go_sem,qa,qb,qc,qd,qe,qf,reduceCtorEq,Zs,h1,h2,h3]
 simp [Qz,zO,h1,h2,h3]
theorem qsT(s:Str):cr qg qgY [S s]=some (B (qcM s)):=by
 have e1:=J4 s
 have e2:=qsK s
 unfold opV at e1
 unfold Qz at e2
 rw [qo qyi rfl]
 unfold qcM
 cases h1:decide ((qP s).prio ≠ 0)<;>cases h2:decide ((zO s).prio ≠ 0)<;>rw [h1]at e1<;>rw [h2]at e2<;>simp only [go_sem,qa,qb,qc,qd,qe,qf,reduceCtorEq,Ku,e1,e2,Bool.or_true,Bool.or_false,Bool.true_or]
theorem qsX(s:Str) (h:s.length≤3000):cr qg qes [S s]=some (S (QD s)):=by
 have e:=qmH s h
 rw [qo qyt rfl]
 unfold QD
 by_cases h1:s=[44]
 ·have d:decide (s=[44])=true:=decide_eq_true h1
  rw [if_pos h1]
  simp only [go_sem,qa,qb,qc,qd,qe,qf,reduceCtorEq,Y3,d]
  rw [h1]
 ·have d:decide (s=[44])=false:=decide_eq_false h1
  rw [if_neg h1]
  simp only [go_sem,qa,qb,qc,qd,qe,qf,reduceCtorEq,Y3,d,e]
def yE(t:Tm) (s:Str) (n:Int):Bool:=decide (t.kind=4)&&(decide (t.name=s)&&decide ((t.kids.length:Int)=n))
def Qs(t:Tm) (s:Str):Bool:=decide (t.kind=2)&&decide (t.name=s)
theorem qsU(t:Tm) (v:V) (hb:BT t v) (s:Str) (n:Int):cr qg qen [v,S s,I n]=some (B (yE t s n)):=by
 obtain ⟨τ,vs,rfl,hv⟩:=qR hb
 have hl:=qS hv
 rw [qo qyk rfl]
 unfold yE
 cases h1:decide (t.kind=4)<;>cases h2:decide (t.name=s)<;>simp only [go_sem,qa,qb,qc,qd,qe,qf,reduceCtorEq,Kw,h1,h2,hl,Bool.true_and,Bool.false_and]
theorem qwt(t:Tm) (v:V) (hb:BT t v) (s:Str) (n:Int):cr qg qbq [v,S s,I n]=some (B (yE t s n)):=by
 obtain ⟨τ,vs,rfl,hv⟩:=qR hb
 have hl:=qS hv
 rw [qo qze rfl]
 unfold yE
 cases h1:decide (t.kind=4)<;>cases h2:decide (t.name=s)<;>simp only [go_sem,qa,qb,qc,qd,qe,qf,reduceCtorEq,KY,h1,h2,hl,Bool.true_and,Bool.false_and]
theorem qmK(t:Tm) (v:V) (hb:BT t v) (s:Str):cr qg qbi [v,S s]=some (B (Qs t s)):=by
 obtain ⟨τ,vs,rfl,hv⟩:=qR hb
 rw [qo qyg rfl]
 unfold Qs
 cases h1:decide (t.kind=2)<;>simp only [go_sem,qa,qb,qc,qd,qe,qf,reduceCtorEq,Kt,h1,Bool.true_and,Bool.false_and]
theorem qmL(t:Tm) (v:V) (hb:BT t v):cr qg qem [v]=some (B (yE t [46] 2)):=by
 have h:=qsU t v hb [46] 2
 obtain ⟨τ,vs,rfl,hv⟩:=qR hb
 rw [qo qyj rfl]
 simp only [go_sem,qa,qb,qc,qd,qe,qf,reduceCtorEq,Kv,h]
end Go.Vm
namespace Go.Vm
def sg0:Sg:=⟨0,[],0,0,false⟩
def sgD(l:List Sg) (i:Nat):Sg:=l.getD i sg0
def isM(l:List Sg) (i:Nat) (t:Str):Bool:=decide ((sgD l i).kind=4)&&decide ((sgD l i).text=t)
def xL:Tm:= .mk 2 [91,93] 0 []
def xu:List Tm→Tm→Tm
 |[],r=>r
 |t::ts,r=> .mk 4 [46] 0 [t,xu ts r]
def Zl(nm:List Str) (s:Str):Tm × List Str:=
 if s ∈ nm∧s ≠ [95]then (.mk 1 [] (yk s 0 nm) [],nm)else (.mk 1 [] nm.length [],nm++[s])
def XJ(s:Sg) (most q:Int):Bool:=
 decide ((qP s.text).prio ≠ 0)&&((decide (s.kind=4)||(decide (s.kind=1)&& !s.near))&&(decide ((qP s.text).prio≤most)&&decide (q≤(qP s.text).left)))
mutual
def pT(l:List Sg):Nat→Nat→List Str→Nat→Int→Option (Tm × Nat × List Str)
 |0,_,_,_,_=>none
 |n+1,i,nm,d,most=>if 130≤d then none else match pP l n i nm (d+1) most with
  |none=>none
  |some (t,q,i',nm')=>pL l n i' nm' (d+1) most t q
def pL(l:List Sg):Nat→Nat→List Str→Nat→Int→Tm→Int→Option (Tm × Nat × List Str)
 |0,_,_,_,_,_,_=>none
 |n+1,i,nm,d,most,t,q=>if XJ (sgD l i) most q=true then
  match pT l n (i+1) nm d (qP (sgD l i).text).right with
  |none=>none
  |some (y,i',nm')=>pL l n i' nm' d most (.mk 4 (sgD l i).text 0 [t,y]) (qP (sgD l i).text).prio
  else some (t,i,nm)
def pP(l:List Sg):Nat→Nat→List Str→Nat→Int→Option (Tm × Int × Nat × List Str)
 |0,_,_,_,_=>none
 |n+1,i,nm,d,most=>
  if (sgD l i).kind=1∧(sgD l i).near=true then
   match pA l n (i+2) nm d with
   |none=>none
   |some (ks,i',nm')=>if isM l i' [41]=true∧ks.length≤5 then some (.mk 4 (sgD l i).text 0 ks,0,i'+1,nm')else none
  else if isM l i [40]=true then
   if (sgD l (i+1)).kind=1∧isM l (i+2) [41]=true then some (.mk 2 (sgD l (i+1)).text 0 [],0,i+3,nm)
   else match pT l n (i+1) nm d 1200 with
    |none=>none
    |some (t,i',nm')=>if isM l i' [41]=true then some (t,0,i'+1,nm')else none
  else if isM l i [91]=true then
   if isM l (i+1) [93]=true then some (xL,0,i+2,nm)
   else match pA l n (i+1) nm d with
    |none=>none
    |some (ks,i',nm')=>
     if isM l i' [124]=true then
      match pT l n (i'+1) nm' d 999 with
      |none=>none
      |some (r,i2,nm2)=>if isM l i2 [93]=true then some (xu ks r,0,i2+1,nm2)else none
     else if isM l i' [93]=true then some (xu ks xL,0,i'+1,nm')else none
  else if (sgD l i).kind=3 then some (.mk 3 [] (sgD l i).num [],0,i+1,nm)
  else if (sgD l i).kind=2 then some ((Zl nm (sgD l i).text).1,0,i+1,(Zl nm (sgD l i).text).2)
  else if (sgD l i).kind=1∧(sgD l i).text=[45]∧(sgD l (i+1)).kind=3∧(sgD l (i+1)).at_=(sgD l i).at_+1 then some (.mk 3 [] (0 - (sgD l (i+1)).num) [],0,i+2,nm)
  else if (sgD l i).kind=1∧(zO (sgD l i).text).prio ≠ 0∧(zO (sgD l i).text).prio≤most then
   match pT l n (i+1) nm d (zO (sgD l i).text).right with
   |none=>none
   |some (x,i',nm')=>some (.mk 4 (sgD l i).text 0 [x],(zO (sgD l i).text).prio,i',nm')
  else if (sgD l i).kind=1∧(zO (sgD l i).text).prio=0∧(qP (sgD l i).text).prio=0 then some (.mk 2 (sgD l i).text 0 [],0,i+1,nm)
  else none
def pA(l:List Sg):Nat→Nat→List Str→Nat→Option (List Tm × Nat × List Str)
 |0,_,_,_=>none
 |n+1,i,nm,d=>match pT l n i nm d 999 with
  |none=>none
  |some (t,i',nm')=>pB l n i' nm' d [t]
def pB(l:List Sg):Nat→Nat→List Str→Nat→List Tm→Option (List Tm × Nat × List Str)
 |0,_,_,_,_=>none
 |n+1,i,nm,d,acc=>if isM l i [44]=true then
  match pT l n (i+1) nm d 999 with
  |none=>none
  |some (t,i',nm')=>pB l n i' nm' d (acc++[t])
  else some (acc,i,nm)
end
structure GoodL (l:List Sg):Prop where
 len:l.length≤3000
 mark: ∀ i,(sgD l i).kind=4→(sgD l i).text=[40]∨(sgD l i).text=[41]∨(sgD l i).text=[91]∨(sgD l i).text=[93]∨(sgD l i).text=[44]∨(sgD l i).text=[124]
 near: ∀ i,(sgD l i).near=true→isM l (i+1) [40]=true
 text: ∀ i,(sgD l i).text.length≤3000
 num: ∀ i,0≤(sgD l i).num∧(sgD l i).num≤9999999999
 at_: ∀ i,0≤(sgD l i).at_∧(sgD l i).at_≤3000
theorem yW {l:List Sg} {i:Nat} (h:(sgD l i).kind ≠ 0):i < l.length:=by
 by_cases hl:i < l.length
 ·exact hl
 ·exfalso;apply h
  unfold sgD
  rw [List.getD_eq_getElem?_getD,List.getElem?_eq_none (by omega)]
  rfl
theorem ym {l:List Sg} {i:Nat} {t:Str} (h:isM l i t=true):i < l.length∧(sgD l i).kind=4∧(sgD l i).text=t:=by
 unfold isM at h
 simp only [Bool.and_eq_true,decide_eq_true_eq]at h
 exact ⟨yW (by rw [h.1];decide),h.1,h.2⟩
theorem qiv {l:List Sg} {i:Nat} {m q:Int} (h:XJ (sgD l i) m q=true):i < l.length:=by
 unfold XJ at h
 simp only [Bool.and_eq_true,Bool.or_eq_true,decide_eq_true_eq]at h
 rcases h.2.1 with h1|h1
 ·exact yW (by rw [h1];decide)
 ·exact yW (by rw [h1.1];decide)
theorem Qy(l:List Sg): ∀ n:Nat,
 (∀ i nm d most t i' nm',pT l n i nm d most=some (t,i',nm')→i < i'∧i'≤l.length)∧
 (∀ i nm d most t q t' i' nm',i≤l.length→pL l n i nm d most t q=some (t',i',nm')→i≤i'∧i'≤l.length)∧
 (∀ i nm d most t q i' nm',pP l n i nm d most=some (t,q,i',nm')→i < i'∧i'≤l.length)∧
 (∀ i nm d ks i' nm',pA l n i nm d=some (ks,i',nm')→i < i'∧i'≤l.length)∧
 (∀ i nm d acc ks i' nm',i≤l.length→pB l n i nm d acc=some (ks,i',nm')→i≤i'∧i'≤l.length):=by
 intro n
 induction n with
 |zero=>refine ⟨?_, ?_, ?_, ?_, ?_⟩<;>intros<;>simp_all [pT,pL,pP,pA,pB]
 |succ n ih=>
  obtain ⟨hT,hL,hP,hA,hB⟩:=ih
  refine ⟨?_, ?_, ?_, ?_, ?_⟩
  ·intro i nm d most t i' nm' h
   simp only [pT]at h
   split at h
   ·cases h
   split at h
   ·cases h
   ·rename_i t1 q1 i1 nm1 h1
    have a:=hP _ _ _ _ _ _ _ _ h1
    have b:=hL _ _ _ _ _ _ _ _ _ a.2 h
    omega
  ·intro i nm d most t q t' i' nm' hi h
   simp only [pL]at h
   split at h
   ·rename_i hg
    have:=qiv hg
    split at h
    ·cases h
    ·rename_i y i1 nm1 h1
     have a:=hT _ _ _ _ _ _ _ h1
     have b:=hL _ _ _ _ _ _ _ _ _ a.2 h
     omega
   ·cases h;omega
  ·intro i nm d most t q i' nm' h
   simp only [pP]at h
   split at h
   ·rename_i hk
    split at h
    ·cases h
    ·rename_i ks i1 nm1 h1
     have a:=hA _ _ _ _ _ _ h1
     split at h
     ·rename_i hm
      have:=ym hm.1
      cases h;omega
     ·cases h
   split at h
   ·rename_i hk
    have:=ym hk
    split at h
    ·rename_i hk2
     have:=ym hk2.2
     cases h;omega
    ·split at h
     ·cases h
     ·rename_i t1 i1 nm1 h1
      have a:=hT _ _ _ _ _ _ _ h1
      split at h
      ·rename_i hm
       have:=ym hm
       cases h;omega
      ·cases h
   split at h
   ·rename_i hk
    have:=ym hk
    split at h
    ·rename_i hk2
     have:=ym hk2
     cases h;omega
    ·split at h
     ·cases h
     ·rename_i ks i1 nm1 h1
      have a:=hA _ _ _ _ _ _ h1
      split at h
      ·split at h
       ·cases h
       ·rename_i r i2 nm2 h2
        have b:=hT _ _ _ _ _ _ _ h2
        split at h
        ·rename_i hm
         have:=ym hm
         cases h;omega
        ·cases h
      ·split at h
       ·rename_i hm
        have:=ym hm
        cases h;omega
       ·cases h
   split at h
   ·rename_i hk
    have:=yW (l:=l) (i:=i) (by rw [hk];decide)
    cases h;omega
   split at h
   ·rename_i hk
    have:=yW (l:=l) (i:=i) (by rw [hk];decide)
    cases h;omega
   split at h
   ·rename_i hk
    have:=yW (l:=l) (i:=i+1) (by rw [hk.2.2.1];decide)
    cases h;omega
   split at h
   ·rename_i hk
    split at h
    ·cases h
    ·rename_i x i1 nm1 h1
     have a:=hT _ _ _ _ _ _ _ h1
     cases h;omega
   split at h
   ·rename_i hk
    have:=yW (l:=l) (i:=i) (by rw [hk.1];decide)
    cases h;omega
   ·cases h
  ·intro i nm d ks i' nm' h
   simp only [pA]at h
   split at h
   ·cases h
   ·rename_i t i1 nm1 h1
    have a:=hT _ _ _ _ _ _ _ h1
    have b:=hB _ _ _ _ _ _ _ a.2 h
    omega
  ·intro i nm d acc ks i' nm' hi h
   simp only [pB]at h
   split at h
   ·rename_i hm
    have:=ym hm
    split at h
    ·cases h
    ·rename_i t i1 nm1 h1
     have a:=hT _ _ _ _ _ _ _ h1
     have b:=hB _ _ _ _ _ _ _ a.2 h
     omega
   ·cases h;omega
theorem ZX(l:List Sg): ∀ n:Nat,
 (∀ i nm d most t i' nm',pT l n i nm d most=some (t,i',nm')→nm'.length+i≤nm.length+i')∧
 (∀ i nm d most t q t' i' nm',pL l n i nm d most t q=some (t',i',nm')→nm'.length+i≤nm.length+i')∧
 (∀ i nm d most t q i' nm',pP l n i nm d most=some (t,q,i',nm')→nm'.length+i≤nm.length+i')∧
 (∀ i nm d ks i' nm',pA l n i nm d=some (ks,i',nm')→nm'.length+i≤nm.length+i')∧
 (∀ i nm d acc ks i' nm',pB l n i nm d acc=some (ks,i',nm')→nm'.length+i≤nm.length+i'):=by
 intro n
 induction n with
 |zero=>refine ⟨?_, ?_, ?_, ?_, ?_⟩<;>intros<;>simp_all [pT,pL,pP,pA,pB]
 |succ n ih=>
  obtain ⟨hT,hL,hP,hA,hB⟩:=ih
  refine ⟨?_, ?_, ?_, ?_, ?_⟩
  ·intro i nm d most t i' nm' h
   simp only [pT]at h
   split at h
   ·cases h
   split at h
   ·cases h
   ·rename_i t1 q1 i1 nm1 h1
    have a:=hP _ _ _ _ _ _ _ _ h1
    have b:=hL _ _ _ _ _ _ _ _ _ h
    omega
  ·intro i nm d most t q t' i' nm' h
   simp only [pL]at h
   split at h
   ·split at h
    ·cases h
    ·rename_i y i1 nm1 h1
     have a:=hT _ _ _ _ _ _ _ h1
     have b:=hL _ _ _ _ _ _ _ _ _ h
     omega
   ·cases h;omega
  ·intro i nm d most t q i' nm' h
   simp only [pP]at h
   split at h
   ·split at h
    ·cases h
    ·rename_i ks i1 nm1 h1
     have a:=hA _ _ _ _ _ _ h1
     split at h
     ·cases h;omega
     ·cases h
   split at h
   ·split at h
    ·cases h;omega
    ·split at h
     ·cases h
     ·rename_i t1 i1 nm1 h1
      have a:=hT _ _ _ _ _ _ _ h1
      split at h
      ·cases h;omega
      ·cases h
   split at h
   ·split at h
    ·cases h;omega
    ·split at h
     ·cases h
     ·rename_i ks i1 nm1 h1
      have a:=hA _ _ _ _ _ _ h1
      split at h
      ·split at h
       ·cases h
       ·rename_i r i2 nm2 h2
        have b:=hT _ _ _ _ _ _ _ h2
        split at h
        ·cases h;omega
        ·cases h
      ·split at h
       ·cases h;omega
       ·cases h
   split at h
   ·cases h;omega
   split at h
   ·cases h
    unfold Zl
    split
    ·simp only;omega
    ·simp only [List.length_append,List.length_cons,List.length_nil];omega
   split at h
   ·cases h;omega
   split at h
   ·split at h
    ·cases h
    ·rename_i x i1 nm1 h1
     have a:=hT _ _ _ _ _ _ _ h1
     cases h;omega
   split at h
   ·cases h;omega
   ·cases h
  ·intro i nm d ks i' nm' h
   simp only [pA]at h
   split at h
   ·cases h
   ·rename_i t i1 nm1 h1
    have a:=hT _ _ _ _ _ _ _ h1
    have b:=hB _ _ _ _ _ _ _ h
    omega
  ·intro i nm d acc ks i' nm' h
   simp only [pB]at h
   split at h
   ·split at h
    ·cases h
    ·rename_i t i1 nm1 h1
     have a:=hT _ _ _ _ _ _ _ h1
     have b:=hB _ _ _ _ _ _ _ h
     omega
   ·cases h;omega
end Go.Vm
namespace Go.Vm
structure SgP (x:Sg):Prop where
 mark:x.kind=4→x.text=[40]∨x.text=[41]∨x.text=[91]∨x.text=[93]∨x.text=[44]∨x.text=[124]
 text:x.text.length≤3000
 num:0≤x.num∧x.num≤9999999999
 at_:0≤x.at_∧x.at_≤3000
theorem qB7(s:Str) (i j:Nat):(zD s i j).length≤s.length:=by
 unfold zD;simp only [List.length_drop,List.length_take];omega
theorem qBt {s:Str} (hl:s.length≤3000) {i:Nat} {c:UInt8} (hc:s[i]? =some c):SgP (sgn s i c).1∧(sgn s i c).1.near=false:=by
 have hi:i < s.length:=(List.getElem?_eq_some_iff.1 hc).1
 have hs: ∀ a b,(zD s a b).length≤3000:=fun a b=>Nat.le_trans (qB7 s a b) hl
 have mk: ∀ (k:Int) (t:Str) (n:Int),k ≠ 4→t.length≤3000→0≤n→n≤9999999999→SgP ⟨k,t,n,i,false⟩:=fun k t n h1 h2 h3 h4=>
  ⟨fun e=>absurd e h1,h2,⟨h3,h4⟩,by show 0≤(i:Int)∧(i:Int)≤3000;omega⟩
 have hb:SgP (bad s i).1∧(bad s i).1.near=false:=⟨mk 6 _ 0 (by decide) (hs _ _) (by decide) (by decide),rfl⟩
 unfold sgn
 split
 ·split
  ·refine ⟨mk _ _ 0 ?_ (hs _ _) (by decide) (by decide),rfl⟩
   split<;>decide
  ·exact hb
 split
 ·split
  ·have:=qnv (s.drop i) 0 (by decide) (by decide)
   exact ⟨mk 3 [] _ (by decide) (by simp) this.1 this.2,rfl⟩
  ·exact hb
 split
 ·split
  ·exact ⟨mk 1 _ 0 (by decide) (hs _ _) (by decide) (by decide),rfl⟩
  ·exact hb
 split
 ·exact ⟨mk 1 _ 0 (by decide) (hs _ _) (by decide) (by decide),rfl⟩
 split
 ·rename_i h
  refine ⟨⟨fun _=> ?_,hs _ _,⟨Int.le_refl 0,by show (0:Int)≤9999999999;decide⟩,by show 0≤(i:Int)∧(i:Int)≤3000;omega⟩,rfl⟩
  show zD s i (i+1)=[40]∨zD s i (i+1)=[41]∨zD s i (i+1)=[91]∨zD s i (i+1)=[93]∨zD s i (i+1)=[44]∨zD s i (i+1)=[124]
  rw [qkc hc]
  simp only [Bool.or_eq_true]at h
  rcases h with ((((h|h)|h)|h)|h)|h
  ·rw [kr (n:=40) h];left;rfl
  ·rw [kr (n:=41) h];right;left;rfl
  ·rw [kr (n:=91) h];right;right;left;rfl
  ·rw [kr (n:=93) h];right;right;right;left;rfl
  ·rw [kr (n:=44) h];right;right;right;right;left;rfl
  ·rw [kr (n:=124) h];right;right;right;right;right;rfl
 split
 ·exact ⟨mk 5 _ 0 (by decide) (hs _ _) (by decide) (by decide),rfl⟩
 split
 ·split
  ·exact ⟨mk 1 _ 0 (by decide) (hs _ _) (by decide) (by decide),rfl⟩
  ·exact hb
 ·exact hb
theorem qjR(x:Sg) (l:List Sg) (k:Nat):sgD (x::l) (k+1)=sgD l k:=by
 unfold sgD;simp [List.getD_eq_getElem?_getD]
theorem qpv(x:Sg) (l:List Sg):sgD (x::l) 0=x:=rfl
theorem qgx {s:Str} (hl:s.length≤3000): ∀ (n i:Nat),∀ x ∈ sgs s n i,SgP x
 |0,i,x,h=>by simp [sgs]at h
 |n+1,i,x,h=>by
  simp only [sgs]at h
  split at h
  ·cases h
  ·rename_i c hc
   split at h
   ·exact qgx hl n _ x h
   split at h
   ·exact qgx hl n _ x h
   ·rcases List.mem_cons.1 h with h|h
    ·subst h
     have:=(qBt hl hc).1
     exact ⟨this.mark,this.text,this.num,this.at_⟩
    ·exact qgx hl n _ x h
theorem qBs {s:Str} {e:Nat} (h:s[e]? =some 40):(sgn s e 40).1=⟨4,[40],0,e,false⟩:=by
 have h1:(inB 97 122 40||yK 40)=false:=by decide
 have h2:inB 48 57 40=false:=by decide
 have h3:isB 39 40=false:=by decide
 have h4:(isB 33 40||isB 59 40)=false:=by decide
 have h5:(isB 40 40||isB 41 40||isB 91 40||isB 93 40||isB 44 40||isB 124 40)=true:=by decide
 unfold sgn
 rw [h1,h2,h3,h4,h5,qkc h]
 rfl
theorem qgz {s:Str} (hl:s.length≤3000): ∀ (n i:Nat),s.length≤i+n→i≤s.length→ ∀ k,(sgD (sgs s n i) k).near=true→isM (sgs s n i) (k+1) [40]=true
 |0,i,hn,hi,k,h=>by simp [sgs,sgD,sg0]at h
 |n+1,i,hn,hi,k,h=>by
  simp only [sgs]at h ⊢
  split at h
  ·simp [sgD,sg0]at h
  ·rename_i c hc
   have hlt:i < s.length:=(List.getElem?_eq_some_iff.1 hc).1
   split at h
   ·rename_i hb
    rw [if_pos hb]
    exact qgz hl n (i+1) (by omega) (by omega) k h
   rename_i hb
   rw [if_neg hb]
   split at h
   ·rename_i h37
    have hp:=jU (p:=fun d=> !isB 10 d) (s:=s) (i:=i) (by omega)
    have hp1:1≤pre (fun d=> !isB 10 d) (s.drop i):=qah hc (by have:=kr (n:=37) h37;subst this;rfl)
    rw [if_pos h37]
    exact qgz hl n _ (by omega) hp k h
   ·rename_i h37
    rw [if_neg h37]
    obtain ⟨g1,g2⟩:=qjU s i c hc
    cases k with
    |zero=>
     rw [qpv]at h
     have h40:s[(sgn s i c).2]? =some 40:=of_decide_eq_true h
     have hlt2:(sgn s i c).2 < s.length:=(List.getElem?_eq_some_iff.1 h40).1
     cases n with
     |zero=>omega
     |succ n=>
      unfold isM
      rw [qjR]
      have b1:jo 40=false:=by decide
      have b2:isB 37 40=false:=by decide
      simp only [sgs,h40,b1,b2,Bool.false_eq_true,if_false,qpv,Sg.near',qBs h40]
      decide
    |succ k=>
     rw [qjR]at h
     have:=qgz hl n (sgn s i c).2 (by omega) g2 k h
     unfold isM at this ⊢
     rw [qjR]
     exact this
theorem qmB {s:Str} (hl:s.length≤3000):GoodL (xB s):=by
 have hP: ∀ i,SgP (sgD (xB s) i):=by
  intro i
  unfold sgD
  rw [List.getD_eq_getElem?_getD]
  cases h:(xB s)[i]? with
  |none=>exact ⟨fun e=>absurd e (by decide),by simp [sg0],⟨by decide,by decide⟩,⟨by decide,by decide⟩⟩
  |some x=>exact qgx hl _ _ x (List.mem_of_getElem? h)
 exact ⟨Nat.le_trans (qgy s _ _) hl,fun i=>(hP i).mark,fun i h=>qgz hl s.length 0 (by omega) (by omega) i h,fun i=>(hP i).text,fun i=>(hP i).num,fun i=>(hP i).at_⟩
end Go.Vm
namespace Go.Vm
theorem xN {l:List Sg} {i:Nat} (h:i < l.length):l[i]? =some (sgD l i):=by
 unfold sgD;rw [List.getD_eq_getElem?_getD,List.getElem?_eq_getElem h];rfl
theorem qjS {l:List Sg} {i:Nat} (h:l.length≤i):sgD l i=sg0:=by
 unfold sgD;rw [List.getD_eq_getElem?_getD,List.getElem?_eq_none h];rfl
end Go.Vm
namespace Go.Vm
def isK(l:List Sg) (i:Nat) (k:Int) (t:Str):Bool:=decide (i < l.length)&&(decide ((sgD l i).kind=k)&&(decide (t=[])||decide ((sgD l i).text=t)))
theorem qfM(l:List Sg) (i:Nat) (t:Str) (ht:t ≠ []):isK l i 4 t=isM l i t:=by
 unfold isK isM
 rw [decide_eq_false ht,Bool.false_or]
 by_cases h:i < l.length
 ·rw [decide_eq_true h,Bool.true_and]
 ·rw [decide_eq_false h,Bool.false_and,qjS (by omega)];rfl
theorem yl(l:List Sg) (i:Nat) (k:Int) (hk:k ≠ 0):isK l i k []=decide ((sgD l i).kind=k):=by
 unfold isK
 by_cases h:i < l.length
 ·rw [decide_eq_true h,Bool.true_and];simp
 ·rw [decide_eq_false h,Bool.false_and,qjS (by omega)]
  exact (decide_eq_false fun e=>hk e.symm).symm
theorem zR(l:List Sg) (τ:Bool) (hl:l.length≤3000) (a:Nat) (ha:a≤2^40) (nv:V) (d:Int) (b:Bool) (k:Int) (t:Str):
 cr qg QN [.q true [.a [.i τ (l.map Sg.v),I a,B b,I (d),nv]] 0 0,I k,S t]=some (B (!b&&isK l a k t)):=by
 rw [qo qzu rfl]
 unfold isK
 cases b with
 |true=>simp only [go_sem,qa,qb,qc,qd,qe,qf,reduceCtorEq,QJ,Bool.not_true,Bool.false_and]
 |false=>
  by_cases h:a < l.length
  ·have h':(a:Int) < (l.length:Int):=by omega
   rw [decide_eq_true h]
   have hg:=xN h
   have g:=zu (f:=Sg.v) hg
   have a1:=fun T=>qZ (τ:=τ) (T:=T) (e:=5) g rfl
   rw [Sg.v]at g
   cases hk:decide ((sgD l a).kind=k)with
   |false=>simp only [go_sem,qa,qb,qc,qd,qe,qf,reduceCtorEq,QJ,h',List.length_map,a1,g,Sg.v,hk,Bool.not_false,Bool.true_and,Bool.false_and]
   |true=>
    cases ht:decide (t=[])with
    |true=>simp only [go_sem,qa,qb,qc,qd,qe,qf,reduceCtorEq,QJ,h',List.length_map,a1,g,Sg.v,hk,ht,Bool.not_false,Bool.true_and,Bool.true_or]
    |false=>simp only [go_sem,qa,qb,qc,qd,qe,qf,reduceCtorEq,QJ,h',List.length_map,a1,g,Sg.v,hk,ht,Bool.not_false,Bool.true_and,Bool.false_or]
  ·have h': ¬ (a:Int) < (l.length:Int):=by omega
   rw [decide_eq_false h]
   simp only [go_sem,qa,qb,qc,qd,qe,qf,reduceCtorEq,QJ,h',List.length_map,Bool.not_false,Bool.true_and,Bool.false_and]
theorem xP(l:List Sg) (τ:Bool) (hl:l.length≤3000) (a:Nat) (ha:a≤2^40) (nm:List Str) (d:Int) (t:Str) (ht:t ≠ []) (hm:isM l a t=true):
 cw qg QO [.b (.a [.i τ (l.map Sg.v),I a,B false,I (d),.o 1 (List.map S nm)]),S t]=some (B true,[.b (.a [.i τ (l.map Sg.v),I ((a+1:Nat):Int),B false,I (d),.o 1 (List.map S nm)]),S t]):=by
 have s:=zR l τ hl a ha (.i true (nm.map S)) d false 4 t
 have e1:w64 ((a:Int)+1)=((a+1:Nat):Int):=by rw [qm]<;>omega
 rw [qfM l a t ht,hm]at s
 rw [qI qnX rfl]
 simp only [go_sem,qa,qb,qc,qd,qe,qf,reduceCtorEq,Xg,qw,s,e1,Bool.not_false,Bool.true_and]
theorem xC(l:List Sg) (τ:Bool) (hl:l.length≤3000) (a:Nat) (ha:a≤2^40) (nm:List Str) (d:Int) (b:Bool) (t:Str) (ht:t ≠ []) (hm:(!b&&isM l a t)=false):
 cw qg QO [.b (.a [.i τ (l.map Sg.v),I a,B b,I (d),.o 1 (List.map S nm)]),S t]=some (B false,[.b (.a [.i τ (l.map Sg.v),I a,B b,I (d),.o 1 (List.map S nm)]),S t]):=by
 have s:=zR l τ hl a ha (.i true (nm.map S)) d b 4 t
 rw [qfM l a t ht,hm]at s
 rw [qI qnX rfl]
 simp only [go_sem,qa,qb,qc,qd,qe,qf,reduceCtorEq,Xg,qw,s]
theorem qgB(l:List Sg) (τ:Bool) (hl:l.length≤3000) (a:Nat) (ha:a≤2^40) (nm:List Str) (d:Int) (t:Str) (ht:t ≠ []) (hm:isM l a t=true):
 cw qg Qh [.b (.a [.i τ (l.map Sg.v),I a,B false,I (d),.o 1 (List.map S nm)]),S t]=some (.t [],[.b (.a [.i τ (l.map Sg.v),I ((a+1:Nat):Int),B false,I (d),.o 1 (List.map S nm)]),S t]):=by
 have s:=xP l τ hl a ha nm d t ht hm
 rw [qI qn0 rfl]
 simp only [go_sem,qa,qb,qc,qd,qe,qf,reduceCtorEq,Xh,qw,s]
theorem qaw(l:List Sg) (τ:Bool) (hl:l.length≤3000) (a:Nat) (ha:a≤2^40) (nm:List Str) (d:Int) (b:Bool) (t:Str) (ht:t ≠ []) (hm:(!b&&isM l a t)=false):
 cw qg Qh [.b (.a [.i τ (l.map Sg.v),I a,B b,I (d),.o 1 (List.map S nm)]),S t]=some (.t [],[.b (.a [.i τ (l.map Sg.v),I a,B true,I (d),.o 1 (List.map S nm)]),S t]):=by
 have s:=xC l τ hl a ha nm d b t ht hm
 rw [qI qn0 rfl]
 simp only [go_sem,qa,qb,qc,qd,qe,qf,reduceCtorEq,Xh,qw,s]
theorem qCk(l:List Sg) (τ:Bool) (a:Int) (nm:List Str) (d:Int) (b:Bool) (s:Str) (k:Nat) (hs:nm[k]? =some s):
 lw qg jF ⟨[(0,.p (0,0) 0 0),(1,S s),(4,.p (100000,0) 0 0),(5,I k)],[((0,0),5,[.a [.i τ (l.map Sg.v),I a,B b,I (d),.o 1 (List.map S nm)]]),((100000,0),4,[.a [I 0,S [],I 0,.s (100000,1) 0 0]]),((100000,1),4,[])]⟩=some (.ret,⟨[(0,.p (0,0) 0 0),(4,.p (100000,0) 0 0)],[((100000,0),4,[.a [I 1,S [],I (k),.s (27,0) 0 0]]),((27,0),4,[]),((12,0),1,nm.map S),((0,0),5,[.a [.i τ (l.map Sg.v),I a,B b,I d,.s (12,0) 0 nm.length]]),((100000,1),4,[])]⟩):=by
 have hk:=(List.getElem?_eq_some_iff.1 hs).1
 have h1:(k:Int) < (nm.length:Int):=by omega
 have g:=zu (f:=S) hs
 have ix:=x3 (k:=(12,0)) (e:=1) (xs:=nm.map S) (i:=k) (len:=nm.length) hk (by simp)
 have vk:=qdh (k:Int)
 rw [zj]at vk
 rw [ql]
 simp only [go_sem,qa,qb,qc,qd,qe,qf,reduceCtorEq,Yw,List.length_map,h1,ix,g,vk]
theorem qCl(l:List Sg) (τ:Bool) (a:Int) (nm:List Str) (d:Int) (b:Bool) (s:Str) (k:Nat) (hk3:nm.length≤2^30) (x:Str) (hs:nm[k]? =some x) (hx:x ≠ s):
 lw qg jF ⟨[(0,.p (0,0) 0 0),(1,S s),(4,.p (100000,0) 0 0),(5,I k)],[((0,0),5,[.a [.i τ (l.map Sg.v),I a,B b,I (d),.o 1 (List.map S nm)]]),((100000,0),4,[.a [I 0,S [],I 0,.s (100000,1) 0 0]]),((100000,1),4,[])]⟩=lw qg jF ⟨[(0,.p (0,0) 0 0),(1,S s),(4,.p (100000,0) 0 0),(5,I ((k+1:Nat):Int))],[((0,0),5,[.a [.i τ (l.map Sg.v),I a,B b,I d,.s (100000,1) 0 nm.length]]),((100000,0),4,[.a [I 0,S [],I 0,.s (100000,2) 0 0]]),((100000,1),1,nm.map S),((100000,2),4,[])]⟩:=by
 have hk:=(List.getElem?_eq_some_iff.1 hs).1
 have h1:(k:Int) < (nm.length:Int):=by omega
 have g:=zu (f:=S) hs
 have ix:=x3 (k:=(12,0)) (e:=1) (xs:=nm.map S) (i:=k) (len:=nm.length) hk (by simp)
 have dx:decide (x=s)=false:=decide_eq_false hx
 have e1:w64 ((k:Int)+1)=((k+1:Nat):Int):=by rw [qm]<;>omega
 rw [ql]
 simp only [go_sem,qa,qb,qc,qd,qe,qf,reduceCtorEq,Yw,List.length_map,h1,ix,g,dx,e1]
theorem qCj(l:List Sg) (τ:Bool) (a:Int) (nm:List Str) (d:Int) (b:Bool) (s:Str) (k:Nat) (hk: ¬ k < nm.length):
 lw qg jF ⟨[(0,.p (0,0) 0 0),(1,S s),(4,.p (100000,0) 0 0),(5,I k)],[((0,0),5,[.a [.i τ (l.map Sg.v),I a,B b,I (d),.o 1 (List.map S nm)]]),((100000,0),4,[.a [I 0,S [],I 0,.s (100000,1) 0 0]]),((100000,1),4,[])]⟩=some (.exit 0,⟨[(0,.p (0,0) 0 0),(1,S s),(4,.p (100000,0) 0 0)],[((12,0),1,nm.map S),((0,0),5,[.a [.i τ (l.map Sg.v),I a,B b,I d,.s (12,0) 0 nm.length]]),((100000,0),4,[.a [I 0,S [],I 0,.s (100000,1) 0 0]]),((100000,1),4,[])]⟩):=by
 have h1: ¬ (k:Int) < (nm.length:Int):=by omega
 rw [ql]
 simp only [go_sem,qa,qb,qc,qd,qe,qf,reduceCtorEq,Yw,List.length_map,h1]
theorem qp2(l:List Sg) (τ:Bool) (a:Int) (nm:List Str) (d:Int) (b:Bool) (s:Str) (hk3:nm.length≤2^30): ∀ (r:List Str) (k:Nat),nm.drop k=r→k+r.length=nm.length→
 (s ∈ r→lw qg jF ⟨[(0,.p (0,0) 0 0),(1,S s),(4,.p (100000,0) 0 0),(5,I k)],[((0,0),5,[.a [.i τ (l.map Sg.v),I a,B b,I d,.s (100000,1) 0 nm.length]]),((100000,0),4,[.a [I 0,S [],I 0,.s (100000,2) 0 0]]),((100000,1),1,nm.map S),((100000,2),4,[])]⟩=some (.ret,⟨[(0,.p (0,0) 0 0),(4,.p (100000,0) 0 0)],[((100000,0),4,[.a [I 1,S [],I (yk s k r),.s (27,0) 0 0]]),((27,0),4,[]),((0,0),5,[.a [.i τ (l.map Sg.v),I a,B b,I d,.s (100000,1) 0 nm.length]]),((100000,1),1,nm.map S),((100000,2),4,[])]⟩))∧(s ∉ r→lw qg jF ⟨[(0,.p (0,0) 0 0),(1,S s),(4,.p (100000,0) 0 0),(5,I k)],[((0,0),5,[.a [.i τ (l.map Sg.v),I a,B b,I d,.s (100000,1) 0 nm.length]]),((100000,0),4,[.a [I 0,S [],I 0,.s (100000,2) 0 0]]),((100000,1),1,nm.map S),((100000,2),4,[])]⟩=some (.exit 0,⟨[(0,.p (0,0) 0 0),(1,S s),(4,.p (100000,0) 0 0)],[((0,0),5,[.a [.i τ (l.map Sg.v),I a,B b,I d,.s (100000,1) 0 nm.length]]),((100000,0),4,[.a [I 0,S [],I 0,.s (100000,2) 0 0]]),((100000,1),1,nm.map S),((100000,2),4,[])]⟩))
 |[],k,h,hl=>by
  refine ⟨fun h=>(by cases h),fun _=> ?_⟩
  have h1: ¬ (k:Int) < (nm.length:Int):=by simp only [List.length_nil]at hl;omega
  rw [ql]
  simp only [go_sem,qa,qb,qc,qd,qe,qf,reduceCtorEq,Yw,List.length_map,h1]
 |x::r,k,h,hl=>by
  simp only [List.length_cons]at hl
  have hs:nm[k]? =some x:=by
   have:=congrArg (fun z=>z[0]?) h
   simpa using this
  have hd:nm.drop (k+1)=r:=by
   have:=congrArg (fun z=>z.drop 1) h
   simpa [List.drop_drop,Nat.add_comm]using this
  have hk:=(List.getElem?_eq_some_iff.1 hs).1
  have h1:(k:Int) < (nm.length:Int):=by omega
  have g:=zu (f:=S) hs
  have ix:=x3 (k:=(100000,1)) (e:=1) (xs:=nm.map S) (i:=k) (len:=nm.length) hk (by simp)
  by_cases hx:x=s
  ·subst hx
   have ii:yk x k (x::r)=(k:Int):=by simp [yk]
   refine ⟨fun _=> ?_,fun h=>absurd List.mem_cons_self h⟩
   have vk:=qdh (k:Int)
   rw [zj]at vk
   rw [ii,ql]
   simp only [go_sem,qa,qb,qc,qd,qe,qf,reduceCtorEq,Yw,List.length_map,h1,ix,g,vk]
  ·have ii:yk s k (x::r)=yk s (k+1) r:=by
    simp only [yk];rw [if_neg fun e=>hx e.symm]
   have mm:s ∈ x::r↔s ∈ r:=by
    rw [List.mem_cons]
    exact ⟨fun h=>h.elim (fun e=>absurd e.symm hx) id,.inr⟩
   have st:lw qg jF ⟨[(0,.p (0,0) 0 0),(1,S s),(4,.p (100000,0) 0 0),(5,I k)],[((0,0),5,[.a [.i τ (l.map Sg.v),I a,B b,I d,.s (100000,1) 0 nm.length]]),((100000,0),4,[.a [I 0,S [],I 0,.s (100000,2) 0 0]]),((100000,1),1,nm.map S),((100000,2),4,[])]⟩=lw qg jF ⟨[(0,.p (0,0) 0 0),(1,S s),(4,.p (100000,0) 0 0),(5,I ((k+1:Nat):Int))],[((0,0),5,[.a [.i τ (l.map Sg.v),I a,B b,I d,.s (100000,1) 0 nm.length]]),((100000,0),4,[.a [I 0,S [],I 0,.s (100000,2) 0 0]]),((100000,1),1,nm.map S),((100000,2),4,[])]⟩:=by
    have dx:decide (x=s)=false:=decide_eq_false hx
    have e1:w64 ((k:Int)+1)=((k+1:Nat):Int):=by rw [qm]<;>omega
    rw [ql]
    simp only [go_sem,qa,qb,qc,qd,qe,qf,reduceCtorEq,Yw,List.length_map,h1,ix,g,dx,e1]
   have ih:=qp2 l τ a nm d b s hk3 r (k+1) hd (by omega)
   rw [mm,ii,st]
   exact ih
theorem qBV(l:List Sg) (τ:Bool) (a:Int) (nm:List Str) (hn:nm.length≤2^30) (d:Int) (b:Bool) (s:Str):
 cw qg qhv [.b (.a [.i τ (l.map Sg.v),I a,B b,I (d),.o 1 (List.map S nm)]),S s]=some (oT (Zl nm s).1,[.b (.a [.i τ (l.map Sg.v),I a,B b,I (d),.o 1 (List.map S ((Zl nm s).2))]),S s]):=by
 have l1:decide ((nm.length+1)*16≤lim)=true:=decide_eq_true (by rw [qM];omega)
 have l2:decide (nm.length+1≤lim)=true:=decide_eq_true (by rw [qM];omega)
 have tk:((nm++[s]).map S).take (nm.length+1)=(nm++[s]).map S:=List.take_of_length_le (by simp)
 have tk0:(nm.map S).take nm.length=nm.map S:=List.take_of_length_le (by simp)
 have e1:w64 ((nm.length+1:Nat) - 1:Int)=(nm.length:Int):=by rw [qm]<;>omega
 have vk:=qdh (nm.length:Int)
 rw [zj]at vk
 rw [qI qzx rfl]
 unfold Zl
 by_cases h95:s=[95]
 ·have d95:decide (s=[95])=true:=decide_eq_true h95
  rw [if_neg fun h=>h.2 h95]
  rw [zj]
  simp only [go_sem,qa,qb,qc,qd,qe,qf,reduceCtorEq,QL,qw,d95,vk,l1,l2,tk,tk0,e1,List.length_cons,List.length_nil]
 have d95:decide (s=[95])=false:=decide_eq_false h95
 by_cases h0:nm=[]
 ·have lp:=qCj l τ a nm d b s 0 (by rw [h0];simp)
  simp only [Int.natCast_zero]at lp
  rw [if_neg fun h=>by rw [h0]at h;cases h.1]
  rw [zj]
  simp only [go_sem,qa,qb,qc,qd,qe,qf,reduceCtorEq,QL,qw,d95,lp,vk,l1,l2,tk,tk0,e1,List.length_cons,List.length_nil]
 obtain ⟨x,r,hnm⟩:=List.exists_cons_of_ne_nil h0
 have hx0:nm[0]? =some x:=by rw [hnm];rfl
 by_cases hx:x=s
 ·subst hx
  have lp:=qCk l τ a nm d b x 0 hx0
  simp only [Int.natCast_zero]at lp
  have ii:yk x 0 nm=0:=by rw [hnm];simp [yk]
  have hm:x ∈ nm:=by rw [hnm];exact List.mem_cons_self
  rw [if_pos ⟨hm,h95⟩,ii]
  rw [zj]
  simp only [go_sem,qa,qb,qc,qd,qe,qf,reduceCtorEq,QL,qw,d95,lp,tk0]
 ·have lp:=qCl l τ a nm d b s 0 hn x hx0 hx
  have ii:yk s 0 nm=yk s 1 r:=by
   rw [hnm];simp only [yk];rw [if_neg fun e=>hx e.symm]
  have mm:s ∈ nm↔s ∈ r:=by
   rw [hnm,List.mem_cons]
   exact ⟨fun h=>h.elim (fun e=>absurd e.symm hx) id,.inr⟩
  obtain ⟨b1,b2⟩:=qp2 l τ a nm d b s hn r 1 (by rw [hnm];rfl) (by rw [hnm,List.length_cons];omega)
  by_cases hm:s ∈ r
  ·have lp2:=lp.trans (b1 hm)
   simp only [Int.natCast_zero]at lp2
   rw [if_pos ⟨mm.2 hm,h95⟩,ii]
   rw [zj]
   simp only [go_sem,qa,qb,qc,qd,qe,qf,reduceCtorEq,QL,qw,d95,lp2,tk0]
  ·have lp2:=lp.trans (b2 hm)
   simp only [Int.natCast_zero]at lp2
   rw [if_neg fun h=>hm (mm.1 h.1)]
   rw [zj]
   simp only [go_sem,qa,qb,qc,qd,qe,qf,reduceCtorEq,QL,qw,d95,lp2,vk,l1,l2,tk,tk0,e1,List.length_cons,List.length_nil]
end Go.Vm
set_option maxHeartbeats 16000000
namespace Go.Vm
def GB(G:Mem):Prop:=G=[]∨ ∃ (s1 s2:Str) (a1 a2 a3 a4 a5 a6:Int) (b1:Bool),G=[((8,0),4,[.a [S s1,I a1,I a2,I a3]]),((7,0),5,[.a [I a4,S s2,I a5,I a6,B b1]])]
def qC2(l:List Sg) (τ:Bool) (m:Nat) (cs:List V):Prop:= ∃ (a:Nat) (nm:List Str) (d:Int),a≤m∧cs=[.i τ (l.map Sg.v),I a,.o 1 (nm.map S),I d,B true]
end Go.Vm
namespace Go.Vm
def GBs(G:Mem):Prop:=G=[]∨ ∃ (s1:Str) (a1 a2 a3:Int),G=[((7,0),4,[.a [S s1,I a1,I a2,I a3]])]
def qgM(l:List Sg) (τ:Bool) (m:Nat) (cs:List V):Prop:= ∃ (a:Nat) (nm:List Str) (d:Int),a≤m∧cs=[.i τ (l.map Sg.v),I a,B true,I d,.o 1 (nm.map S)]
def ST(l:List Sg) (τ:Bool) (n:Nat):Prop:= ∀ (i:Nat) (nm:List Str) (d:Nat) (most:Int),4*(l.length - i)+4≤n→i≤l.length→nm.length≤i→d≤130→
 (∀ t i' nm',pT l n i nm d most=some (t,i',nm')→cw qg yc [.b (.a [.i τ (l.map Sg.v),I i,B false,I (d),.o 1 (List.map S nm)]),I most]=some (oT t,[.b (.a [.i τ (l.map Sg.v),I i',B false,I (d),.o 1 (List.map S nm')]),I most]))∧
 (pT l n i nm d most=none→ ∃ g cs,qgM l τ (l.length+8*n) cs∧cw qg yc [.b (.a [.i τ (l.map Sg.v),I i,B false,I (d),.o 1 (List.map S nm)]),I most]=some (oT g,[.b (.a cs),I most]))
def SL(l:List Sg) (τ:Bool) (n:Nat):Prop:= ∀ (i:Nat) (nm:List Str) (d:Nat) (most:Int) (t:Tm) (q:Int),4*(l.length - i)+1≤n→i≤l.length→nm.length≤i→d≤130→
 (∀ t' i' nm',pL l n i nm d most t q=some (t',i',nm')→ ∃ G,GBs G∧lw qg QR ⟨[(0,.p (0,0) 0 0),(1,I most),(4,.p (100000,0) 0 0),(5,.p (100000,1) 0 0),(6,I q)],[((0,0),5,[.a [.i τ (l.map Sg.v),I i,B false,I (d),.o 1 (List.map S nm)]]),((100000,0),4,[.a [I 0,S [],I 0,.s (100000,2) 0 0]]),((100000,1),4,[.a [I (Tm.kind t),S (Tm.name t),I (Tm.num t),.s (100000,3) 0 (Tm.kids t).length]]),((100000,2),4,[]),((100000,3),4,(Tm.kids t).map oT)]⟩=some (.exit 0,⟨[(0,.p (0,0) 0 0),(4,.p (100000,0) 0 0),(5,.p (100000,1) 0 0)],G++[((0,0),5,[.a [.i τ (l.map Sg.v),I i',B false,I (d),.o 1 (List.map S nm')]]),((100000,0),4,[.a [I 0,S [],I 0,.s (100000,2) 0 0]]),((100000,1),4,[.a [I (Tm.kind t'),S (Tm.name t'),I (Tm.num t'),.s (100000,3) 0 (Tm.kids t').length]]),((100000,2),4,[]),((100000,3),4,(Tm.kids t').map oT)]⟩))∧
 (pL l n i nm d most t q=none→ ∃ (g:Tm) (a:Nat) (nm':List Str) (d':Int) (G:Mem),a≤l.length+8*n∧GBs G∧lw qg QR ⟨[(0,.p (0,0) 0 0),(1,I most),(4,.p (100000,0) 0 0),(5,.p (100000,1) 0 0),(6,I q)],[((0,0),5,[.a [.i τ (l.map Sg.v),I i,B false,I (d),.o 1 (List.map S nm)]]),((100000,0),4,[.a [I 0,S [],I 0,.s (100000,2) 0 0]]),((100000,1),4,[.a [I (Tm.kind t),S (Tm.name t),I (Tm.num t),.s (100000,3) 0 (Tm.kids t).length]]),((100000,2),4,[]),((100000,3),4,(Tm.kids t).map oT)]⟩=some (.exit 0,⟨[(0,.p (0,0) 0 0),(4,.p (100000,0) 0 0),(5,.p (100000,1) 0 0)],G++[((0,0),5,[.a [.i τ (l.map Sg.v),I a,B true,I (d'),.o 1 (List.map S nm')]]),((100000,0),4,[.a [I 0,S [],I 0,.s (100000,2) 0 0]]),((100000,1),4,[.a [I (Tm.kind g),S (Tm.name g),I (Tm.num g),.s (100000,3) 0 (Tm.kids g).length]]),((100000,2),4,[]),((100000,3),4,(Tm.kids g).map oT)]⟩))
def SP(l:List Sg) (τ:Bool) (n:Nat):Prop:= ∀ (i:Nat) (nm:List Str) (d:Nat) (most:Int),4*(l.length - i)+3≤n→i≤l.length→nm.length≤i→d≤130→
 (∀ t q i' nm',pP l n i nm d most=some (t,q,i',nm')→cw qg Qg [.b (.a [.i τ (l.map Sg.v),I i,B false,I (d),.o 1 (List.map S nm)]),I most]=some (.t [oT t,I q],[.b (.a [.i τ (l.map Sg.v),I i',B false,I (d),.o 1 (List.map S nm')]),I most]))∧
 (pP l n i nm d most=none→ ∃ g q cs,qgM l τ (l.length+8*n) cs∧cw qg Qg [.b (.a [.i τ (l.map Sg.v),I i,B false,I (d),.o 1 (List.map S nm)]),I most]=some (.t [oT g,I q],[.b (.a cs),I most]))
def XM(l:List Sg) (i:Nat):Bool:=isM l i [44]||(decide ((sgD l i).kind=1)&& !(sgD l i).near)
theorem qBO(l:List Sg) (τ:Bool) (hl:l.length≤3000) (a:Nat) (ha:a≤2^40) (nv:V) (d:Int) (h:XM l a=true):
 cr qg qeH [.q true [.a [.i τ (l.map Sg.v),I a,B false,I (d),nv]] 0 0]=some (opV (sgD l a).text):=by
 have s1:=zR l τ hl a ha nv d false 4 [44]
 have s2:=zR l τ hl a ha nv d false 1 []
 rw [qfM l a [44] (by decide)]at s1
 rw [yl l a 1 (by decide)]at s2
 rw [qo qnW rfl]
 cases hm:isM l a [44]with
 |true=>
  rw [hm]at s1
  have ht:(sgD l a).text=[44]:=(ym hm).2.2
  have inf:=YO [44]
  unfold opV at inf ⊢
  rw [ht]
  simp only [go_sem,qa,qb,qc,qd,qe,qf,reduceCtorEq,Zw,s1,inf,Bool.not_false,Bool.true_and]
 |false=>
  rw [hm]at s1
  unfold XM at h
  rw [hm,Bool.false_or]at h
  simp only [Bool.and_eq_true,decide_eq_true_eq,Bool.not_eq_true']at h
  obtain ⟨hk,hn⟩:=h
  have hlt:a < l.length:=yW (by rw [hk];decide)
  have h':(a:Int) < (l.length:Int):=by omega
  have hg:=xN hlt
  have g:=zu (f:=Sg.v) hg
  have a1:=fun T=>qZ (τ:=τ) (T:=T) (e:=5) g rfl
  rw [Sg.v,hn]at g
  rw [decide_eq_true hk]at s2
  have inf:=YO (sgD l a).text
  unfold opV at inf ⊢
  simp only [go_sem,qa,qb,qc,qd,qe,qf,reduceCtorEq,Zw,s1,s2,inf,a1,g,Bool.not_false,Bool.true_and,Bool.and_false]
theorem qBN(l:List Sg) (τ:Bool) (hl:l.length≤3000) (a:Nat) (ha:a≤2^40) (nv:V) (d:Int) (h:XM l a=false):
 cr qg qeH [.q true [.a [.i τ (l.map Sg.v),I a,B false,I (d),nv]] 0 0]=some (.t [.a [S [],I 0,I 0,I 0],B false]):=by
 have s1:=zR l τ hl a ha nv d false 4 [44]
 have s2:=zR l τ hl a ha nv d false 1 []
 rw [qfM l a [44] (by decide)]at s1
 rw [yl l a 1 (by decide)]at s2
 unfold XM at h
 simp only [Bool.or_eq_false_iff,Bool.and_eq_false_iff,decide_eq_false_iff_not,Bool.not_eq_false']at h
 obtain ⟨hm,hk⟩:=h
 rw [hm]at s1
 rw [qo qnW rfl]
 by_cases k1:(sgD l a).kind=1
 ·have hn:(sgD l a).near=true:=by
   rcases hk with h|h
   ·exact absurd k1 h
   ·exact h
  have hlt:a < l.length:=yW (by rw [k1];decide)
  have hg:=xN hlt
  have g:=zu (f:=Sg.v) hg
  have a1:=fun T=>qZ (τ:=τ) (T:=T) (e:=5) g rfl
  rw [Sg.v,hn]at g
  rw [decide_eq_true k1]at s2
  simp only [go_sem,qa,qb,qc,qd,qe,qf,reduceCtorEq,Zw,s1,s2,a1,g,Bool.not_false,Bool.true_and,Bool.and_false]
 ·rw [decide_eq_false k1]at s2
  simp only [go_sem,qa,qb,qc,qd,qe,qf,reduceCtorEq,Zw,s1,s2,Bool.not_false,Bool.true_and,Bool.and_false]
theorem qpn(l:List Sg) (τ:Bool) (a:Nat) (nm:List Str) (d:Int) (t:Tm) (q most:Int):
 lw qg QR ⟨[(0,.p (0,0) 0 0),(1,I most),(4,.p (100000,0) 0 0),(5,.p (100000,1) 0 0),(6,I q)],[((0,0),5,[.a [.i τ (l.map Sg.v),I a,B true,I (d),.o 1 (List.map S nm)]]),((100000,0),4,[.a [I 0,S [],I 0,.s (100000,2) 0 0]]),((100000,1),4,[.a [I (Tm.kind t),S (Tm.name t),I (Tm.num t),.s (100000,3) 0 (Tm.kids t).length]]),((100000,2),4,[]),((100000,3),4,(Tm.kids t).map oT)]⟩=some (.exit 0,⟨[(0,.p (0,0) 0 0),(4,.p (100000,0) 0 0),(5,.p (100000,1) 0 0)],[]++[((0,0),5,[.a [.i τ (l.map Sg.v),I a,B true,I (d),.o 1 (List.map S nm)]]),((100000,0),4,[.a [I 0,S [],I 0,.s (100000,2) 0 0]]),((100000,1),4,[.a [I (Tm.kind t),S (Tm.name t),I (Tm.num t),.s (100000,3) 0 (Tm.kids t).length]]),((100000,2),4,[]),((100000,3),4,(Tm.kids t).map oT)]⟩):=by
 rw [ql,List.nil_append]
 simp only [go_sem,qa,qb,qc,qd,qe,qf,reduceCtorEq,Yv]
theorem qs1 {l:List Sg} (hg:GoodL l) {i:Nat} {most q:Int}:XJ (sgD l i) most q=(XM l i&&(decide ((qP (sgD l i).text).prio ≠ 0)&&(decide ((qP (sgD l i).text).prio≤most)&&decide (q≤(qP (sgD l i).text).left)))):=by
 unfold XJ XM isM
 cases h0:decide ((qP (sgD l i).text).prio ≠ 0)with
 |false=>simp
 |true=>
  cases k4:decide ((sgD l i).kind=4)with
  |false=>simp
  |true=>
   have:=hg.mark i (of_decide_eq_true k4)
   have k1:decide ((sgD l i).kind=1)=false:=by rw [of_decide_eq_true k4];rfl
   have h0':=of_decide_eq_true h0
   have t44:(sgD l i).text=[44]:=by
    rcases this with h|h|h|h|h|h
    ·exact absurd (by rw [h];rfl) h0'
    ·exact absurd (by rw [h];rfl) h0'
    ·exact absurd (by rw [h];rfl) h0'
    ·exact absurd (by rw [h];rfl) h0'
    ·exact h
    ·exact absurd (by rw [h];rfl) h0'
   simp [k1,t44]
end Go.Vm
namespace Go.Vm
theorem qqY(l:List Sg) (τ:Bool) (hg:GoodL l) (n:Nat) (hT:ST l τ n) (hL:SL l τ n):SL l τ (n+1):=by
 intro i nm d most t q hn hi hnm hd
 have hlen:=hg.len
 have e1:w64 ((i:Int)+1)=((i+1:Nat):Int):=by rw [qm]<;>omega
 have hgoI:=qs1 hg (i:=i) (most:=most) (q:=q)
 have fy:=qBO l τ hlen i (by omega) (.i true (nm.map S)) d
 have fn:=qBN l τ hlen i (by omega) (.i true (nm.map S)) d
 have stop:XJ (sgD l i) most q=false→ ∃ G,GBs G∧lw qg QR ⟨[(0,.p (0,0) 0 0),(1,I most),(4,.p (100000,0) 0 0),(5,.p (100000,1) 0 0),(6,I q)],[((0,0),5,[.a [.i τ (l.map Sg.v),I i,B false,I (d),.o 1 (List.map S nm)]]),((100000,0),4,[.a [I 0,S [],I 0,.s (100000,2) 0 0]]),((100000,1),4,[.a [I (Tm.kind t),S (Tm.name t),I (Tm.num t),.s (100000,3) 0 (Tm.kids t).length]]),((100000,2),4,[]),((100000,3),4,(Tm.kids t).map oT)]⟩=some (.exit 0,⟨[(0,.p (0,0) 0 0),(4,.p (100000,0) 0 0),(5,.p (100000,1) 0 0)],G++[((0,0),5,[.a [.i τ (l.map Sg.v),I i,B false,I (d),.o 1 (List.map S nm)]]),((100000,0),4,[.a [I 0,S [],I 0,.s (100000,2) 0 0]]),((100000,1),4,[.a [I (Tm.kind t),S (Tm.name t),I (Tm.num t),.s (100000,3) 0 (Tm.kids t).length]]),((100000,2),4,[]),((100000,3),4,(Tm.kids t).map oT)]⟩):=by
  intro hgo
  rw [hgoI]at hgo
  cases hI:XM l i with
  |false=>
   have inf:=fn hI
   refine ⟨[((7,0),4,[.a [S [],I 0,I 0,I 0]])],.inr ⟨_,_,_,_,rfl⟩, ?_⟩
   rw [ql,List.cons_append,List.nil_append]
   simp only [go_sem,qa,qb,qc,qd,qe,qf,reduceCtorEq,Yv,inf]
  |true=>
   have inf:=fy hI
   unfold opV at inf
   refine ⟨[((7,0),4,[.a [S (if (qP (sgD l i).text).prio=0 then []else (sgD l i).text),I (qP (sgD l i).text).prio,I (qP (sgD l i).text).left,I (qP (sgD l i).text).right]])],.inr ⟨_,_,_,_,rfl⟩, ?_⟩
   rw [ql,List.cons_append,List.nil_append]
   rw [hI,Bool.true_and]at hgo
   generalize hs:sgD l i=s at*
   by_cases h0:(qP s.text).prio=0
   ·simp only [go_sem,qa,qb,qc,qd,qe,qf,reduceCtorEq,Yv,inf,h0]
   ·rw [decide_eq_true (show (qP s.text).prio ≠ 0 from h0),Bool.true_and]at hgo
    by_cases p1:most < (qP s.text).prio
    ·simp only [go_sem,qa,qb,qc,qd,qe,qf,reduceCtorEq,Yv,inf,h0,p1]
    ·rw [decide_eq_true (by omega),Bool.true_and,decide_eq_false_iff_not]at hgo
     have p2:(qP s.text).left < q:=by omega
     simp only [go_sem,qa,qb,qc,qd,qe,qf,reduceCtorEq,Yv,inf,h0,p1,p2]
 cases hgo:XJ (sgD l i) most q with
 |false=>
  obtain ⟨G,hG,h⟩:=stop hgo
  refine ⟨?_, ?_⟩
  ·intro t' i' nm' hp
   simp only [pL,hgo,Bool.false_eq_true,if_false,Option.some.injEq,Prod.mk.injEq]at hp
   obtain ⟨rfl,rfl,rfl⟩:=hp
   exact ⟨_,hG,h⟩
  ·intro hp
   simp only [pL,hgo,Bool.false_eq_true,if_false,reduceCtorEq]at hp
 |true=>
  have hlt:i < l.length:=qiv hgo
  have hgo':=hgo
  rw [hgoI]at hgo'
  simp only [Bool.and_eq_true,decide_eq_true_eq]at hgo'
  obtain ⟨hI,h0,hp1,hp2⟩:=hgo'
  have inf:=fy hI
  unfold opV at inf
  have p1: ¬ most < (qP (sgD l i).text).prio:=by omega
  have p2: ¬ (qP (sgD l i).text).left < q:=by omega
  obtain ⟨ht1,ht2⟩:=hT (i+1) nm d (qP (sgD l i).text).right (by omega) (by omega) (by omega) hd
  have key: ∀ (y:Tm) (a:Nat) (nm1:List Str) (d1:Int) (b1:Bool),cw qg yc [.b (.a [.i τ (l.map Sg.v),I ((i+1:Nat):Int),B false,I (d),.o 1 (List.map S nm)]),I (qP (sgD l i).text).right]=some (oT y,[.b (.a [.i τ (l.map Sg.v),I a,B b1,I (d1),.o 1 (List.map S nm1)]),I (qP (sgD l i).text).right])→
   lw qg QR ⟨[(0,.p (0,0) 0 0),(1,I most),(4,.p (100000,0) 0 0),(5,.p (100000,1) 0 0),(6,I q)],[((0,0),5,[.a [.i τ (l.map Sg.v),I i,B false,I (d),.o 1 (List.map S nm)]]),((100000,0),4,[.a [I 0,S [],I 0,.s (100000,2) 0 0]]),((100000,1),4,[.a [I (Tm.kind t),S (Tm.name t),I (Tm.num t),.s (100000,3) 0 (Tm.kids t).length]]),((100000,2),4,[]),((100000,3),4,(Tm.kids t).map oT)]⟩=lw qg QR ⟨[(0,.p (0,0) 0 0),(1,I most),(4,.p (100000,0) 0 0),(5,.p (100000,1) 0 0),(6,I (qP (sgD l i).text).prio)],[((0,0),5,[.a [.i τ (l.map Sg.v),I a,B b1,I (d1),.o 1 (List.map S nm1)]]),((100000,0),4,[.a [I 0,S [],I 0,.s (100000,2) 0 0]]),((100000,1),4,[.a [I (Tm.kind (Tm.mk 4 (sgD l i).text 0 [t,y])),S (Tm.name (Tm.mk 4 (sgD l i).text 0 [t,y])),I (Tm.num (Tm.mk 4 (sgD l i).text 0 [t,y])),.s (100000,3) 0 (Tm.kids (Tm.mk 4 (sgD l i).text 0 [t,y])).length]]),((100000,2),4,[]),((100000,3),4,(Tm.kids (Tm.mk 4 (sgD l i).text 0 [t,y])).map oT)]⟩:=by
   intro y a nm1 d1 b1 hc
   rw [qv y]at hc
   have st:=qfR (sgD l i).text t y
   rw [YJ]at st
   simp only [List.map_cons,List.map_nil,qv t,qv y]at st
   have tk: ∀ x:Tm,(x.kids.map oT).take x.kids.length=x.kids.map oT:=fun x=>List.take_of_length_le (by simp)
   rw [ql]
   simp only [yq,yr,yB,zU,List.map_cons,List.map_nil,List.length_cons,List.length_nil,qv t,qv y]
   generalize hs:sgD l i=s at*
   simp only [go_sem,qa,qb,qc,qd,qe,qf,reduceCtorEq,Yv,inf,h0,p1,p2,e1,hc,st,tk,dT]
  refine ⟨?_, ?_⟩
  ·intro t' i' nm' hp
   simp only [pL,hgo,if_true]at hp
   split at hp
   ·cases hp
   ·rename_i y i1 nm1 hp1'
    have adv:=(Qy l n).1 _ _ _ _ _ _ _ hp1'
    have nl:=(ZX l n).1 _ _ _ _ _ _ _ hp1'
    rw [key y i1 nm1 d false (ht1 y i1 nm1 hp1')]
    exact (hL i1 nm1 d most _ _ (by omega) adv.2 (by omega) hd).1 t' i' nm' hp
  ·intro hp
   simp only [pL,hgo,if_true]at hp
   split at hp
   ·rename_i hp1'
    obtain ⟨g,cs,⟨a,nm1,d1,ha,rfl⟩,hc⟩:=ht2 hp1'
    refine ⟨.mk 4 (sgD l i).text 0 [t,g],a,nm1,d1,[],by omega,.inl rfl, ?_⟩
    rw [key g a nm1 d1 true hc]
    exact qpn l τ a nm1 d1 _ _ _
   ·rename_i y i1 nm1 hp1'
    have adv:=(Qy l n).1 _ _ _ _ _ _ _ hp1'
    have nl:=(ZX l n).1 _ _ _ _ _ _ _ hp1'
    obtain ⟨g,a,nm',d',G,ha,hG,h⟩:=(hL i1 nm1 d most _ _ (by omega) adv.2 (by omega) hd).2 hp
    refine ⟨g,a,nm',d',G,by omega,hG, ?_⟩
    rw [key y i1 nm1 d false (ht1 y i1 nm1 hp1')]
    exact h
theorem qq2(l:List Sg) (τ:Bool) (n:Nat) (hP:SP l τ n) (hL:SL l τ n):ST l τ (n+1):=by
 intro i nm d most hn hi hnm hd
 have e1:w64 ((d:Int)+1)=((d+1:Nat):Int):=by rw [qm]<;>omega
 have e2:w64 (((d+1:Nat):Int) - 1)=(d:Int):=by rw [qm]<;>omega
 by_cases h130:130≤d
 ·refine ⟨?_, ?_⟩
  ·intro t i' nm' hp;simp only [pT,if_pos h130,reduceCtorEq]at hp
  ·intro _
   refine ⟨.mk 0 [] 0 [],_,⟨i,nm,((d+1:Nat):Int),by omega,rfl⟩, ?_⟩
   have d0:(130:Int) < ((d+1:Nat):Int):=by omega
   rw [qI qf5 rfl,zj]
   simp only [go_sem,qa,qb,qc,qd,qe,qf,reduceCtorEq,Qc,qw,d0,e1]
 have d0: ¬ (130:Int) < ((d+1:Nat):Int):=by omega
 obtain ⟨hp1,hp2⟩:=hP i nm (d+1) most (by omega) hi hnm (by omega)
 have tk: ∀ x:Tm,(x.kids.map oT).take x.kids.length=x.kids.map oT:=fun x=>List.take_of_length_le (by simp)
 refine ⟨?_, ?_⟩
 ·intro t i' nm' hp
  simp only [pT,if_neg h130]at hp
  split at hp
  ·cases hp
  ·rename_i t1 q1 i1 nm1 h1
   have adv:=(Qy l n).2.2.1 _ _ _ _ _ _ _ _ h1
   have nl:=(ZX l n).2.2.1 _ _ _ _ _ _ _ _ h1
   have hc:=hp1 _ _ _ _ h1
   obtain ⟨G,hG,lp⟩:=(hL i1 nm1 (d+1) most t1 q1 (by omega) adv.2 (by omega) (by omega)).1 _ _ _ hp
   rw [qv t1]at hc
   rw [qI qf5 rfl,qv t]
   rcases hG with rfl|⟨s1,a1,a2,a3,rfl⟩
   ·simp only [List.cons_append,List.nil_append]at lp
    simp only [go_sem,qa,qb,qc,qd,qe,qf,reduceCtorEq,Qc,qw,d0,e1,hc,lp,e2,tk]
   ·simp only [List.cons_append,List.nil_append]at lp
    simp only [go_sem,qa,qb,qc,qd,qe,qf,reduceCtorEq,Qc,qw,d0,e1,hc,lp,e2,tk]
 ·intro hp
  simp only [pT,if_neg h130]at hp
  split at hp
  ·rename_i h1
   obtain ⟨g,q,cs,⟨a,nm1,d1,ha,rfl⟩,hc⟩:=hp2 h1
   refine ⟨g,_,⟨a,nm1,w64 (d1 - 1),by omega,rfl⟩, ?_⟩
   have lp:=qpn l τ a nm1 d1 g q most
   rw [List.nil_append]at lp
   rw [qv g]at hc ⊢
   rw [qI qf5 rfl]
   simp only [go_sem,qa,qb,qc,qd,qe,qf,reduceCtorEq,Qc,qw,d0,e1,hc,lp,tk]
  ·rename_i t1 q1 i1 nm1 h1
   have adv:=(Qy l n).2.2.1 _ _ _ _ _ _ _ _ h1
   have nl:=(ZX l n).2.2.1 _ _ _ _ _ _ _ _ h1
   have hc:=hp1 _ _ _ _ h1
   obtain ⟨g,a,nm',d',G,ha,hG,lp⟩:=(hL i1 nm1 (d+1) most t1 q1 (by omega) adv.2 (by omega) (by omega)).2 hp
   refine ⟨g,_,⟨a,nm',w64 (d' - 1),by omega,rfl⟩, ?_⟩
   rw [qv t1]at hc
   rw [qI qf5 rfl,qv g]
   rcases hG with rfl|⟨s1,a1,a2,a3,rfl⟩
   ·simp only [List.cons_append,List.nil_append]at lp
    simp only [go_sem,qa,qb,qc,qd,qe,qf,reduceCtorEq,Qc,qw,d0,e1,hc,lp,tk]
   ·simp only [List.cons_append,List.nil_append]at lp
    simp only [go_sem,qa,qb,qc,qd,qe,qf,reduceCtorEq,Qc,qw,d0,e1,hc,lp,tk]
end Go.Vm
namespace Go.Vm
end Go.Vm
namespace Go.Vm
theorem qs7(d:Nat) (t:Tm):qN d (dT t)=dT t:=rfl
theorem qmU(d:Nat): ∀ (ts:List Tm),qB d (ts.map dT)=ts.map dT
 |[]=>rfl
 |t::ts=>by rw [List.map_cons,qB,qs7,qmU d ts]
theorem qo0(k:Key) (ob:Ob): ∀ (ts:List Tm),zG k ob (ts.map dT)=none
 |[]=>rfl
 |t::ts=>by rw [List.map_cons,zG,qo0 k ob ts];rfl
theorem qrI(n:Nat) (T:Mem) (t:Tm):zf (n+2) T (dT t)=(dT t,T):=rfl
theorem qne(n:Nat) (T:Mem): ∀ (ts:List Tm),qy (zf (n+2)) T (ts.map dT)=(ts.map dT,T)
 |[]=>rfl
 |t::ts=>by simp only [List.map_cons,qy,qrI,qne n T ts]
theorem YG(n:Nat) (T:Mem) (ys:List V): ∀ (xs:List Tm),qy (zf n) T (xs.map oT++ys)=(xs.map oT++(qy (zf n) T ys).1,(qy (zf n) T ys).2)
 |[]=>rfl
 |x::xs=>by
  have h:zf n T (oT x)=(oT x,T):=by unfold zf;rw [JT];rfl
  simp only [List.map_cons,List.cons_append,qy,h,YG n T ys xs]
theorem qnx(d:Nat): ∀ (ts:List Tm) (i:Nat),zV d i false (ts.map dT)=ts.map dT
 |[],i=>rfl
 |t::ts,i=>by
  have h:qW d i false (dT t)=dT t:=rfl
  rw [List.map_cons,zV,h,qnx d ts]
theorem qnw(d:Nat) (ys:List V) (h: ∀ i,zV d i false ys=ys): ∀ (xs:List Tm) (i:Nat),zV d i false (xs.map oT++ys)=xs.map oT++ys
 |[],i=>h i
 |x::xs,i=>by
  have e:qW d i false (oT x)=oT x:=by rw [qv];rfl
  rw [List.map_cons,List.cons_append,zV,e,qnw d ys h xs]
theorem qoW(tb:List Key): ∀ (ts:List Tm),z8 tb (ts.map dT)=ts.map dT
 |[]=>rfl
 |t::ts=>by
  have h:zc tb (dT t)=dT t:=rfl
  rw [List.map_cons,z8,h,qoW tb ts]
theorem qoV(tb:List Key) (ys:List V) (h:z8 tb ys=ys): ∀ (xs:List Tm),z8 tb (xs.map oT++ys)=xs.map oT++ys
 |[]=>h
 |x::xs=>by
  have e:zc tb (oT x)=oT x:=by rw [qv];rfl
  rw [List.map_cons,List.cons_append,z8,e,qoV tb ys h xs]
theorem qzR {α:Type} (c:Bool) (x:α):zW c x x=x:=by cases c<;>rfl
theorem qnm(x:Tm) (r:Tm): ∀ (xs:List Tm),xu (xs++[x]) r=xu xs (.mk 4 [46] 0 [x,r])
 |[]=>rfl
 |y::ys=>by simp only [List.cons_append,xu,qnm x r ys]
end Go.Vm
namespace Go.Vm
theorem qng(n:Nat) (T:Mem) (ys:List V): ∀ (xs:List Tm),qy (qz (n+2)) T (xs.map oT++ys)=(xs.map oT++(qy (qz (n+2)) T ys).1,(qy (qz (n+2)) T ys).2)
 |[]=>rfl
 |x::xs=>by
  have h:qz (n+2) T (oT x)=(oT x,T):=by rw [qv];rfl
  simp only [List.map_cons,List.cons_append,qy,h,qng n T ys xs]
def EXs(l:List Sg) (τ:Bool) (s:Str) (a:Nat) (nm:List Str) (d:Int) (b:Bool) (ks:List Tm) (st:St):Prop:=
 (b=true∧st=⟨[(0,.p (0,0) 0 0),(4,.p (100000,0) 0 0),(5,.p (100000,1) 0 0)],[((0,0),5,[.a [.i τ (l.map Sg.v),I a,B true,I (d),.o 1 (List.map S nm)]]),((100000,0),4,[.a [I 0,S [],I 0,.s (100000,2) 0 0]]),((100000,1),4,[.a [I (Tm.kind (Tm.mk 4 s 0 ks)),S (Tm.name (Tm.mk 4 s 0 ks)),I (Tm.num (Tm.mk 4 s 0 ks)),.s (100000,3) 0 (Tm.kids (Tm.mk 4 s 0 ks)).length]]),((100000,2),4,[]),((100000,3),4,(Tm.kids (Tm.mk 4 s 0 ks)).map oT)]⟩)∨(b=true∧ ∃ y:Tm,st=⟨[(0,.p (0,0) 0 0),(4,.p (100000,0) 0 0),(5,.p (100000,1) 0 0)],[((0,0),5,[.a [.i τ (l.map Sg.v),I a,B true,I (d),.o 1 (List.map S nm)]]),((6,0),4,[.a [I (Tm.kind y),S (Tm.name y),I (Tm.num y),.s (15,0) 0 (Tm.kids y).length]]),((15,0),4,(Tm.kids y).map oT),((100000,0),4,[.a [I 0,S [],I 0,.s (100000,2) 0 0]]),((100000,1),4,[.a [I 4,S s,I 0,.s (100000,3) 0 (ks).length]]),((100000,2),4,[]),((100000,3),4,(ks).map oT)]⟩)∨(b=false∧ ∃ (acc:List Tm) (y:Tm),ks=acc++[y]∧st=⟨[(0,.p (0,0) 0 0),(4,.p (100000,0) 0 0),(5,.p (100000,1) 0 0)],[((0,0),5,[.a [.i τ (l.map Sg.v),I a,B false,I (d),.o 1 (List.map S nm)]]),((100000,1),4,[.a [I 4,S s,I 0,.s (27,0) 0 ((acc).length+1)]]),((27,0),4,(acc).map oT++[.a [I (Tm.kind y),S (Tm.name y),I (Tm.num y),.s (15,0) 0 (Tm.kids y).length]]),((26,0),4,[.a [I (Tm.kind y),S (Tm.name y),I (Tm.num y),.s (15,0) 0 (Tm.kids y).length]]),((6,0),4,[.a [I (Tm.kind y),S (Tm.name y),I (Tm.num y),.s (15,0) 0 (Tm.kids y).length]]),((15,0),4,(Tm.kids y).map oT),((100000,0),4,[.a [I 0,S [],I 0,.s (100000,2) 0 0]]),((100000,2),4,[])]⟩)
def pC(l:List Sg) (n:Nat) (i:Nat) (nm:List Str) (d:Nat) (acc:List Tm):Option (List Tm × Nat × List Str):=
 match pT l n i nm d 999 with
 |none=>none
 |some (t,i',nm')=>pB l n i' nm' d (acc++[t])
def SS(l:List Sg) (τ:Bool) (n:Nat):Prop:= ∀ (i:Nat) (nm:List Str) (d:Nat) (s:Str) (acc:List Tm),4*(l.length - i)+4≤n→i≤l.length→nm.length≤i→acc.length≤5→d≤130→
 (∀ ks i' nm',pC l n i nm d acc=some (ks,i',nm')→isM l i' [41]=true→ks.length≤5→ ∃ st,EXs l τ s (i'+1) nm' d false ks st∧lw qg ki ⟨[(0,.p (0,0) 0 0),(4,.p (100000,0) 0 0),(5,.p (100000,1) 0 0)],[((0,0),5,[.a [.i τ (l.map Sg.v),I i,B false,I (d),.o 1 (List.map S nm)]]),((100000,0),4,[.a [I 0,S [],I 0,.s (100000,2) 0 0]]),((100000,1),4,[.a [I (Tm.kind (Tm.mk 4 s 0 acc)),S (Tm.name (Tm.mk 4 s 0 acc)),I (Tm.num (Tm.mk 4 s 0 acc)),.s (100000,3) 0 (Tm.kids (Tm.mk 4 s 0 acc)).length]]),((100000,2),4,[]),((100000,3),4,(Tm.kids (Tm.mk 4 s 0 acc)).map oT)]⟩=some (.exit 0,st))∧
 ((∀ ks i' nm',pC l n i nm d acc=some (ks,i',nm')→ ¬ (isM l i' [41]=true∧ks.length≤5))→ ∃ ks a nm' d' st,a≤l.length+8*n∧EXs l τ s a nm' d' true ks st∧lw qg ki ⟨[(0,.p (0,0) 0 0),(4,.p (100000,0) 0 0),(5,.p (100000,1) 0 0)],[((0,0),5,[.a [.i τ (l.map Sg.v),I i,B false,I (d),.o 1 (List.map S nm)]]),((100000,0),4,[.a [I 0,S [],I 0,.s (100000,2) 0 0]]),((100000,1),4,[.a [I (Tm.kind (Tm.mk 4 s 0 acc)),S (Tm.name (Tm.mk 4 s 0 acc)),I (Tm.num (Tm.mk 4 s 0 acc)),.s (100000,3) 0 (Tm.kids (Tm.mk 4 s 0 acc)).length]]),((100000,2),4,[]),((100000,3),4,(Tm.kids (Tm.mk 4 s 0 acc)).map oT)]⟩=some (.exit 0,st))
theorem qn4(l:List Sg): ∀ (n i:Nat) (nm:List Str) (d:Nat) (acc ks:List Tm) (i':Nat) (nm':List Str),pB l n i nm d acc=some (ks,i',nm')→acc.length≤ks.length
 |0,i,nm,d,acc,ks,i',nm',h=>by simp [pB]at h
 |n+1,i,nm,d,acc,ks,i',nm',h=>by
  simp only [pB]at h
  split at h
  ·split at h
   ·cases h
   ·have:=qn4 l n _ _ _ _ _ _ _ h
    simp only [List.length_append,List.length_cons,List.length_nil]at this
    omega
  ·cases h;omega
theorem qpC(l:List Sg) (τ:Bool) (i:Nat) (nm:List Str) (d:Int) (s:Str) (acc:List Tm) (y:Tm) (a:Nat) (nm1:List Str) (d1:Int) (b1:Bool)
 (hc:cw qg yc [.b (.a [.i τ (l.map Sg.v),I i,B false,I (d),.o 1 (List.map S nm)]),I 999]=some (oT y,[.b (.a [.i τ (l.map Sg.v),I a,B b1,I (d1),.o 1 (List.map S nm1)]),I 999])) (h5:5≤acc.length):
 lw qg ki ⟨[(0,.p (0,0) 0 0),(4,.p (100000,0) 0 0),(5,.p (100000,1) 0 0)],[((0,0),5,[.a [.i τ (l.map Sg.v),I i,B false,I (d),.o 1 (List.map S nm)]]),((100000,0),4,[.a [I 0,S [],I 0,.s (100000,2) 0 0]]),((100000,1),4,[.a [I (Tm.kind (Tm.mk 4 s 0 acc)),S (Tm.name (Tm.mk 4 s 0 acc)),I (Tm.num (Tm.mk 4 s 0 acc)),.s (100000,3) 0 (Tm.kids (Tm.mk 4 s 0 acc)).length]]),((100000,2),4,[]),((100000,3),4,(Tm.kids (Tm.mk 4 s 0 acc)).map oT)]⟩=some (.exit 0,⟨[(0,.p (0,0) 0 0),(4,.p (100000,0) 0 0),(5,.p (100000,1) 0 0)],[((0,0),5,[.a [.i τ (l.map Sg.v),I a,B true,I (d1),.o 1 (List.map S nm1)]]),((6,0),4,[.a [I (Tm.kind y),S (Tm.name y),I (Tm.num y),.s (15,0) 0 (Tm.kids y).length]]),((15,0),4,(Tm.kids y).map oT),((100000,0),4,[.a [I 0,S [],I 0,.s (100000,2) 0 0]]),((100000,1),4,[.a [I 4,S s,I 0,.s (100000,3) 0 (acc).length]]),((100000,2),4,[]),((100000,3),4,(acc).map oT)]⟩):=by
 have h5':(5:Int)≤(acc.length:Int):=by omega
 rw [qv y]at hc
 have tk: ∀ x:Tm,(x.kids.map oT).take x.kids.length=x.kids.map oT:=fun x=>List.take_of_length_le (by simp)
 simp only [yq,yr,yB,zU]
 rw [ql]
 simp only [go_sem,qa,qb,qc,qd,qe,qf,reduceCtorEq,Xz,hc,tk,h5']
theorem qBC(l:List Sg) (τ:Bool) (hg:GoodL l) (i:Nat) (nm:List Str) (d:Int) (s:Str) (acc:List Tm) (y:Tm) (a:Nat) (ha:a≤2^40) (nm1:List Str) (d1:Int)
 (hc:cw qg yc [.b (.a [.i τ (l.map Sg.v),I i,B false,I (d),.o 1 (List.map S nm)]),I 999]=some (oT y,[.b (.a [.i τ (l.map Sg.v),I a,B false,I (d1),.o 1 (List.map S nm1)]),I 999])) (h5: ¬ 5≤acc.length) (hm:isM l a [41]=true):
 lw qg ki ⟨[(0,.p (0,0) 0 0),(4,.p (100000,0) 0 0),(5,.p (100000,1) 0 0)],[((0,0),5,[.a [.i τ (l.map Sg.v),I i,B false,I (d),.o 1 (List.map S nm)]]),((100000,0),4,[.a [I 0,S [],I 0,.s (100000,2) 0 0]]),((100000,1),4,[.a [I (Tm.kind (Tm.mk 4 s 0 acc)),S (Tm.name (Tm.mk 4 s 0 acc)),I (Tm.num (Tm.mk 4 s 0 acc)),.s (100000,3) 0 (Tm.kids (Tm.mk 4 s 0 acc)).length]]),((100000,2),4,[]),((100000,3),4,(Tm.kids (Tm.mk 4 s 0 acc)).map oT)]⟩=some (.exit 0,⟨[(0,.p (0,0) 0 0),(4,.p (100000,0) 0 0),(5,.p (100000,1) 0 0)],[((0,0),5,[.a [.i τ (l.map Sg.v),I ((a+1:Nat):Int),B false,I (d1),.o 1 (List.map S nm1)]]),((100000,1),4,[.a [I 4,S s,I 0,.s (27,0) 0 ((acc).length+1)]]),((27,0),4,(acc).map oT++[.a [I (Tm.kind y),S (Tm.name y),I (Tm.num y),.s (15,0) 0 (Tm.kids y).length]]),((26,0),4,[.a [I (Tm.kind y),S (Tm.name y),I (Tm.num y),.s (15,0) 0 (Tm.kids y).length]]),((6,0),4,[.a [I (Tm.kind y),S (Tm.name y),I (Tm.num y),.s (15,0) 0 (Tm.kids y).length]]),((15,0),4,(Tm.kids y).map oT),((100000,0),4,[.a [I 0,S [],I 0,.s (100000,2) 0 0]]),((100000,2),4,[])]⟩):=by
 have hlen:=hg.len
 have h5': ¬ (5:Int)≤(acc.length:Int):=by omega
 have l1:decide ((acc.length+1)*56≤lim)=true:=decide_eq_true (by rw [qM];omega)
 have l2:decide (acc.length+1≤lim)=true:=decide_eq_true (by rw [qM];omega)
 have mk:=xP l τ hlen a ha nm1 d1 [41] (by decide) hm
 rw [qv y]at hc
 have tk: ∀ x:Tm,(x.kids.map oT).take x.kids.length=x.kids.map oT:=fun x=>List.take_of_length_le (by simp)
 have tk2:(acc.map oT).take acc.length=acc.map oT:=List.take_of_length_le (by simp)
 simp only [yq,yr,yB,zU]
 rw [ql]
 simp only [go_sem,qa,qb,qc,qd,qe,qf,reduceCtorEq,Xz,hc,tk,tk2,h5',mk,l1,l2]
theorem qj5(l:List Sg) (τ:Bool) (hg:GoodL l) (i:Nat) (nm:List Str) (d:Int) (s:Str) (acc:List Tm) (y:Tm) (a:Nat) (ha:a≤2^40) (nm1:List Str) (d1:Int) (b1:Bool)
 (hc:cw qg yc [.b (.a [.i τ (l.map Sg.v),I i,B false,I (d),.o 1 (List.map S nm)]),I 999]=some (oT y,[.b (.a [.i τ (l.map Sg.v),I a,B b1,I (d1),.o 1 (List.map S nm1)]),I 999])) (h5: ¬ 5≤acc.length) (hm:(!b1&&isM l a [41])=false):
 (b1=false→isM l a [44]=true→lw qg ki ⟨[(0,.p (0,0) 0 0),(4,.p (100000,0) 0 0),(5,.p (100000,1) 0 0)],[((0,0),5,[.a [.i τ (l.map Sg.v),I i,B false,I (d),.o 1 (List.map S nm)]]),((100000,0),4,[.a [I 0,S [],I 0,.s (100000,2) 0 0]]),((100000,1),4,[.a [I (Tm.kind (Tm.mk 4 s 0 acc)),S (Tm.name (Tm.mk 4 s 0 acc)),I (Tm.num (Tm.mk 4 s 0 acc)),.s (100000,3) 0 (Tm.kids (Tm.mk 4 s 0 acc)).length]]),((100000,2),4,[]),((100000,3),4,(Tm.kids (Tm.mk 4 s 0 acc)).map oT)]⟩=lw qg ki ⟨[(0,.p (0,0) 0 0),(4,.p (100000,0) 0 0),(5,.p (100000,1) 0 0)],[((0,0),5,[.a [.i τ (l.map Sg.v),I ((a+1:Nat):Int),B false,I (d1),.o 1 (List.map S nm1)]]),((100000,0),4,[.a [I 0,S [],I 0,.s (100000,2) 0 0]]),((100000,1),4,[.a [I (Tm.kind (Tm.mk 4 s 0 (acc++[y]))),S (Tm.name (Tm.mk 4 s 0 (acc++[y]))),I (Tm.num (Tm.mk 4 s 0 (acc++[y]))),.s (100000,3) 0 (Tm.kids (Tm.mk 4 s 0 (acc++[y]))).length]]),((100000,2),4,[]),((100000,3),4,(Tm.kids (Tm.mk 4 s 0 (acc++[y]))).map oT)]⟩)∧
 ((!b1&&isM l a [44])=false→lw qg ki ⟨[(0,.p (0,0) 0 0),(4,.p (100000,0) 0 0),(5,.p (100000,1) 0 0)],[((0,0),5,[.a [.i τ (l.map Sg.v),I i,B false,I (d),.o 1 (List.map S nm)]]),((100000,0),4,[.a [I 0,S [],I 0,.s (100000,2) 0 0]]),((100000,1),4,[.a [I (Tm.kind (Tm.mk 4 s 0 acc)),S (Tm.name (Tm.mk 4 s 0 acc)),I (Tm.num (Tm.mk 4 s 0 acc)),.s (100000,3) 0 (Tm.kids (Tm.mk 4 s 0 acc)).length]]),((100000,2),4,[]),((100000,3),4,(Tm.kids (Tm.mk 4 s 0 acc)).map oT)]⟩=lw qg ki ⟨[(0,.p (0,0) 0 0),(4,.p (100000,0) 0 0),(5,.p (100000,1) 0 0)],[((0,0),5,[.a [.i τ (l.map Sg.v),I a,B true,I (d1),.o 1 (List.map S nm1)]]),((100000,0),4,[.a [I 0,S [],I 0,.s (100000,2) 0 0]]),((100000,1),4,[.a [I (Tm.kind (Tm.mk 4 s 0 (acc++[y]))),S (Tm.name (Tm.mk 4 s 0 (acc++[y]))),I (Tm.num (Tm.mk 4 s 0 (acc++[y]))),.s (100000,3) 0 (Tm.kids (Tm.mk 4 s 0 (acc++[y]))).length]]),((100000,2),4,[]),((100000,3),4,(Tm.kids (Tm.mk 4 s 0 (acc++[y]))).map oT)]⟩):=by
 have hlen:=hg.len
 have h5': ¬ (5:Int)≤(acc.length:Int):=by omega
 have l1:decide ((acc.length+1)*56≤lim)=true:=decide_eq_true (by rw [qM];omega)
 have l2:decide (acc.length+1≤lim)=true:=decide_eq_true (by rw [qM];omega)
 have mk:=xC l τ hlen a ha nm1 d1 b1 [41] (by decide) hm
 rw [qv y]at hc
 have tk: ∀ x:Tm,(x.kids.map oT).take x.kids.length=x.kids.map oT:=fun x=>List.take_of_length_le (by simp)
 have tk2:(acc.map oT).take acc.length=acc.map oT:=List.take_of_length_le (by simp)
 have rp:=fun k' ob (y:V) (ys:List V)=>QA k' ob (acc.map oT) (y::ys) (Q1 _)
 simp only [yq,yr,yB,zU,List.map_append,List.map_cons,List.map_nil,List.length_append,List.length_cons,List.length_nil,qv y]
 refine ⟨?_, ?_⟩
 ·intro hb hw
  subst hb
  have wt:=qgB l τ hlen a ha nm1 d1 [44] (by decide) hw
  rw [ql]
  simp only [go_sem,qa,qb,qc,qd,qe,qf,reduceCtorEq,Xz,hc,tk,tk2,h5',mk,l1,l2,wt,rp,Option.map_some,YG]
 ·intro hw
  have wt:=qaw l τ hlen a ha nm1 d1 b1 [44] (by decide) hw
  rw [ql]
  simp only [go_sem,qa,qb,qc,qd,qe,qf,reduceCtorEq,Xz,hc,tk,tk2,h5',mk,l1,l2,wt,rp,Option.map_some,YG]
theorem qpB(l:List Sg) (τ:Bool) (a:Nat) (nm:List Str) (d:Int) (t:Tm):
 lw qg ki ⟨[(0,.p (0,0) 0 0),(4,.p (100000,0) 0 0),(5,.p (100000,1) 0 0)],[((0,0),5,[.a [.i τ (l.map Sg.v),I a,B true,I (d),.o 1 (List.map S nm)]]),((100000,0),4,[.a [I 0,S [],I 0,.s (100000,2) 0 0]]),((100000,1),4,[.a [I (Tm.kind t),S (Tm.name t),I (Tm.num t),.s (100000,3) 0 (Tm.kids t).length]]),((100000,2),4,[]),((100000,3),4,(Tm.kids t).map oT)]⟩=some (.exit 0,⟨[(0,.p (0,0) 0 0),(4,.p (100000,0) 0 0),(5,.p (100000,1) 0 0)],[((0,0),5,[.a [.i τ (l.map Sg.v),I a,B true,I (d),.o 1 (List.map S nm)]]),((100000,0),4,[.a [I 0,S [],I 0,.s (100000,2) 0 0]]),((100000,1),4,[.a [I (Tm.kind t),S (Tm.name t),I (Tm.num t),.s (100000,3) 0 (Tm.kids t).length]]),((100000,2),4,[]),((100000,3),4,(Tm.kids t).map oT)]⟩):=by
 rw [ql]
 simp only [go_sem,qa,qb,qc,qd,qe,qf,reduceCtorEq,Xz]
theorem qBD(l:List Sg) (τ:Bool) (i:Nat) (nm:List Str) (d:Int) (s:Str) (a:Nat) (nm1:List Str) (d1:Int) (b1:Bool) (ks:List Tm) (st:St) (he:EXs l τ s a nm1 d1 b1 ks st)
 (hl:lw qg ki ⟨[(0,.p (0,0) 0 0),(4,.p (100000,0) 0 0),(5,.p (100000,1) 0 0)],[((0,0),5,[.a [.i τ (l.map Sg.v),I i,B false,I (d),.o 1 (List.map S nm)]]),((100000,0),4,[.a [I 0,S [],I 0,.s (100000,2) 0 0]]),((100000,1),4,[.a [I (Tm.kind (Tm.mk 4 s 0 [])),S (Tm.name (Tm.mk 4 s 0 [])),I (Tm.num (Tm.mk 4 s 0 [])),.s (100000,3) 0 (Tm.kids (Tm.mk 4 s 0 [])).length]]),((100000,2),4,[]),((100000,3),4,(Tm.kids (Tm.mk 4 s 0 [])).map oT)]⟩=some (.exit 0,st)):
 cw qg qeI [.b (.a [.i τ (l.map Sg.v),I i,B false,I (d),.o 1 (List.map S nm)]),S s]=some (oT (.mk 4 s 0 ks),[.b (.a [.i τ (l.map Sg.v),I a,B b1,I (d1),.o 1 (List.map S nm1)]),S s]):=by
 simp only [yq,yr,yB,zU,List.map_nil,List.length_nil]at hl
 have tk2: ∀ ks:List Tm,(ks.map oT).take ks.length=ks.map oT:=fun ks=>List.take_of_length_le (by simp)
 rw [qI qzw rfl,YJ]
 rcases he with ⟨rfl,rfl⟩|⟨rfl,y,rfl⟩|⟨rfl,acc,y,rfl,rfl⟩
 ·simp only [yq,yr,yB,zU]at hl
  simp only [go_sem,qa,qb,qc,qd,qe,qf,reduceCtorEq,Yi,qw,hl,tk2]
 ·simp only [go_sem,qa,qb,qc,qd,qe,qf,reduceCtorEq,Yi,qw,hl,tk2]
 ·have rp:=fun k' ob (y:V) (ys:List V)=>QA k' ob (acc.map oT) (y::ys) (Q1 _)
  simp only [List.map_append,List.map_cons,List.map_nil,qv y]
  have tk3:(acc.map oT++[V.a [I y.kind,S y.name,I y.num,.o 4 (y.kids.map oT)]]).take (acc.length+1)=acc.map oT++[V.a [I y.kind,S y.name,I y.num,.o 4 (y.kids.map oT)]]:=List.take_of_length_le (by simp)
  simp only [go_sem,qa,qb,qc,qd,qe,qf,reduceCtorEq,Yi,qw,hl,tk2,tk3,rp,Option.map_some,YG,qng,List.length_append,List.length_map,List.length_cons,List.length_nil]
end Go.Vm
namespace Go.Vm
theorem qcL(l:List Sg) (i:Nat) (t u:Str) (h:isM l i t=true) (htu:t ≠ u):isM l i u=false:=by
 have:=ym h
 unfold isM
 rw [this.2.2,decide_eq_false htu,Bool.and_false]
theorem qq1(l:List Sg) (τ:Bool) (hg:GoodL l) (n:Nat) (hn20:n≤2^20) (hT:ST l τ n) (hq: ∀ m,m+1=n→SS l τ m):SS l τ n:=by
 intro i nm d s acc hn hi hnm hacc hd
 have hlen:=hg.len
 obtain ⟨ht1,ht2⟩:=hT i nm d 999 (by omega) hi hnm hd
 obtain ⟨m,rfl⟩: ∃ m,n=m+1:=⟨n - 1,by omega⟩
 cases hp:pT l (m+1) i nm d 999 with
 |none=>
  obtain ⟨g,cs,⟨a,nm1,d1,ha,rfl⟩,hc⟩:=ht2 hp
  have pc:pC l (m+1) i nm d acc=none:=by unfold pC;rw [hp]
  rw [pc]
  refine ⟨fun ks i' nm' h=>(by cases h),fun _=> ?_⟩
  by_cases h5:5≤acc.length
  ·exact ⟨acc,a,nm1,d1,_,by omega,.inr (.inl ⟨rfl,g,rfl⟩),qpC l τ i nm d s acc g a nm1 d1 true hc h5⟩
  ·have h:=(qj5 l τ hg i nm d s acc g a (by omega) nm1 d1 true hc h5 rfl).2 rfl
   exact ⟨acc++[g],a,nm1,d1,_,by omega,.inl ⟨rfl,rfl⟩,h.trans (qpB l τ a nm1 d1 _)⟩
 |some r=>
  obtain ⟨t,i1,nm1⟩:=r
  have adv:=(Qy l (m+1)).1 _ _ _ _ _ _ _ hp
  have nl:=(ZX l (m+1)).1 _ _ _ _ _ _ _ hp
  have hc:=ht1 _ _ _ hp
  have pc:pC l (m+1) i nm d acc=pB l (m+1) i1 nm1 d (acc++[t]):=by unfold pC;rw [hp]
  rw [pc]
  by_cases h5:5≤acc.length
  ·refine ⟨fun ks i' nm' h _ hk=> ?_,fun _=>⟨acc,i1,nm1,d,_,by omega,.inr (.inl ⟨rfl,t,rfl⟩),qpC l τ i nm d s acc t i1 nm1 d false hc h5⟩⟩
   have:=qn4 l _ _ _ _ _ _ _ _ h
   simp only [List.length_append,List.length_cons,List.length_nil]at this
   omega
  cases hm:isM l i1 [41]with
  |true=>
   have h44:isM l i1 [44]=false:=qcL l i1 [41] [44] hm (by decide)
   have pb:pB l (m+1) i1 nm1 d (acc++[t])=some (acc++[t],i1,nm1):=by
    simp only [pB,h44,Bool.false_eq_true,if_false]
   rw [pb]
   have h:=qBC l τ hg i nm d s acc t i1 (by omega) nm1 d hc h5 hm
   refine ⟨fun ks i' nm' h' _ _=> ?_,fun h'=>absurd ⟨hm, ?_⟩ (h' _ _ _ rfl)⟩
   ·simp only [Option.some.injEq,Prod.mk.injEq]at h'
    obtain ⟨rfl,rfl,rfl⟩:=h'
    exact ⟨_,.inr (.inr ⟨rfl,acc,t,rfl,rfl⟩),h⟩
   ·simp only [List.length_append,List.length_cons,List.length_nil];omega
  |false=>
   cases h44:isM l i1 [44]with
   |true=>
    have h:=(qj5 l τ hg i nm d s acc t i1 (by omega) nm1 d false hc h5 (by rw [hm];rfl)).1 rfl h44
    have pb:pB l (m+1) i1 nm1 d (acc++[t])=pC l m (i1+1) nm1 d (acc++[t]):=by
     simp only [pB,h44,if_true,pC]
     all_goals (cases pT l m (i1+1) nm1 d 999<;>rfl)
    have hlt:=(ym h44).1
    obtain ⟨k1,k2⟩:=hq m rfl (i1+1) nm1 d s (acc++[t]) (by omega) (by omega) (by omega) (by simp only [List.length_append,List.length_cons,List.length_nil];omega) hd
    rw [pb]
    refine ⟨fun ks i' nm' h1 h2 h3=> ?_,fun h1=> ?_⟩
    ·obtain ⟨st,he,hl⟩:=k1 ks i' nm' h1 h2 h3
     exact ⟨st,he,h.trans hl⟩
    ·obtain ⟨ks,a,nm',d',st,ha,he,hl⟩:=k2 h1
     exact ⟨ks,a,nm',d',st,by omega,he,h.trans hl⟩
   |false=>
    have h:=(qj5 l τ hg i nm d s acc t i1 (by omega) nm1 d false hc h5 (by rw [hm];rfl)).2 (by rw [h44];rfl)
    have pb:pB l (m+1) i1 nm1 d (acc++[t])=some (acc++[t],i1,nm1):=by
     simp only [pB,h44,Bool.false_eq_true,if_false]
    rw [pb]
    refine ⟨fun ks i' nm' h' h2 _=> ?_,fun _=>⟨acc++[t],i1,nm1,d,_,by omega,.inl ⟨rfl,rfl⟩,h.trans (qpB l τ i1 nm1 d _)⟩⟩
    simp only [Option.some.injEq,Prod.mk.injEq]at h'
    obtain ⟨rfl,rfl,rfl⟩:=h'
    rw [hm]at h2;cases h2
def jP(l:List Sg) (i:Nat):Bool:=decide ((sgD l (i+1)).kind=3)&&decide ((sgD l (i+1)).at_=(sgD l i).at_+1)
theorem qav(l:List Sg) (τ:Bool) (hg:GoodL l) (a:Nat) (ha:a < l.length) (nv:V) (d:Int) (b:Bool):
 cr qg qhu [.q true [.a [.i τ (l.map Sg.v),I a,B b,I (d),nv]] 0 0]=some (B (jP l a)):=by
 have hlen:=hg.len
 have e1:w64 ((a:Int)+1)=((a+1:Nat):Int):=by rw [qm]<;>omega
 have e2:w64 ((sgD l a).at_+1)=(sgD l a).at_+1:=by
  have:=hg.at_ a
  rw [qm]<;>omega
 have hg0:=xN ha
 have g0:=zu (f:=Sg.v) hg0
 have a0:=fun T=>qZ (τ:=τ) (T:=T) (e:=5) g0 rfl
 rw [Sg.v]at g0
 rw [qo qzv rfl]
 unfold jP
 by_cases h:a+1 < l.length
 ·have h':((a+1:Nat):Int) < (l.length:Int):=by omega
  have hg1:=xN h
  have g1:=zu (f:=Sg.v) hg1
  have a1:=fun T=>qZ (τ:=τ) (T:=T) (e:=5) g1 rfl
  rw [Sg.v]at g1
  cases hk:decide ((sgD l (a+1)).kind=3)with
  |false=>simp only [go_sem,qa,qb,qc,qd,qe,qf,reduceCtorEq,Yh,e1,e2,h',List.length_map,a0,g0,a1,g1,hk,Bool.false_and]
  |true=>simp only [go_sem,qa,qb,qc,qd,qe,qf,reduceCtorEq,Yh,e1,e2,h',List.length_map,a0,g0,a1,g1,hk,Bool.true_and]
 ·have h': ¬ ((a+1:Nat):Int) < (l.length:Int):=by omega
  have hk:decide ((sgD l (a+1)).kind=3)=false:=by rw [qjS (by omega)];rfl
  rw [hk,Bool.false_and]
  simp only [go_sem,qa,qb,qc,qd,qe,qf,reduceCtorEq,Yh,e1,e2,h',List.length_map]
theorem qAz(l:List Sg) (τ:Bool) (hg:GoodL l) (i:Nat) (nm:List Str) (d:Int) (hk:(sgD l i).kind=1) (hm:isM l (i+1) [41]=true):
 cw qg Xt [.b (.a [.i τ (l.map Sg.v),I i,B false,I (d),.o 1 (List.map S nm)])]=some (oT (.mk 2 (sgD l i).text 0 []),[.b (.a [.i τ (l.map Sg.v),I ((i+2:Nat):Int),B false,I (d),.o 1 (List.map S nm)])]):=by
 have hlen:=hg.len
 have hlt:=ym hm
 have s:=zR l τ hlen i (by omega) (.i true (nm.map S)) d false 1 []
 rw [yl l i 1 (by decide),decide_eq_true hk]at s
 have e1:w64 ((i:Int)+1)=((i+1:Nat):Int):=by rw [qm]<;>omega
 have e2:w64 ((i:Int)+2)=((i+2:Nat):Int):=by rw [qm]<;>omega
 have e3:w64 (((i+2:Nat):Int) - 2)=(i:Int):=by rw [qm]<;>omega
 have h':((i+1:Nat):Int) < (l.length:Int):=by omega
 have g0:=zu (f:=Sg.v) (xN (l:=l) (i:=i) (by omega))
 have a0:=fun T=>qZ (τ:=τ) (T:=T) (e:=5) g0 rfl
 rw [Sg.v]at g0
 have g1:=zu (f:=Sg.v) (xN hlt.1)
 have a1:=fun T=>qZ (τ:=τ) (T:=T) (e:=5) g1 rfl
 rw [Sg.v,hlt.2.1,hlt.2.2]at g1
 have nk:=X3 (sgD l i).text
 rw [zj]at nk
 rw [qI qnY rfl,zj]
 simp only [go_sem,qa,qb,qc,qd,qe,qf,reduceCtorEq,QK,qw,s,e1,e2,e3,h',List.length_map,a0,g0,a1,g1,nk,Bool.not_false,Bool.true_and]
theorem qo9(l:List Sg) (τ:Bool) (hg:GoodL l) (i:Nat) (hi:i≤l.length) (nm:List Str) (d:Int) (hn: ¬ ((sgD l i).kind=1∧isM l (i+1) [41]=true)) (t:Tm) (a:Nat) (ha:a≤2^30) (nm1:List Str) (d1:Int) (b1:Bool)
 (hT:cw qg yc [.b (.a [.i τ (l.map Sg.v),I i,B false,I (d),.o 1 (List.map S nm)]),I 1200]=some (oT t,[.b (.a [.i τ (l.map Sg.v),I a,B b1,I (d1),.o 1 (List.map S nm1)]),I 1200])):
 (b1=false→isM l a [41]=true→cw qg Xt [.b (.a [.i τ (l.map Sg.v),I i,B false,I (d),.o 1 (List.map S nm)])]=some (oT t,[.b (.a [.i τ (l.map Sg.v),I ((a+1:Nat):Int),B false,I (d1),.o 1 (List.map S nm1)])]))∧
 ((!b1&&isM l a [41])=false→cw qg Xt [.b (.a [.i τ (l.map Sg.v),I i,B false,I (d),.o 1 (List.map S nm)])]=some (oT t,[.b (.a [.i τ (l.map Sg.v),I a,B true,I (d1),.o 1 (List.map S nm1)])])):=by
 have hlen:=hg.len
 have s:=zR l τ hlen i (by omega) (.i true (nm.map S)) d false 1 []
 rw [yl l i 1 (by decide)]at s
 have e1:w64 ((i:Int)+1)=((i+1:Nat):Int):=by rw [qm]<;>omega
 rw [qv t]at hT
 have tk: ∀ x:Tm,(x.kids.map oT).take x.kids.length=x.kids.map oT:=fun x=>List.take_of_length_le (by simp)
 have go: ∀ (x:Nat) (y:Bool),cw qg Qh [.b (.a [.i τ (l.map Sg.v),I a,B b1,I (d1),.o 1 (List.map S nm1)]),S [41]]=some (.t [],[.b (.a [.i τ (l.map Sg.v),I x,B y,I (d1),.o 1 (List.map S nm1)]),S [41]])→
  cw qg Xt [.b (.a [.i τ (l.map Sg.v),I i,B false,I (d),.o 1 (List.map S nm)])]=some (oT t,[.b (.a [.i τ (l.map Sg.v),I x,B y,I (d1),.o 1 (List.map S nm1)])]):=by
  intro x y wt
  rw [qI qnY rfl,qv t]
  by_cases hk:(sgD l i).kind=1
  ·have hlt0:i < l.length:=yW (by rw [hk];decide)
   rw [decide_eq_true hk]at s
   by_cases h1:i+1 < l.length
   ·have h':((i+1:Nat):Int) < (l.length:Int):=by omega
    have g1:=zu (f:=Sg.v) (xN h1)
    have a1:=fun T=>qZ (τ:=τ) (T:=T) (e:=5) g1 rfl
    rw [Sg.v]at g1
    have hm:isM l (i+1) [41]=false:=by
     cases h:isM l (i+1) [41]with
     |true=>exact absurd ⟨hk,h⟩ hn
     |false=>rfl
    unfold isM at hm
    cases k4:decide ((sgD l (i+1)).kind=4)with
    |false=>simp only [go_sem,qa,qb,qc,qd,qe,qf,reduceCtorEq,QK,qw,s,e1,h',List.length_map,a1,g1,k4,hT,wt,tk,Bool.not_false,Bool.true_and]
    |true=>
     rw [k4,Bool.true_and]at hm
     simp only [go_sem,qa,qb,qc,qd,qe,qf,reduceCtorEq,QK,qw,s,e1,h',List.length_map,a1,g1,k4,hm,hT,wt,tk,Bool.not_false,Bool.true_and]
   ·have h': ¬ ((i+1:Nat):Int) < (l.length:Int):=by omega
    simp only [go_sem,qa,qb,qc,qd,qe,qf,reduceCtorEq,QK,qw,s,e1,h',List.length_map,hT,wt,tk,Bool.not_false,Bool.true_and]
  ·rw [decide_eq_false hk]at s
   simp only [go_sem,qa,qb,qc,qd,qe,qf,reduceCtorEq,QK,qw,s,hT,wt,tk,Bool.not_false,Bool.true_and]
 refine ⟨?_, ?_⟩
 ·intro hb hm
  subst hb
  exact go _ _ (qgB l τ hlen a (by omega) nm1 d1 [41] (by decide) hm)
 ·intro hm
  exact go _ _ (qaw l τ hlen a (by omega) nm1 d1 b1 [41] (by decide) hm)
end Go.Vm
namespace Go.Vm
end Go.Vm
namespace Go.Vm
theorem qpu(l:List Sg) (τ:Bool) (a:Int) (nm:List Str) (d:Int) (b:Bool) (gs:List Tm) (hgs:gs.length≤2^30): ∀ (m:Nat),m≤gs.length→ ∀ (out:Tm),
 lw qg qb2 ⟨[(0,.p (0,0) 0 0),(2,.p (100000,0) 0 0),(3,.s (100000,1) 0 gs.length),(4,.p (100000,2) 0 0),(5,I (((m:Nat):Int) - 1))],[((0,0),5,[.a [.i τ (l.map Sg.v),I a,B b,I (d),.o 1 (List.map S nm)]]),((100000,0),4,[.a [I 0,S [],I 0,.s (100000,3) 0 0]]),((100000,1),4,(((gs.take m).map oT++(gs.drop m).map dT))),((100000,2),4,[.a [I (Tm.kind out),S (Tm.name out),I (Tm.num out),.s (100000,4) 0 (Tm.kids out).length]]),((100000,3),4,[]),((100000,4),4,(Tm.kids out).map oT)]⟩=
  some (.exit 2,⟨[(0,.p (0,0) 0 0),(2,.p (100000,0) 0 0),(4,.p (100000,2) 0 0)],[((0,0),5,[.a [.i τ (l.map Sg.v),I a,B b,I (d),.o 1 (List.map S nm)]]),((100000,0),4,[.a [I 0,S [],I 0,.s (100000,3) 0 0]]),((100000,1),4,gs.map dT),((100000,2),4,[.a [I (xu (gs.take m) out).kind,S (xu (gs.take m) out).name,I (xu (gs.take m) out).num,.s (100000,4) 0 (xu (gs.take m) out).kids.length]]),((100000,3),4,[]),((100000,4),4,(xu (gs.take m) out).kids.map oT)]⟩)
 |0,hm,out=>by
  have h1:((0:Nat):Int) - 1= -1:=rfl
  have h2: ¬ (0:Int)≤ -1:=by decide
  rw [ql,h1]
  simp only [List.take_zero,List.drop_zero,List.map_nil,List.nil_append,xu]
  simp only [go_sem,qa,qb,qc,qd,qe,qf,reduceCtorEq,qfm,h2]
 |k+1,hm,out=>by
  have hk:k < gs.length:=hm
  obtain ⟨g,hgk⟩:=qV (l:=gs) (i:=k) hk
  have h1:((k+1:Nat):Int) - 1=(k:Int):=by omega
  have hge:(0:Int)≤k:=by omega
  have hlen:((gs.take k).map oT).length=k:=by rw [List.length_map,List.length_take];omega
  have ix:=fun y=>x3 (k:=(100000,1)) (e:=4) (xs:=(gs.take k).map oT++y::(gs.drop (k+1)).map dT) (i:=k) (len:=gs.length) (by omega) (by simp only [List.length_append,List.length_map,List.length_take,List.length_cons,List.length_drop];omega)
  have cg:=fun y zs=>qry ((gs.take k).map oT) y zs k hlen
  have cs:=fun y y' zs=>qrA ((gs.take k).map oT) y y' zs k hlen
  have st:=qfR [46] g out
  rw [YJ]at st
  simp only [List.map_cons,List.map_nil,qv g,qv out]at st
  have tk: ∀ x:Tm,(x.kids.map oT).take x.kids.length=x.kids.map oT:=fun x=>List.take_of_length_le (by simp)
  have rp:=fun k' ob (y:V) (ys:List V)=>QA k' ob ((gs.take k).map oT) (y::ys) (Q1 _)
  have hrow:(gs.take (k+1)).map oT++(gs.drop (k+1)).map dT=(gs.take k).map oT++oT g::(gs.drop (k+1)).map dT:=(qAD (f:=oT) hgk _).symm
  have hdrop:gs.drop k=g::gs.drop (k+1):=by
   obtain ⟨h3,h4⟩:=List.getElem?_eq_some_iff.1 hgk
   rw [← h4];exact List.drop_eq_getElem_cons h3
  have hml:xu (gs.take (k+1)) out=xu (gs.take k) (.mk 4 [46] 0 [g,out]):=by
   obtain ⟨h3,h4⟩:=List.getElem?_eq_some_iff.1 hgk
   rw [List.take_succ_eq_append_getElem h3,h4,qnm]
  have ih:=qpu l τ a nm d b gs hgs k (by omega) (.mk 4 [46] 0 [g,out])
  have e1:w64 ((k:Int) - 1)=(k:Int) - 1:=by rw [qm]<;>omega
  have nl:=qnw 0 ((g::gs.drop (k+1)).map dT) (fun i=>qnx 0 _ i) (gs.take k) 0
  have rl:=fun tb=>qoV tb ((g::gs.drop (k+1)).map dT) (qoW tb _) (gs.take k)
  rw [hml,h1,hrow, ← ih,hdrop,qv g]
  simp only [List.map_cons,List.map_nil,yq,yr,yB,zU,List.length_cons,List.length_nil,qv g,qv out]
  simp only [List.map_cons,dT]at nl rl
  rw [ql]
  simp only [go_sem,qa,qb,qc,qd,qe,qf,reduceCtorEq,qfm,hge,ix,cg,cs,dT,Int.toNat_natCast,st,tk,qmU,qo0,rp,qne,YG,e1,nl,rl,qzR]
theorem qpa(l:List Sg) (τ:Bool) (a:Nat) (nm:List Str) (d:Int) (acc:List Tm):
 lw qg kL ⟨[(0,.p (0,0) 0 0),(2,.p (100000,0) 0 0),(3,.s (100000,1) 0 (acc).length),(4,.p (100000,2) 0 0)],[((0,0),5,[.a [.i τ (l.map Sg.v),I a,B true,I (d),.o 1 (List.map S nm)]]),((100000,0),4,[.a [I 0,S [],I 0,.s (100000,3) 0 0]]),((100000,1),4,(acc).map oT),((100000,2),4,[.a [I 2,S [91,93],I 0,.s (100000,4) 0 0]]),((100000,3),4,[]),((100000,4),4,[])]⟩=some (.exit 0,⟨[(0,.p (0,0) 0 0),(2,.p (100000,0) 0 0),(3,.s (100000,1) 0 (acc).length),(4,.p (100000,2) 0 0)],[((0,0),5,[.a [.i τ (l.map Sg.v),I a,B true,I (d),.o 1 (List.map S nm)]]),((100000,0),4,[.a [I 0,S [],I 0,.s (100000,3) 0 0]]),((100000,1),4,(acc).map oT),((100000,2),4,[.a [I 2,S [91,93],I 0,.s (100000,4) 0 0]]),((100000,3),4,[]),((100000,4),4,[])]⟩):=by
 rw [ql]
 simp only [go_sem,qa,qb,qc,qd,qe,qf,reduceCtorEq,JL]
theorem qAB(l:List Sg) (τ:Bool) (hg:GoodL l) (i:Nat) (nm:List Str) (d:Int) (acc:List Tm) (hac:acc.length≤2^30) (y:Tm) (a:Nat) (ha:a≤2^40) (nm1:List Str) (d1:Int)
 (hc:cw qg yc [.b (.a [.i τ (l.map Sg.v),I i,B false,I (d),.o 1 (List.map S nm)]),I 999]=some (oT y,[.b (.a [.i τ (l.map Sg.v),I a,B false,I (d1),.o 1 (List.map S nm1)]),I 999])) (hm:isM l a [93]=true):
 lw qg kL ⟨[(0,.p (0,0) 0 0),(2,.p (100000,0) 0 0),(3,.s (100000,1) 0 (acc).length),(4,.p (100000,2) 0 0)],[((0,0),5,[.a [.i τ (l.map Sg.v),I i,B false,I (d),.o 1 (List.map S nm)]]),((100000,0),4,[.a [I 0,S [],I 0,.s (100000,3) 0 0]]),((100000,1),4,(acc).map oT),((100000,2),4,[.a [I 2,S [91,93],I 0,.s (100000,4) 0 0]]),((100000,3),4,[]),((100000,4),4,[])]⟩=some (.exit 0,⟨[(0,.p (0,0) 0 0),(2,.p (100000,0) 0 0),(3,.s (20,0) 0 ((acc).length+1)),(4,.p (100000,2) 0 0)],[((0,0),5,[.a [.i τ (l.map Sg.v),I ((a+1:Nat):Int),B false,I (d1),.o 1 (List.map S nm1)]]),((20,0),4,(acc).map oT++[.a [I (Tm.kind y),S (Tm.name y),I (Tm.num y),.s (18,0) 0 (Tm.kids y).length]]),((19,0),4,[.a [I (Tm.kind y),S (Tm.name y),I (Tm.num y),.s (18,0) 0 (Tm.kids y).length]]),((18,0),4,(Tm.kids y).map oT),((100000,0),4,[.a [I 0,S [],I 0,.s (100000,3) 0 0]]),((100000,2),4,[.a [I 2,S [91,93],I 0,.s (100000,4) 0 0]]),((100000,3),4,[]),((100000,4),4,[])]⟩):=by
 have hlen:=hg.len
 have l1:decide ((acc.length+1)*56≤lim)=true:=decide_eq_true (by rw [qM];omega)
 have l2:decide (acc.length+1≤lim)=true:=decide_eq_true (by rw [qM];omega)
 have tk2:(acc.map oT).take acc.length=acc.map oT:=List.take_of_length_le (by simp)
 have tk: ∀ x:Tm,(x.kids.map oT).take x.kids.length=x.kids.map oT:=fun x=>List.take_of_length_le (by simp)
 have mk:=xP l τ hlen a ha nm1 d1 [93] (by decide) hm
 rw [qv y]at hc
 rw [ql]
 simp only [go_sem,qa,qb,qc,qd,qe,qf,reduceCtorEq,JL,hc,tk2,mk,l1,l2]
theorem qAA(l:List Sg) (τ:Bool) (hg:GoodL l) (i:Nat) (nm:List Str) (d:Int) (acc:List Tm) (hac:acc.length≤2^30) (y:Tm) (a:Nat) (ha:a≤2^40) (nm1:List Str) (d1:Int)
 (hc:cw qg yc [.b (.a [.i τ (l.map Sg.v),I i,B false,I (d),.o 1 (List.map S nm)]),I 999]=some (oT y,[.b (.a [.i τ (l.map Sg.v),I a,B false,I (d1),.o 1 (List.map S nm1)]),I 999])) (hm:isM l a [93]=false) (hb:isM l a [124]=true)
 (r:Tm) (a2:Nat) (nm2:List Str) (d2:Int) (b2:Bool)
 (hr:cw qg yc [.b (.a [.i τ (l.map Sg.v),I ((a+1:Nat):Int),B false,I (d1),.o 1 (List.map S nm1)]),I 999]=some (oT r,[.b (.a [.i τ (l.map Sg.v),I a2,B b2,I (d2),.o 1 (List.map S nm2)]),I 999]))
 (x:Nat) (z:Bool) (hw:cw qg Qh [.b (.a [.i τ (l.map Sg.v),I a2,B b2,I (d2),.o 1 (List.map S nm2)]),S [93]]=some (.t [],[.b (.a [.i τ (l.map Sg.v),I x,B z,I (d2),.o 1 (List.map S nm2)]),S [93]])):
 lw qg kL ⟨[(0,.p (0,0) 0 0),(2,.p (100000,0) 0 0),(3,.s (100000,1) 0 (acc).length),(4,.p (100000,2) 0 0)],[((0,0),5,[.a [.i τ (l.map Sg.v),I i,B false,I (d),.o 1 (List.map S nm)]]),((100000,0),4,[.a [I 0,S [],I 0,.s (100000,3) 0 0]]),((100000,1),4,(acc).map oT),((100000,2),4,[.a [I 2,S [91,93],I 0,.s (100000,4) 0 0]]),((100000,3),4,[]),((100000,4),4,[])]⟩=some (.exit 0,⟨[(0,.p (0,0) 0 0),(2,.p (100000,0) 0 0),(3,.s (20,0) 0 ((acc).length+1)),(4,.p (100000,2) 0 0)],[((0,0),5,[.a [.i τ (l.map Sg.v),I x,B z,I (d2),.o 1 (List.map S nm2)]]),((100000,2),4,[.a [I (Tm.kind r),S (Tm.name r),I (Tm.num r),.s (26,0) 0 (Tm.kids r).length]]),((26,0),4,(Tm.kids r).map oT),((20,0),4,(acc).map oT++[.a [I (Tm.kind y),S (Tm.name y),I (Tm.num y),.s (18,0) 0 (Tm.kids y).length]]),((19,0),4,[.a [I (Tm.kind y),S (Tm.name y),I (Tm.num y),.s (18,0) 0 (Tm.kids y).length]]),((18,0),4,(Tm.kids y).map oT),((100000,0),4,[.a [I 0,S [],I 0,.s (100000,3) 0 0]]),((100000,3),4,[]),((100000,4),4,[])]⟩):=by
 have hlen:=hg.len
 have l1:decide ((acc.length+1)*56≤lim)=true:=decide_eq_true (by rw [qM];omega)
 have l2:decide (acc.length+1≤lim)=true:=decide_eq_true (by rw [qM];omega)
 have tk2:(acc.map oT).take acc.length=acc.map oT:=List.take_of_length_le (by simp)
 have tk: ∀ x:Tm,(x.kids.map oT).take x.kids.length=x.kids.map oT:=fun x=>List.take_of_length_le (by simp)
 have mk:=xC l τ hlen a ha nm1 d1 false [93] (by decide) (by rw [hm];rfl)
 have mk2:=xP l τ hlen a ha nm1 d1 [124] (by decide) hb
 rw [qv y]at hc
 rw [qv r]at hr
 rw [ql]
 simp only [go_sem,qa,qb,qc,qd,qe,qf,reduceCtorEq,JL,hc,hr,tk2,tk,mk,mk2,hw,l1,l2]
theorem qj8(l:List Sg) (τ:Bool) (hg:GoodL l) (i:Nat) (nm:List Str) (d:Int) (acc:List Tm) (hac:acc.length≤2^30) (y:Tm) (a:Nat) (ha:a≤2^40) (nm1:List Str) (d1:Int) (b1:Bool)
 (hc:cw qg yc [.b (.a [.i τ (l.map Sg.v),I i,B false,I (d),.o 1 (List.map S nm)]),I 999]=some (oT y,[.b (.a [.i τ (l.map Sg.v),I a,B b1,I (d1),.o 1 (List.map S nm1)]),I 999])) (hm:(!b1&&isM l a [93])=false) (hb:(!b1&&isM l a [124])=false)
 (x:Nat) (z:Bool) (hw:cw qg Qh [.b (.a [.i τ (l.map Sg.v),I a,B b1,I (d1),.o 1 (List.map S nm1)]),S [44]]=some (.t [],[.b (.a [.i τ (l.map Sg.v),I x,B z,I (d1),.o 1 (List.map S nm1)]),S [44]])):
 lw qg kL ⟨[(0,.p (0,0) 0 0),(2,.p (100000,0) 0 0),(3,.s (100000,1) 0 (acc).length),(4,.p (100000,2) 0 0)],[((0,0),5,[.a [.i τ (l.map Sg.v),I i,B false,I (d),.o 1 (List.map S nm)]]),((100000,0),4,[.a [I 0,S [],I 0,.s (100000,3) 0 0]]),((100000,1),4,(acc).map oT),((100000,2),4,[.a [I 2,S [91,93],I 0,.s (100000,4) 0 0]]),((100000,3),4,[]),((100000,4),4,[])]⟩=lw qg kL ⟨[(0,.p (0,0) 0 0),(2,.p (100000,0) 0 0),(3,.s (100000,1) 0 ((acc++[y])).length),(4,.p (100000,2) 0 0)],[((0,0),5,[.a [.i τ (l.map Sg.v),I x,B z,I (d1),.o 1 (List.map S nm1)]]),((100000,0),4,[.a [I 0,S [],I 0,.s (100000,3) 0 0]]),((100000,1),4,((acc++[y])).map oT),((100000,2),4,[.a [I 2,S [91,93],I 0,.s (100000,4) 0 0]]),((100000,3),4,[]),((100000,4),4,[])]⟩:=by
 have hlen:=hg.len
 have l1:decide ((acc.length+1)*56≤lim)=true:=decide_eq_true (by rw [qM];omega)
 have l2:decide (acc.length+1≤lim)=true:=decide_eq_true (by rw [qM];omega)
 have tk2:(acc.map oT).take acc.length=acc.map oT:=List.take_of_length_le (by simp)
 have tk: ∀ x:Tm,(x.kids.map oT).take x.kids.length=x.kids.map oT:=fun x=>List.take_of_length_le (by simp)
 have mk:=xC l τ hlen a ha nm1 d1 b1 [93] (by decide) hm
 have mk2:=xC l τ hlen a ha nm1 d1 b1 [124] (by decide) hb
 rw [qv y]at hc
 have rp:=fun k' ob (y:V) (ys:List V)=>QA k' ob (acc.map oT) (y::ys) (Q1 _)
 simp only [List.map_append,List.map_cons,List.map_nil,List.length_append,List.length_cons,List.length_nil,qv y]
 rw [ql]
 simp only [go_sem,qa,qb,qc,qd,qe,qf,reduceCtorEq,JL,hc,tk2,tk,mk,mk2,hw,l1,l2,rp,Option.map_some,YG]
def EXr(l:List Sg) (τ:Bool) (a:Nat) (nm:List Str) (d:Int) (b:Bool) (ks:List Tm) (out:Tm) (st:St):Prop:=
 (b=true∧out=xL∧st=⟨[(0,.p (0,0) 0 0),(2,.p (100000,0) 0 0),(3,.s (100000,1) 0 (ks).length),(4,.p (100000,2) 0 0)],[((0,0),5,[.a [.i τ (l.map Sg.v),I a,B true,I (d),.o 1 (List.map S nm)]]),((100000,0),4,[.a [I 0,S [],I 0,.s (100000,3) 0 0]]),((100000,1),4,(ks).map oT),((100000,2),4,[.a [I 2,S [91,93],I 0,.s (100000,4) 0 0]]),((100000,3),4,[]),((100000,4),4,[])]⟩)∨(b=false∧out=xL∧ ∃ (acc:List Tm) (y:Tm),ks=acc++[y]∧st=⟨[(0,.p (0,0) 0 0),(2,.p (100000,0) 0 0),(3,.s (20,0) 0 ((acc).length+1)),(4,.p (100000,2) 0 0)],[((0,0),5,[.a [.i τ (l.map Sg.v),I a,B false,I (d),.o 1 (List.map S nm)]]),((20,0),4,(acc).map oT++[.a [I (Tm.kind y),S (Tm.name y),I (Tm.num y),.s (18,0) 0 (Tm.kids y).length]]),((19,0),4,[.a [I (Tm.kind y),S (Tm.name y),I (Tm.num y),.s (18,0) 0 (Tm.kids y).length]]),((18,0),4,(Tm.kids y).map oT),((100000,0),4,[.a [I 0,S [],I 0,.s (100000,3) 0 0]]),((100000,2),4,[.a [I 2,S [91,93],I 0,.s (100000,4) 0 0]]),((100000,3),4,[]),((100000,4),4,[])]⟩)∨(∃ (acc:List Tm) (y:Tm),ks=acc++[y]∧st=⟨[(0,.p (0,0) 0 0),(2,.p (100000,0) 0 0),(3,.s (20,0) 0 ((acc).length+1)),(4,.p (100000,2) 0 0)],[((0,0),5,[.a [.i τ (l.map Sg.v),I a,B b,I (d),.o 1 (List.map S nm)]]),((100000,2),4,[.a [I (Tm.kind out),S (Tm.name out),I (Tm.num out),.s (26,0) 0 (Tm.kids out).length]]),((26,0),4,(Tm.kids out).map oT),((20,0),4,(acc).map oT++[.a [I (Tm.kind y),S (Tm.name y),I (Tm.num y),.s (18,0) 0 (Tm.kids y).length]]),((19,0),4,[.a [I (Tm.kind y),S (Tm.name y),I (Tm.num y),.s (18,0) 0 (Tm.kids y).length]]),((18,0),4,(Tm.kids y).map oT),((100000,0),4,[.a [I 0,S [],I 0,.s (100000,3) 0 0]]),((100000,3),4,[]),((100000,4),4,[])]⟩)
theorem qAC(l:List Sg) (τ:Bool) (hg:GoodL l) (i:Nat) (hi:i≤l.length) (nm:List Str) (d:Int) (hn:isM l i [93]=false) (a:Nat) (nm1:List Str) (d1:Int) (b1:Bool) (ks:List Tm) (hk:ks.length≤2^30) (out:Tm) (st:St) (he:EXr l τ a nm1 d1 b1 ks out st)
 (hl:lw qg kL ⟨[(0,.p (0,0) 0 0),(2,.p (100000,0) 0 0),(3,.s (100000,1) 0 (([]:List Tm)).length),(4,.p (100000,2) 0 0)],[((0,0),5,[.a [.i τ (l.map Sg.v),I i,B false,I (d),.o 1 (List.map S nm)]]),((100000,0),4,[.a [I 0,S [],I 0,.s (100000,3) 0 0]]),((100000,1),4,(([]:List Tm)).map oT),((100000,2),4,[.a [I 2,S [91,93],I 0,.s (100000,4) 0 0]]),((100000,3),4,[]),((100000,4),4,[])]⟩=some (.exit 0,st)):
 cw qg qbx [.b (.a [.i τ (l.map Sg.v),I i,B false,I (d),.o 1 (List.map S nm)])]=some (oT (xu ks out),[.b (.a [.i τ (l.map Sg.v),I a,B b1,I (d1),.o 1 (List.map S nm1)])]):=by
 have hlen:=hg.len
 have mk:=xC l τ hlen i (by omega) nm d false [93] (by decide) (by rw [hn];rfl)
 have at1:=X3 [91,93]
 rw [zj]at at1
 have e2:w64 ((ks.length:Int) - 1)=(ks.length:Int) - 1:=by rw [qm]<;>omega
 have tk: ∀ x:Tm,(x.kids.map oT).take x.kids.length=x.kids.map oT:=fun x=>List.take_of_length_le (by simp)
 have lp:=qpu l τ a nm1 d1 b1 ks hk ks.length (Nat.le_refl _) out
 rw [List.take_of_length_le (Nat.le_refl _),List.drop_of_length_le (Nat.le_refl _),List.map_nil,List.append_nil]at lp
 simp only [List.map_nil,List.length_nil]at hl
 rw [qI qnZ rfl,qv (xu ks out)]
 rcases he with ⟨rfl,rfl,rfl⟩|⟨rfl,rfl,acc,y,rfl,rfl⟩|⟨acc,y,rfl,rfl⟩
 ·have tk2:(ks.map oT).take ks.length=ks.map oT:=List.take_of_length_le (by simp)
  have lp':=lp
  unfold xL at lp'
  simp only [yq,yr,yB,zU,List.map_nil,List.length_nil]at lp'
  unfold xL
  simp only [go_sem,qa,qb,qc,qd,qe,qf,reduceCtorEq,Zx,qw,mk,at1,hl,e2,tk,tk2,lp']
 ·have rp:=fun k' ob (y:V) (ys:List V)=>QA k' ob (acc.map oT) (y::ys) (Q1 _)
  have lp':=lp
  unfold xL at lp'
  simp only [yq,yr,yB,zU,List.map_nil,List.length_nil,List.length_append,List.length_cons]at lp' e2
  unfold xL
  simp only [go_sem,qa,qb,qc,qd,qe,qf,reduceCtorEq,Zx,qw,mk,at1,hl,e2,tk,lp',rp,Option.map_some,YG,List.length_append,List.length_map,List.length_cons,List.length_nil]
 ·have rp:=fun k' ob (y:V) (ys:List V)=>QA k' ob (acc.map oT) (y::ys) (Q1 _)
  have lp':=lp
  simp only [List.map_nil,List.length_nil,List.length_append,List.length_cons]at lp' e2
  simp only [go_sem,qa,qb,qc,qd,qe,qf,reduceCtorEq,Zx,qw,mk,at1,hl,e2,tk,lp',rp,Option.map_some,YG,List.length_append,List.length_map,List.length_cons,List.length_nil]
theorem qAE(l:List Sg) (τ:Bool) (hg:GoodL l) (i:Nat) (hi:i≤l.length) (nm:List Str) (d:Int) (hn:isM l i [93]=true):
 cw qg qbx [.b (.a [.i τ (l.map Sg.v),I i,B false,I (d),.o 1 (List.map S nm)])]=some (oT xL,[.b (.a [.i τ (l.map Sg.v),I ((i+1:Nat):Int),B false,I (d),.o 1 (List.map S nm)])]):=by
 have hlen:=hg.len
 have mk:=xP l τ hlen i (by omega) nm d [93] (by decide) hn
 have at1:=X3 [91,93]
 rw [zj]at at1
 rw [qI qnZ rfl]
 unfold xL
 rw [zj]
 simp only [go_sem,qa,qb,qc,qd,qe,qf,reduceCtorEq,Zx,qw,mk,at1]
end Go.Vm
namespace Go.Vm
def SR(l:List Sg) (τ:Bool) (n:Nat):Prop:= ∀ (i:Nat) (nm:List Str) (d:Nat) (acc:List Tm),4*(l.length - i)+4≤n→i≤l.length→nm.length≤i→acc.length≤i→d≤130→
 (pC l n i nm d acc=none→ ∃ (ks:List Tm) (a:Nat) (nm':List Str) (d':Int) (st:St),a≤l.length+8*n∧ks.length≤l.length+1∧EXr l τ a nm' d' true ks xL st∧lw qg kL ⟨[(0,.p (0,0) 0 0),(2,.p (100000,0) 0 0),(3,.s (100000,1) 0 (acc).length),(4,.p (100000,2) 0 0)],[((0,0),5,[.a [.i τ (l.map Sg.v),I i,B false,I (d),.o 1 (List.map S nm)]]),((100000,0),4,[.a [I 0,S [],I 0,.s (100000,3) 0 0]]),((100000,1),4,(acc).map oT),((100000,2),4,[.a [I 2,S [91,93],I 0,.s (100000,4) 0 0]]),((100000,3),4,[]),((100000,4),4,[])]⟩=some (.exit 0,st))∧
 (∀ ks i' nm',pC l n i nm d acc=some (ks,i',nm')→ks.length≤i'∧
  (isM l i' [93]=true→ ∃ st,EXr l τ (i'+1) nm' d false ks xL st∧lw qg kL ⟨[(0,.p (0,0) 0 0),(2,.p (100000,0) 0 0),(3,.s (100000,1) 0 (acc).length),(4,.p (100000,2) 0 0)],[((0,0),5,[.a [.i τ (l.map Sg.v),I i,B false,I (d),.o 1 (List.map S nm)]]),((100000,0),4,[.a [I 0,S [],I 0,.s (100000,3) 0 0]]),((100000,1),4,(acc).map oT),((100000,2),4,[.a [I 2,S [91,93],I 0,.s (100000,4) 0 0]]),((100000,3),4,[]),((100000,4),4,[])]⟩=some (.exit 0,st))∧
  (isM l i' [124]=true→ ∀ (r:Tm) (a2:Nat) (nm2:List Str) (d2:Int) (b2:Bool) (x:Nat) (z:Bool),
   cw qg yc [.b (.a [.i τ (l.map Sg.v),I ((i'+1:Nat):Int),B false,I (d),.o 1 (List.map S nm')]),I 999]=some (oT r,[.b (.a [.i τ (l.map Sg.v),I a2,B b2,I (d2),.o 1 (List.map S nm2)]),I 999])→
   cw qg Qh [.b (.a [.i τ (l.map Sg.v),I a2,B b2,I (d2),.o 1 (List.map S nm2)]),S [93]]=some (.t [],[.b (.a [.i τ (l.map Sg.v),I x,B z,I (d2),.o 1 (List.map S nm2)]),S [93]])→
   ∃ st,EXr l τ x nm2 d2 z ks r st∧lw qg kL ⟨[(0,.p (0,0) 0 0),(2,.p (100000,0) 0 0),(3,.s (100000,1) 0 (acc).length),(4,.p (100000,2) 0 0)],[((0,0),5,[.a [.i τ (l.map Sg.v),I i,B false,I (d),.o 1 (List.map S nm)]]),((100000,0),4,[.a [I 0,S [],I 0,.s (100000,3) 0 0]]),((100000,1),4,(acc).map oT),((100000,2),4,[.a [I 2,S [91,93],I 0,.s (100000,4) 0 0]]),((100000,3),4,[]),((100000,4),4,[])]⟩=some (.exit 0,st))∧
  (isM l i' [93]=false→isM l i' [124]=false→ ∃ st,EXr l τ i' nm' d true ks xL st∧lw qg kL ⟨[(0,.p (0,0) 0 0),(2,.p (100000,0) 0 0),(3,.s (100000,1) 0 (acc).length),(4,.p (100000,2) 0 0)],[((0,0),5,[.a [.i τ (l.map Sg.v),I i,B false,I (d),.o 1 (List.map S nm)]]),((100000,0),4,[.a [I 0,S [],I 0,.s (100000,3) 0 0]]),((100000,1),4,(acc).map oT),((100000,2),4,[.a [I 2,S [91,93],I 0,.s (100000,4) 0 0]]),((100000,3),4,[]),((100000,4),4,[])]⟩=some (.exit 0,st)))
theorem qq0(l:List Sg) (τ:Bool) (hg:GoodL l) (n:Nat) (hn20:n≤2^20) (hT:ST l τ n) (hq: ∀ m,m+1=n→SR l τ m):SR l τ n:=by
 intro i nm d acc hn hi hnm hacc hd
 have hlen:=hg.len
 obtain ⟨ht1,ht2⟩:=hT i nm d 999 (by omega) hi hnm hd
 obtain ⟨m,rfl⟩: ∃ m,n=m+1:=⟨n - 1,by omega⟩
 cases hp:pT l (m+1) i nm d 999 with
 |none=>
  obtain ⟨g,cs,⟨a,nm1,d1,ha,rfl⟩,hc⟩:=ht2 hp
  have pc:pC l (m+1) i nm d acc=none:=by unfold pC;rw [hp]
  rw [pc]
  refine ⟨fun _=> ?_,fun ks i' nm' h=>by cases h⟩
  have h:=qj8 l τ hg i nm d acc (by omega) g a (by omega) nm1 d1 true hc rfl rfl a true (qaw l τ hlen a (by omega) nm1 d1 true [44] (by decide) rfl)
  exact ⟨acc++[g],a,nm1,d1,_,by omega,by simp only [List.length_append,List.length_cons,List.length_nil];omega,.inl ⟨rfl,rfl,rfl⟩,h.trans (qpa l τ a nm1 d1 _)⟩
 |some r=>
  obtain ⟨t,i1,nm1⟩:=r
  have adv:=(Qy l (m+1)).1 _ _ _ _ _ _ _ hp
  have nl:=(ZX l (m+1)).1 _ _ _ _ _ _ _ hp
  have hc:=ht1 _ _ _ hp
  have pc:pC l (m+1) i nm d acc=pB l (m+1) i1 nm1 d (acc++[t]):=by unfold pC;rw [hp]
  have hal:(acc++[t]).length≤i1:=by simp only [List.length_append,List.length_cons,List.length_nil];omega
  rw [pc]
  cases h44:isM l i1 [44]with
  |true=>
   have h:=qj8 l τ hg i nm d acc (by omega) t i1 (by omega) nm1 d false hc (by rw [qcL l i1 [44] [93] h44 (by decide)];rfl) (by rw [qcL l i1 [44] [124] h44 (by decide)];rfl) (i1+1) false (qgB l τ hlen i1 (by omega) nm1 d [44] (by decide) h44)
   have pb:pB l (m+1) i1 nm1 d (acc++[t])=pC l m (i1+1) nm1 d (acc++[t]):=by
    simp only [pB,h44,if_true,pC]
    all_goals (cases pT l m (i1+1) nm1 d 999<;>rfl)
   have hlt:=(ym h44).1
   obtain ⟨k1,k2⟩:=hq m rfl (i1+1) nm1 d (acc++[t]) (by omega) (by omega) (by omega) (by omega) hd
   rw [pb]
   refine ⟨fun h1=> ?_,fun ks i' nm' h1=> ?_⟩
   ·obtain ⟨ks,a,nm',d',st,ha,hkl,he,hl⟩:=k1 h1
    exact ⟨ks,a,nm',d',st,by omega,hkl,he,h.trans hl⟩
   ·obtain ⟨j1,j2,j3,j4⟩:=k2 ks i' nm' h1
    refine ⟨j1,fun h2=> ?_,fun h2 r a2 nm2 d2 b2 x z hr hw=> ?_,fun h2 h3=> ?_⟩
    ·obtain ⟨st,he,hl⟩:=j2 h2
     exact ⟨st,he,h.trans hl⟩
    ·obtain ⟨st,he,hl⟩:=j3 h2 r a2 nm2 d2 b2 x z hr hw
     exact ⟨st,he,h.trans hl⟩
    ·obtain ⟨st,he,hl⟩:=j4 h2 h3
     exact ⟨st,he,h.trans hl⟩
  |false=>
   have pb:pB l (m+1) i1 nm1 d (acc++[t])=some (acc++[t],i1,nm1):=by
    simp only [pB,h44,Bool.false_eq_true,if_false]
   rw [pb]
   refine ⟨fun h=>(by cases h),fun ks i' nm' h1=> ?_⟩
   simp only [Option.some.injEq,Prod.mk.injEq]at h1
   obtain ⟨rfl,rfl,rfl⟩:=h1
   refine ⟨hal,fun h2=> ?_,fun h2 r a2 nm2 d2 b2 x z hr hw=> ?_,fun h2 h3=> ?_⟩
   ·exact ⟨_,.inr (.inl ⟨rfl,rfl,acc,t,rfl,rfl⟩),qAB l τ hg i nm d acc (by omega) t i1 (by omega) nm1 d hc h2⟩
   ·exact ⟨_,.inr (.inr ⟨acc,t,rfl,rfl⟩),qAA l τ hg i nm d acc (by omega) t i1 (by omega) nm1 d hc (qcL l i1 [124] [93] h2 (by decide)) h2 r a2 nm2 d2 b2 hr x z hw⟩
   ·have h:=qj8 l τ hg i nm d acc (by omega) t i1 (by omega) nm1 d false hc (by rw [h2];rfl) (by rw [h3];rfl) i1 true (qaw l τ hlen i1 (by omega) nm1 d false [44] (by decide) (by rw [h44];rfl))
    exact ⟨_,.inl ⟨rfl,rfl,rfl⟩,h.trans (qpa l τ i1 nm1 d _)⟩
theorem qBn(l:List Sg) (τ:Bool) (hg:GoodL l) (i:Nat) (hi:i≤l.length) (nm:List Str) (d:Nat) (most:Int) (hk:(sgD l i).kind=1) (hnr:(sgD l i).near=true) (t:Tm) (a1:Nat) (nm1:List Str) (d1:Int) (b1:Bool)
 (hS:cw qg qeI [.b (.a [.i τ (l.map Sg.v),I ((i+2:Nat):Int),B false,I (d),.o 1 (List.map S nm)]),S (sgD l i).text]=some (oT t,[.b (.a [.i τ (l.map Sg.v),I a1,B b1,I (d1),.o 1 (List.map S nm1)]),S (sgD l i).text])):
 cw qg ZF [.b (.a [.i τ (l.map Sg.v),I i,B false,I (d),.o 1 (List.map S nm)]),I most]=some (.t [oT t,I 0],[.b (.a [.i τ (l.map Sg.v),I a1,B b1,I (d1),.o 1 (List.map S nm1)]),I most]):=by
 have hlen:=hg.len
 have hlt:i < l.length:=yW (by rw [hk];decide)
 have g0:=zu (f:=Sg.v) (xN hlt)
 have a0:=fun T=>qZ (τ:=τ) (T:=T) (e:=5) g0 rfl
 rw [Sg.v]at g0
 have e1:w64 ((i:Int)+1)=((i+1:Nat):Int):=by rw [qm]<;>omega
 have e2:w64 ((i:Int)+2)=((i+2:Nat):Int):=by rw [qm]<;>omega
 have e3:w64 (((i+2:Nat):Int) - 1)=((i+1:Nat):Int):=by rw [qm]<;>omega
 have inf:=YO (sgD l i).text
 have pre:=qau (sgD l i).text
 unfold opV at inf
 unfold Qz at pre
 have nr:=qav l τ hg i hlt (.i true (nm.map S)) d false
 have tk: ∀ x:Tm,(x.kids.map oT).take x.kids.length=x.kids.map oT:=fun x=>List.take_of_length_le (by simp)
 rw [hnr]at g0
 rw [qv t]at hS
 rw [qI qaf rfl,qv t]
 simp only [go_sem,qa,qb,qc,qd,qe,qf,reduceCtorEq,kh,qw,List.length_map,a0,g0,e1,e2,e3,inf,pre,nr,tk,hS]
theorem qBo(l:List Sg) (τ:Bool) (hg:GoodL l) (i:Nat) (hi:i≤l.length) (nm:List Str) (d:Nat) (most:Int) (hk:(sgD l i).kind=1) (hnr:(sgD l i).near=false) (ht:(sgD l i).text=[45]) (hng:jP l i=true):
 cw qg ZF [.b (.a [.i τ (l.map Sg.v),I i,B false,I (d),.o 1 (List.map S nm)]),I most]=some (.t [oT (.mk 3 [] (0 - (sgD l (i+1)).num) []),I 0],[.b (.a [.i τ (l.map Sg.v),I ((i+2:Nat):Int),B false,I (d),.o 1 (List.map S nm)]),I most]):=by
 have hlen:=hg.len
 have hlt:i < l.length:=yW (by rw [hk];decide)
 have g0:=zu (f:=Sg.v) (xN hlt)
 have a0:=fun T=>qZ (τ:=τ) (T:=T) (e:=5) g0 rfl
 rw [Sg.v]at g0
 have e1:w64 ((i:Int)+1)=((i+1:Nat):Int):=by rw [qm]<;>omega
 have e2:w64 ((i:Int)+2)=((i+2:Nat):Int):=by rw [qm]<;>omega
 have e3:w64 (((i+2:Nat):Int) - 1)=((i+1:Nat):Int):=by rw [qm]<;>omega
 have inf:=YO (sgD l i).text
 have pre:=qau (sgD l i).text
 unfold opV at inf
 unfold Qz at pre
 have nr:=qav l τ hg i hlt (.i true (nm.map S)) d false
 have tk: ∀ x:Tm,(x.kids.map oT).take x.kids.length=x.kids.map oT:=fun x=>List.take_of_length_le (by simp)
 rw [hnr]at g0
 rw [hng]at nr
 have hk3:(sgD l (i+1)).kind=3:=by unfold jP at hng;simp only [Bool.and_eq_true,decide_eq_true_eq]at hng;exact hng.1
 have g1:=zu (f:=Sg.v) (xN (l:=l) (i:=i+1) (yW (by rw [hk3];decide)))
 have a1:=fun T=>qZ (τ:=τ) (T:=T) (e:=5) g1 rfl
 rw [Sg.v]at g1
 have en:w64 (0 - (sgD l (i+1)).num)=0 - (sgD l (i+1)).num:=by
  have:=hg.num (i+1)
  rw [qm]<;>omega
 have nk:=qgA (0 - (sgD l (i+1)).num)
 rw [zj]at nk
 rw [ht]at g0
 rw [qI qaf rfl,zj]
 simp only [go_sem,qa,qb,qc,qd,qe,qf,reduceCtorEq,kh,qw,List.length_map,a0,g0,e1,e2,e3,inf,pre,nr,tk,en,nk,a1,g1]
theorem qpm(l:List Sg) (τ:Bool) (hg:GoodL l) (i:Nat) (hi:i≤l.length) (nm:List Str) (d:Nat) (most:Int) (hk:(sgD l i).kind=1) (hnr:(sgD l i).near=false) (hneg:(decide ((sgD l i).text=[45])&&jP l i)=false) (hp:(zO (sgD l i).text).prio ≠ 0) (hm:(zO (sgD l i).text).prio≤most) (x:Tm) (a1:Nat) (nm1:List Str) (d1:Int) (b1:Bool)
 (hT:cw qg yc [.b (.a [.i τ (l.map Sg.v),I ((i+1:Nat):Int),B false,I (d),.o 1 (List.map S nm)]),I (zO (sgD l i).text).right]=some (oT x,[.b (.a [.i τ (l.map Sg.v),I a1,B b1,I (d1),.o 1 (List.map S nm1)]),I (zO (sgD l i).text).right])):
 cw qg ZF [.b (.a [.i τ (l.map Sg.v),I i,B false,I (d),.o 1 (List.map S nm)]),I most]=some (.t [oT (.mk 4 (sgD l i).text 0 [x]),I (zO (sgD l i).text).prio],[.b (.a [.i τ (l.map Sg.v),I a1,B b1,I (d1),.o 1 (List.map S nm1)]),I most]):=by
 have hlen:=hg.len
 have hlt:i < l.length:=yW (by rw [hk];decide)
 have g0:=zu (f:=Sg.v) (xN hlt)
 have a0:=fun T=>qZ (τ:=τ) (T:=T) (e:=5) g0 rfl
 rw [Sg.v]at g0
 have e1:w64 ((i:Int)+1)=((i+1:Nat):Int):=by rw [qm]<;>omega
 have e2:w64 ((i:Int)+2)=((i+2:Nat):Int):=by rw [qm]<;>omega
 have e3:w64 (((i+2:Nat):Int) - 1)=((i+1:Nat):Int):=by rw [qm]<;>omega
 have inf:=YO (sgD l i).text
 have pre:=qau (sgD l i).text
 unfold opV at inf
 unfold Qz at pre
 have nr:=qav l τ hg i hlt (.i true (nm.map S)) d false
 have tk: ∀ x:Tm,(x.kids.map oT).take x.kids.length=x.kids.map oT:=fun x=>List.take_of_length_le (by simp)
 rw [hnr]at g0
 have hp':decide ((zO (sgD l i).text).prio ≠ 0)=true:=decide_eq_true hp
 rw [hp']at pre
 rw [qv x]at hT
 rw [qI qaf rfl,YJ,List.map_cons,List.map_nil,qv x]
 cases ht:decide ((sgD l i).text=[45])with
 |true=>
  rw [ht,Bool.true_and]at hneg
  rw [hneg]at nr
  simp only [go_sem,qa,qb,qc,qd,qe,qf,reduceCtorEq,kh,qw,List.length_map,a0,g0,e1,e2,e3,inf,pre,nr,tk,hT,hm,ht]
 |false=>
  simp only [go_sem,qa,qb,qc,qd,qe,qf,reduceCtorEq,kh,qw,List.length_map,a0,g0,e1,e2,e3,inf,pre,nr,tk,hT,hm,ht]
theorem qBk(l:List Sg) (τ:Bool) (hg:GoodL l) (i:Nat) (hi:i≤l.length) (nm:List Str) (d:Nat) (most:Int) (hk:(sgD l i).kind=1) (hnr:(sgD l i).near=false) (hneg:(decide ((sgD l i).text=[45])&&jP l i)=false) (hp:(zO (sgD l i).text).prio=0) (hq:(qP (sgD l i).text).prio=0):
 cw qg ZF [.b (.a [.i τ (l.map Sg.v),I i,B false,I (d),.o 1 (List.map S nm)]),I most]=some (.t [oT (.mk 2 (sgD l i).text 0 []),I 0],[.b (.a [.i τ (l.map Sg.v),I ((i+1:Nat):Int),B false,I (d),.o 1 (List.map S nm)]),I most]):=by
 have hlen:=hg.len
 have hlt:i < l.length:=yW (by rw [hk];decide)
 have g0:=zu (f:=Sg.v) (xN hlt)
 have a0:=fun T=>qZ (τ:=τ) (T:=T) (e:=5) g0 rfl
 rw [Sg.v]at g0
 have e1:w64 ((i:Int)+1)=((i+1:Nat):Int):=by rw [qm]<;>omega
 have e2:w64 ((i:Int)+2)=((i+2:Nat):Int):=by rw [qm]<;>omega
 have e3:w64 (((i+2:Nat):Int) - 1)=((i+1:Nat):Int):=by rw [qm]<;>omega
 have inf:=YO (sgD l i).text
 have pre:=qau (sgD l i).text
 unfold opV at inf
 unfold Qz at pre
 have nr:=qav l τ hg i hlt (.i true (nm.map S)) d false
 have tk: ∀ x:Tm,(x.kids.map oT).take x.kids.length=x.kids.map oT:=fun x=>List.take_of_length_le (by simp)
 rw [hnr]at g0
 have hp':decide ((zO (sgD l i).text).prio ≠ 0)=false:=decide_eq_false fun h=>h hp
 have hq':decide ((qP (sgD l i).text).prio ≠ 0)=false:=decide_eq_false fun h=>h hq
 rw [hp']at pre
 rw [hq']at inf
 have nk:=X3 (sgD l i).text
 rw [zj]at nk
 rw [qI qaf rfl,zj]
 cases ht:decide ((sgD l i).text=[45])with
 |true=>
  rw [ht,Bool.true_and]at hneg
  rw [hneg]at nr
  simp only [go_sem,qa,qb,qc,qd,qe,qf,reduceCtorEq,kh,qw,List.length_map,a0,g0,e1,e2,e3,inf,pre,nr,tk,nk,ht]
 |false=>
  simp only [go_sem,qa,qb,qc,qd,qe,qf,reduceCtorEq,kh,qw,List.length_map,a0,g0,e1,e2,e3,inf,pre,nr,tk,nk,ht]
theorem qBl(l:List Sg) (τ:Bool) (hg:GoodL l) (i:Nat) (hi:i≤l.length) (nm:List Str) (d:Nat) (most:Int) (hk:(sgD l i).kind=1) (hnr:(sgD l i).near=false) (hneg:(decide ((sgD l i).text=[45])&&jP l i)=false) (hp:(zO (sgD l i).text).prio ≠ 0) (hm: ¬ (zO (sgD l i).text).prio≤most):
 cw qg ZF [.b (.a [.i τ (l.map Sg.v),I i,B false,I (d),.o 1 (List.map S nm)]),I most]=some (.t [oT (.mk 0 [] 0 []),I 0],[.b (.a [.i τ (l.map Sg.v),I i,B true,I (d),.o 1 (List.map S nm)]),I most]):=by
 have hlen:=hg.len
 have hlt:i < l.length:=yW (by rw [hk];decide)
 have g0:=zu (f:=Sg.v) (xN hlt)
 have a0:=fun T=>qZ (τ:=τ) (T:=T) (e:=5) g0 rfl
 rw [Sg.v]at g0
 have e1:w64 ((i:Int)+1)=((i+1:Nat):Int):=by rw [qm]<;>omega
 have e2:w64 ((i:Int)+2)=((i+2:Nat):Int):=by rw [qm]<;>omega
 have e3:w64 (((i+2:Nat):Int) - 1)=((i+1:Nat):Int):=by rw [qm]<;>omega
 have inf:=YO (sgD l i).text
 have pre:=qau (sgD l i).text
 unfold opV at inf
 unfold Qz at pre
 have nr:=qav l τ hg i hlt (.i true (nm.map S)) d false
 have tk: ∀ x:Tm,(x.kids.map oT).take x.kids.length=x.kids.map oT:=fun x=>List.take_of_length_le (by simp)
 rw [hnr]at g0
 have hp':decide ((zO (sgD l i).text).prio ≠ 0)=true:=decide_eq_true hp
 rw [hp']at pre
 rw [qI qaf rfl,zj]
 cases ht:decide ((sgD l i).text=[45])with
 |true=>
  rw [ht,Bool.true_and]at hneg
  rw [hneg]at nr
  simp only [go_sem,qa,qb,qc,qd,qe,qf,reduceCtorEq,kh,qw,List.length_map,a0,g0,e1,e2,e3,inf,pre,nr,tk,hm,ht]
 |false=>
  simp only [go_sem,qa,qb,qc,qd,qe,qf,reduceCtorEq,kh,qw,List.length_map,a0,g0,e1,e2,e3,inf,pre,nr,tk,hm,ht]
theorem qBm(l:List Sg) (τ:Bool) (hg:GoodL l) (i:Nat) (hi:i≤l.length) (nm:List Str) (d:Nat) (most:Int) (hk:(sgD l i).kind=1) (hnr:(sgD l i).near=false) (hneg:(decide ((sgD l i).text=[45])&&jP l i)=false) (hp:(zO (sgD l i).text).prio=0) (hq:(qP (sgD l i).text).prio ≠ 0):
 cw qg ZF [.b (.a [.i τ (l.map Sg.v),I i,B false,I (d),.o 1 (List.map S nm)]),I most]=some (.t [oT (.mk 0 [] 0 []),I 0],[.b (.a [.i τ (l.map Sg.v),I i,B true,I (d),.o 1 (List.map S nm)]),I most]):=by
 have hlen:=hg.len
 have hlt:i < l.length:=yW (by rw [hk];decide)
 have g0:=zu (f:=Sg.v) (xN hlt)
 have a0:=fun T=>qZ (τ:=τ) (T:=T) (e:=5) g0 rfl
 rw [Sg.v]at g0
 have e1:w64 ((i:Int)+1)=((i+1:Nat):Int):=by rw [qm]<;>omega
 have e2:w64 ((i:Int)+2)=((i+2:Nat):Int):=by rw [qm]<;>omega
 have e3:w64 (((i+2:Nat):Int) - 1)=((i+1:Nat):Int):=by rw [qm]<;>omega
 have inf:=YO (sgD l i).text
 have pre:=qau (sgD l i).text
 unfold opV at inf
 unfold Qz at pre
 have nr:=qav l τ hg i hlt (.i true (nm.map S)) d false
 have tk: ∀ x:Tm,(x.kids.map oT).take x.kids.length=x.kids.map oT:=fun x=>List.take_of_length_le (by simp)
 rw [hnr]at g0
 have hp':decide ((zO (sgD l i).text).prio ≠ 0)=false:=decide_eq_false fun h=>h hp
 have hq':decide ((qP (sgD l i).text).prio ≠ 0)=true:=decide_eq_true hq
 rw [hp']at pre
 rw [hq']at inf
 rw [qI qaf rfl,zj]
 cases ht:decide ((sgD l i).text=[45])with
 |true=>
  rw [ht,Bool.true_and]at hneg
  rw [hneg]at nr
  simp only [go_sem,qa,qb,qc,qd,qe,qf,reduceCtorEq,kh,qw,List.length_map,a0,g0,e1,e2,e3,inf,pre,nr,tk,ht]
 |false=>
  simp only [go_sem,qa,qb,qc,qd,qe,qf,reduceCtorEq,kh,qw,List.length_map,a0,g0,e1,e2,e3,inf,pre,nr,tk,ht]
end Go.Vm
