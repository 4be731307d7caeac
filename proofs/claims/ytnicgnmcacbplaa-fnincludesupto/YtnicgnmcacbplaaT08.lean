import Derived.Test.YtnicgnmcacbplaaT03
import Derived.Test.YtnicgnmcacbplaaT06
import Derived.Test.YtnicgnmcacbplaaT07
import Derived.Test.YtnicgnmcacbplaaT05
import Derived.KernelRfl
import Derived.Test.YtnicgnmcacbplaaT04
import Derived.Test.YtnicgnmcacbplaaRows
import Derived.JoinedCond
open Nat renaming reduceAdd → qa, reduceSub → qb, reduceMul → qc, reduceEqDiff → qd, reduceLeDiff → qe, reduceBEq → qf
set_option autoImplicit false
set_option linter.unusedVariables false
set_option linter.unusedSimpArgs false
set_option linter.unusedSectionVars false
namespace Go.Vm
section
variable [Lay] {P:Program} {N n:Nat} {prog:Nat→Option AE}
theorem yO(hK:Ql P prog) {code:Code} {h ac:AC} {st st':St} {x:AX} (ht:trC P N n code h=some ac) (hx:xw prog ac st=some (x,st')) {a:Act} {E:Env} {c:Cnt} (hf:FRel N E st a.tmps c):
 code.wp P (kP n N E c st' a x) a E.w:=by
 obtain ⟨k,hk⟩:=zo.1 hx
 exact (qbC (Zn hK k) k).1 code h ac st st' x ht hk a E c hf
theorem qni {E:Env} {st st':St} {tmps:Array Value} {c:Cnt} {ls:List Nat} {ks:List Key} (hx:xw prog (.nam ls ks .skip) st=some (.normal,st')) (hf:FRel N E st tmps c):
 ∃ E' c',E'.w=E.w∧E'.I=E.I∧(∀ k:Key,k.1 < CN→E'.μ k=E.μ k)∧FRel N E' st' tmps c'∧cle c' c:=by
 rw [qiX,qiY]at hx
 simp only [Option.some.injEq,Prod.mk.injEq,true_and]at hx
 subst hx
 exact qcR ls ks hf
theorem qe6 {g:Nat} {fn:Func} {code:Code} (hg:P.funcs[g]? =some fn) (hb:fn.body=some code) (hname:fn.name ≠ "runtime.NumGoroutine") (args:Array Value) (w:World):
 (callFunc g args).run P w= .ok (.enter g args) w:=by
 simp [callFunc,hg,hname,hb]
theorem qew {o:Oper} {cl:Go.Call} {f:Operand} {g:Nat} {cs:Array Value} {a:Act} {w:World} {fn:Func} {code:Code} (ho:o.op= .call cl) (hfn:cl.callee= .value f) (hv:a.eval f= .func (.func g) #[] cs)
 (hg:P.funcs[g]? =some fn) (hb:fn.body=some code) (hname:fn.name ≠ "runtime.NumGoroutine") {K:Act→World→Prop} {Q:Exit→Act→World→Prop}
 (hC:Calls P g (cl.args.map a.eval++cs) w fun e w''=> ∃ y,e= .returned y∧K (a.put o.dst y) w''):o.wp P a w K Q:=by
 have hrun:(execOp a.eval o).run P w= .ok (.enter g (cl.args.map a.eval++cs)) w:=by
  rw [← qe6 hg hb hname]
  rw [execOp];simp only [ho,resolve,hfn,hv,Deferred.ofValue,invoke,Sem.run_bind,Sem.run_pure,Result.andThen_ok]
  congr 2
  simp
 unfold Oper.wp
 rw [hrun,Oper.upon_enter]
 refine hC.mono ?_
 rintro e w'' ⟨y,rfl,h⟩
 exact h
def loT(l:List Str) (τ:Bool) (fs:List V) (g:Nat):Mem:=[((1,0),1,[.s (100000,0) 0 l.length]),((2,0),1,[.i τ fs]),((3,0),1,[.f (.func g) [] [.p (1,0) 0 0,.p (2,0) 0 0,.p (3,0) 0 0]]),((100000,0),1,l.map S)]
def loA(nm:Str):List V:=[S nm,.p (1,0) 0 0,.p (2,0) 0 0,.p (3,0) 0 0]
def qa6(P:Program) (g:Nat) (nm:Str) (l l':List Str) (τ:Bool) (fs:List V):Prop:=
 ∀ (E:Env) (vs:List Value) (c:Cnt),qj E (loA nm) vs c0→qm E (loT l τ fs g) c→Good E c→
  Calls P g vs.toArray E.w fun e w''=> ∃ y,e= .returned y∧ ∃ E' c',E'.w=w''∧KN 4 E E'∧qm E' (loT l' τ fs g) c'∧Good E' c'∧Adv E c E' c'
theorem qiU {o:Oper} (h:o.guard=none) (y:Nat→Option Bool):Region.wanted o y=true:=by
 unfold Region.wanted;rw [h]
def qam:V→Bool
 | .v _| .i .. =>true
 | .p k _ _=>decide (k.1 < 4)
 |_=>false
theorem qm1 {E E':Env} {c c':Cnt} (hg:Good E c) (hA:Adv E c E' c') (hk:KN 4 E E') {x:V} {y:Value} (hx:qam x=true) (h:Rel E x y c0):Rel E' x y c0:=by
 have hA2:Adv E c {E' with μ:=E.μ} c':=⟨hA.sizes,hA.os,hA.tape,hA.output,hA.size,hA.frame,hA.sub,hA.own,hA.imm⟩
 have hM:Mono E {E' with μ:=E.μ} c0:=KY (ci:=c) (cr:=c0) (by rw [Qz];exact hg) hA2 (fun k l h=>h)
 have h2:=yp h hM
 cases x with
 |v x=>simpa only [Rel]using h2
 |i τ xs=>simpa only [Rel,Env.cl]using h2
 |p k idx off=>
  simp only [qam,decide_eq_true_eq]at hx
  simp only [Rel]at h2 ⊢
  rw [hk k hx]
  exact h2
 |_=>simp [qam]at hx
theorem qm2 {E E':Env} {c c':Cnt} (hg:Good E c) (hA:Adv E c E' c') (hk:KN 4 E E') {σ σ':Sl} {tmps tmps':Array Value} (hσ:zw E σ tmps)
 (hsub: ∀ t x,qz σ' t=some x→qz σ t=some x∧qam x=true∧tmps'[t]? =tmps[t]?):zw E' σ' tmps':=by
 intro t x hx
 obtain ⟨h1,h2,h3⟩:=hsub t x hx
 obtain ⟨y,h4,h5⟩:=hσ t x h1
 exact ⟨y,by rw [h3];exact h4,qm1 hg hA hk h2 h5⟩
end
end Go.Vm
set_option maxHeartbeats 16000000
set_option maxRecDepth 100000
namespace Go.Vm
theorem qks(nm:List Str) (s:Str) (hl:nm.length < 2^36):cw qh XP [.o 1 (nm.map S),S s]=some (.o 1 ((zy nm s).map S),[.d,S s]):=by
 have h:=XL true nm s (by omega)
 have l1:decide ((nm.length+1)*16≤lim)=true:=decide_eq_true (by rw [zu];omega)
 have l2:decide (nm.length+1≤lim)=true:=decide_eq_true (by rw [zu];omega)
 have tk:(nm.map S).take nm.length=nm.map S:=List.take_of_length_le (by simp)
 have tk2:((nm++[s]).map S).take (nm.length+1)=(nm++[s]).map S:=List.take_of_length_le (by simp)
 rw [qZ qg7 rfl]
 unfold zy
 by_cases hm:s ∈ nm
 ·rw [decide_eq_true hm]at h
  rw [if_pos hm]
  simp only [go_sem,qa,qb,qc,qd,qe,qf,reduceCtorEq,jK,qC,h,tk,List.length_map]
 ·rw [decide_eq_false hm]at h
  rw [if_neg hm]
  simp only [go_sem,qa,qb,qc,qd,qe,qf,reduceCtorEq,jK,qC,h,tk,tk2,l1,l2,List.length_map]
def yi(nm:List Str):List Str→List Str
 |[]=>nm
 |s::r=>yi (zy nm s) r
def yg(fs:List Fl):Nat→Nat→List Str→List Str
 |0,_,l=>l
 |n+1,i,l=>match l[i]? with
  |none=>l
  |some s=>yg fs n (i+1) (yi l (qE fs s))
theorem qnm {U nm:List Str} {s:Str} (h: ∀ x ∈ nm,x ∈ U) (hs:s ∈ U): ∀ x ∈ zy nm s,x ∈ U:=by
 intro x hx
 unfold zy at hx
 split at hx
 ·exact h x hx
 ·rcases List.mem_append.1 hx with hx|hx
  ·exact h x hx
  ·simp only [List.mem_cons,List.not_mem_nil,or_false]at hx;subst hx;exact hs
theorem qgU {nm:List Str} {s:Str} (h:nm.Nodup):(zy nm s).Nodup:=by
 unfold zy
 split
 ·exact h
 ·rename_i hn
  rw [List.nodup_append]
  refine ⟨h,by simp, ?_⟩
  intro a ha b hb
  simp only [List.mem_cons,List.not_mem_nil,or_false]at hb
  subst hb
  intro e;subst e;exact hn ha
theorem qgT(nm:List Str) (s:Str):nm.length≤(zy nm s).length:=by
 unfold zy
 split
 ·exact Nat.le_refl _
 ·simp
theorem KB {U:List Str}: ∀ (r nm:List Str),(∀ x ∈ nm,x ∈ U)→(∀ x ∈ r,x ∈ U)→nm.Nodup→(∀ x ∈ yi nm r,x ∈ U)∧(yi nm r).Nodup∧nm.length≤(yi nm r).length
 |[],nm,h1,h2,h3=>⟨h1,h3,Nat.le_refl _⟩
 |s::r,nm,h1,h2,h3=>by
  have:=KB r (zy nm s) (qnm h1 (h2 s List.mem_cons_self)) (fun x hx=>h2 x (List.mem_cons_of_mem _ hx)) (qgU h3)
  have g:=qgT nm s
  simp only [yi]
  exact ⟨this.1,this.2.1,by omega⟩
theorem ZE {U l:List Str} (h: ∀ x ∈ l,x ∈ U) (hn:l.Nodup):l.length≤U.length:=by
 induction l generalizing U with
 |nil=>simp
 |cons x l ih=>
  rw [List.nodup_cons]at hn
  have hx:=h x List.mem_cons_self
  have:=ih (U:=U.erase x) (fun y hy=>by
   have hne:y ≠ x:=fun e=>hn.1 (e ▸ hy)
   exact (List.mem_erase_of_ne hne).2 (h y (List.mem_cons_of_mem _ hy))) hn.2
  rw [List.length_erase_of_mem hx]at this
  have hp:=List.length_pos_of_mem hx
  simp only [List.length_cons];omega
def yf(fs:List Fl) (s:Str):List Str:=s::fs.flatMap fun x=>y8 x.text
theorem js(fs:List Fl) (s0 s:Str): ∀ x ∈ qE fs s,x ∈ yf fs s0:=by
 intro x hx
 have key: ∀ (fs:List Fl) (y:Fl),zR fs s=some y→y ∈ fs:=by
  intro fs
  induction fs with
  |nil=>intro y h;cases h
  |cons z r ih=>
   intro y h
   simp only [zR]at h
   split at h
   ·cases h;exact List.mem_cons_self
   ·exact List.mem_cons_of_mem _ (ih y h)
 unfold qE at hx
 split at hx
 ·rename_i y hy
  exact List.mem_cons_of_mem _ (List.mem_flatMap.2 ⟨y,key fs y hy,hx⟩)
 ·cases hx
theorem QV(fs:List Fl) (s:Str) (h:fs.length≤Lm):(yf fs s).length < 60000000000:=by
 have key: ∀ fs:List Fl,(fs.flatMap fun x=>y8 x.text).length≤3001*fs.length:=by
  intro fs
  induction fs with
  |nil=>simp
  |cons y r ih=>
   have:=qfI y.text
   simp only [List.flatMap_cons,List.length_append,List.length_cons];omega
 have:=key fs
 unfold yf
 simp only [List.length_cons]
 unfold Lm at h;omega
end Go.Vm
namespace Go.Vm
open Go.Proofs
def sq1:Code→Code| .seq x _=>x|_=> .skip
def sq2:Code→Code| .seq _ x=>x|_=> .skip
def bkb:Code→Code| .block _ x=>x|_=> .skip
def lpb:Code→Code| .loop x=>x|_=> .skip
def rgO:Code→Array Oper| .region _ ops _=>ops|_=> #[]
def YV:Option Oper→Oper|some o=>o|none=>default
def clO:Oper→Go.Call|o=>match o.op with| .call c=>c|_=>default
noncomputable def loB:Code:=match Try.f13.body with|some c=>c|none=> .skip
noncomputable def qge:Code:=sq1 loB
noncomputable def qga:Code:=sq1 (sq1 (sq2 loB))
noncomputable def ZA:Code:=lpb (bkb (sq2 (sq1 (sq2 loB))))
noncomputable def qgf:Code:=sq2 (sq2 loB)
noncomputable def qgb:Code:=sq1 ZA
noncomputable def qgc:Code:=sq1 (bkb (sq1 (sq2 (sq2 ZA))))
noncomputable def qag:Code:=sq2 (bkb (sq1 (sq2 (sq2 ZA))))
noncomputable def qgd:Code:=sq2 (sq2 (sq2 ZA))
theorem qcu:Try.f13.body=some (.seq qge (.seq (.seq qga (.block 0 (.loop ZA))) qgf)):=by kernel_rfl
theorem qf9:ZA= .seq qgb (.seq (.cond (.tmp 17) .skip (.exit 0)) (.seq (.block 1 (.seq qgc qag)) qgd)):=by kernel_rfl
noncomputable def k9:Array Oper:=rgO qag
noncomputable def YT:Oper:=YV k9[0]?
noncomputable def YU:Oper:=YV k9[1]?
noncomputable def jZ:Oper:=YV k9[2]?
theorem qmI:qag= .region 4 k9 false:=by kernel_rfl
theorem qmT:k9.size=3:=by kernel_rfl
theorem qmQ:k9[0]? =some YT:=by kernel_rfl
theorem qmR:k9[1]? =some YU:=by kernel_rfl
theorem qmS:k9[2]? =some jZ:=by kernel_rfl
theorem qmP:jZ.op= .call (clO jZ):=by kernel_rfl
theorem qmN:(clO jZ).callee= .value (.tmp 20):=by kernel_rfl
theorem qmM:(clO jZ).args= #[.tmp 21]:=by kernel_rfl
theorem qmO:jZ.guard=none:=by kernel_rfl
theorem qgh:jZ.dst=some 22:=by kernel_rfl
theorem qgg:Try.f13.name ≠ "runtime.NumGoroutine" :=by decide
theorem qmU:Try.f13.results= #[]:=by kernel_rfl
theorem qmL:Try.f13.ntmps=35:=by kernel_rfl
def YR:AC:= .seq (.reg [.ld 9 false 1 (.t 1),.mv 10 (.t 0),.call (some 11) (.c (Fc Yu)) [.t 9,.t 10] (.ro true)]) (.cond (.t 11) (.keep [] .ret) (.nam [0,1,2,3] [(4,0)] .skip))
def qah:AC:= .reg [.ld 12 false 1 (.t 2),.mv 13 (.t 0),.call (some 14) (.c (Fc Qi)) [.t 12,.t 13] (.ro true),.len 15 (.t 14),.mv 16 (.c (I 0))]
def qai:AC:= .reg [.bin 17 .lss (.t 16) (.t 15)]
def qaj:AC:= .reg [.ia 18 1 (.t 14) (.t 16),.ld 19 false 1 (.t 18),.mv 6 (.t 19)]
def qak:AC:= .reg [.bin 23 .add (.t 16) (.c (I 1)),.mv 16 (.t 23)]
def YS:AC:= .seq (.reg [.ld 25 false 1 (.t 2),.mv 26 (.t 0),.call (some 27) (.c (Fc jN)) [.t 25,.t 26] (.ro true),.mv 24 (.t 27),.ext 28 (.t 24) 0,.ext 29 (.t 24) 1,.mv 7 (.t 28),.mv 8 (.t 29)])
 (.seq (.reg [.mv 30 (.t 8)]) (.cond (.t 30) (.keep [0,1,2,3] (.reg [.ld 31 false 1 (.t 1),.mv 32 (.t 0),.mks 33 1 [.t 32],.app 34 1 16 (.t 31) (.t 33),.st 1 (.t 1) (.t 34)])) (.keep [] .skip)))
theorem qgl:trC Try.prog 35 4 qge YR=some YR:=by kernel_rfl
theorem qmX:trC Try.prog 35 4 qga qah=some qah:=by kernel_rfl
theorem qgk:trC Try.prog 35 4 qgb qai=some qai:=by kernel_rfl
theorem qmY:trC Try.prog 35 4 qgc qaj=some qaj:=by kernel_rfl
theorem qmZ:trC Try.prog 35 4 qgd qak=some qak:=by kernel_rfl
theorem qgm:trC Try.prog 35 4 qgf YS=some YS:=by kernel_rfl
theorem qmV:trI Try.prog 35 4 k9 YT (.ld 20 false 1 (.t 3))=some (.ld 20 false 1 (.t 3)):=by kernel_rfl
theorem qmW:trI Try.prog 35 4 k9 YU (.mv 21 (.t 6))=some (.mv 21 (.t 6)):=by kernel_rfl
section
variable (inc:Str→List Str) (has:Str→Bool) (tx:Str→Str) (τ:Bool) (fs:List V)
def zq:Nat→Str→List Str→List Str
 |0,_,out=>out
 |n+1,nm,out=>if nm ∈ out then out else
  if has nm=true then (inc nm).foldl (fun o x=>zq n x o) out++[nm]else (inc nm).foldl (fun o x=>zq n x o) out
theorem qqE(nm:Str) (l:List Str) (hl:l.length≤2^40) (h:nm ∈ l): ∃ T',xw qh YR ⟨[(0,S nm),(1,.p (1,0) 0 0),(2,.p (2,0) 0 0),(3,.p (3,0) 0 0)],loT l τ fs 13⟩=some (.ret,⟨[],T'⟩)∧T'=loT l τ fs 13:=by
 have c:=XL true l nm hl
 rw [decide_eq_true h]at c
 have tk:(l.map S).take l.length=l.map S:=List.take_of_length_le (by simp)
 refine ⟨_, ?_,rfl⟩
 simp only [go_sem,qa,qb,qc,qd,qe,qf,reduceCtorEq,YR,loT,c,tk,List.length_map]
theorem qqF(nm:Str) (l:List Str) (hl:l.length≤2^40) (h: ¬ nm ∈ l):xw qh YR ⟨[(0,S nm),(1,.p (1,0) 0 0),(2,.p (2,0) 0 0),(3,.p (3,0) 0 0)],loT l τ fs 13⟩=some (.normal,⟨[(0,S nm),(1,.p (1,0) 0 0),(2,.p (2,0) 0 0),(3,.p (3,0) 0 0)],loT l τ fs 13⟩):=by
 have c:=XL true l nm hl
 rw [decide_eq_false h]at c
 have tk:(l.map S).take l.length=l.map S:=List.take_of_length_le (by simp)
 simp only [go_sem,qa,qb,qc,qd,qe,qf,reduceCtorEq,YR,loT,c,tk,List.length_map]
theorem qqJ(hInc: ∀ s,cr qh Qi [.i τ fs,S s]=some (.o 1 ((inc s).map S))) (nm:Str) (l:List Str):xw qh qah ⟨[(0,S nm),(1,.p (1,0) 0 0),(2,.p (2,0) 0 0),(3,.p (3,0) 0 0)],loT l τ fs 13⟩=some (.normal,⟨[(16,I 0),(15,I (inc nm).length),(14,.i false ((inc nm).map S)),(13,S nm),(12,.i τ fs),(0,S nm),(1,.p (1,0) 0 0),(2,.p (2,0) 0 0),(3,.p (3,0) 0 0)],loT l τ fs 13⟩):=by
 have c:=hInc nm
 simp only [go_sem,qa,qb,qc,qd,qe,qf,reduceCtorEq,qah,loT,c,List.length_map]
theorem qiW(nm:Str) (ns l:List Str) (i:Nat) (b:Bool) (hb:decide ((i:Int) < (ns.length:Int))=b):xw qh qai ⟨[(0,S nm),(1,.p (1,0) 0 0),(2,.p (2,0) 0 0),(3,.p (3,0) 0 0),(14,.i false ((ns).map S)),(15,I (ns).length),(16,I (i:Int))],loT l τ fs 13⟩=some (.normal,⟨(17,B b)::[(0,S nm),(1,.p (1,0) 0 0),(2,.p (2,0) 0 0),(3,.p (3,0) 0 0),(14,.i false ((ns).map S)),(15,I (ns).length),(16,I (i:Int))],loT l τ fs 13⟩):=by
 simp only [go_sem,qa,qb,qc,qd,qe,qf,reduceCtorEq,qai,loT,hb,List.length_map]
def YQ:AC:= .cond (.t 17) .skip (.exit 0)
theorem qgj:trC Try.prog 35 4 (.cond (.tmp 17) .skip (.exit 0)) YQ=some YQ:=by kernel_rfl
theorem qqH(nm:Str) (ns l:List Str) (i:Nat):xw qh YQ ⟨(17,B true)::[(0,S nm),(1,.p (1,0) 0 0),(2,.p (2,0) 0 0),(3,.p (3,0) 0 0),(14,.i false ((ns).map S)),(15,I (ns).length),(16,I (i:Int))],loT l τ fs 13⟩=some (.normal,⟨(17,B true)::[(0,S nm),(1,.p (1,0) 0 0),(2,.p (2,0) 0 0),(3,.p (3,0) 0 0),(14,.i false ((ns).map S)),(15,I (ns).length),(16,I (i:Int))],loT l τ fs 13⟩):=by
 simp only [go_sem,qa,qb,qc,qd,qe,qf,reduceCtorEq,YQ,loT]
theorem qqG(nm:Str) (ns l:List Str) (i:Nat):xw qh YQ ⟨(17,B false)::[(0,S nm),(1,.p (1,0) 0 0),(2,.p (2,0) 0 0),(3,.p (3,0) 0 0),(14,.i false ((ns).map S)),(15,I (ns).length),(16,I (i:Int))],loT l τ fs 13⟩=some (.exit 0,⟨(17,B false)::[(0,S nm),(1,.p (1,0) 0 0),(2,.p (2,0) 0 0),(3,.p (3,0) 0 0),(14,.i false ((ns).map S)),(15,I (ns).length),(16,I (i:Int))],loT l τ fs 13⟩):=by
 simp only [go_sem,qa,qb,qc,qd,qe,qf,reduceCtorEq,YQ,loT]
theorem qqK(nm x:Str) (ns l:List Str) (i:Nat) (hx:ns[i]? =some x):xw qh qaj ⟨(17,B true)::[(0,S nm),(1,.p (1,0) 0 0),(2,.p (2,0) 0 0),(3,.p (3,0) 0 0),(14,.i false ((ns).map S)),(15,I (ns).length),(16,I (i:Int))],loT l τ fs 13⟩=some (.normal,⟨(6,S x)::(19,S x)::(18,.q false (ns.map S) i 0)::(17,B true)::[(0,S nm),(1,.p (1,0) 0 0),(2,.p (2,0) 0 0),(3,.p (3,0) 0 0),(14,.i false ((ns).map S)),(15,I (ns).length),(16,I (i:Int))],loT l τ fs 13⟩):=by
 have g:=yy (f:=S) hx
 have a1:=fun T=>yX (τ:=false) (T:=T) (e:=1) g rfl
 simp only [go_sem,qa,qb,qc,qd,qe,qf,reduceCtorEq,qaj,loT,g,a1,List.length_map]
theorem qqL(nm:Str) (ns l:List Str) (i:Nat) (hi:i≤2^40):xw qh qak ⟨[(0,S nm),(1,.p (1,0) 0 0),(2,.p (2,0) 0 0),(3,.p (3,0) 0 0),(14,.i false ((ns).map S)),(15,I (ns).length),(16,I (i:Int))],loT l τ fs 13⟩=some (.normal,⟨(16,I ((i+1:Nat):Int))::(23,I ((i+1:Nat):Int))::[(0,S nm),(1,.p (1,0) 0 0),(2,.p (2,0) 0 0),(3,.p (3,0) 0 0),(14,.i false ((ns).map S)),(15,I (ns).length),(16,I (i:Int))],loT l τ fs 13⟩):=by
 have e1:w64 ((i:Int)+1)=((i+1:Nat):Int):=by rw [qo]<;>omega
 simp only [go_sem,qa,qb,qc,qd,qe,qf,reduceCtorEq,qak,loT,e1]
theorem qqM(hFile: ∀ s,cr qh jN [.i τ fs,S s]=some (.t [S (tx s),B (has s)])) (nm:Str) (l:List Str) (h:has nm=false):xw qh YS ⟨[(0,S nm),(1,.p (1,0) 0 0),(2,.p (2,0) 0 0),(3,.p (3,0) 0 0)],loT l τ fs 13⟩=some (.normal,⟨[],loT l τ fs 13⟩):=by
 have c:=hFile nm
 rw [h]at c
 simp only [go_sem,qa,qb,qc,qd,qe,qf,reduceCtorEq,YS,loT,c]
theorem qqN(hFile: ∀ s,cr qh jN [.i τ fs,S s]=some (.t [S (tx s),B (has s)])) (nm:Str) (l:List Str) (hl:l.length≤60000000000) (h:has nm=true):xw qh YS ⟨[(0,S nm),(1,.p (1,0) 0 0),(2,.p (2,0) 0 0),(3,.p (3,0) 0 0)],loT l τ fs 13⟩=some (.normal,⟨[(34,.s (34,0) 0 (l.length+1)),(33,.s (33,0) 0 1),(32,S nm),(31,.s (100000,0) 0 l.length),(0,S nm),(1,.p (1,0) 0 0),(2,.p (2,0) 0 0),(3,.p (3,0) 0 0)],[((1,0),1,[.s (34,0) 0 (l.length+1)]),((34,0),1,(l++[nm]).map S),((33,0),1,[S nm]),((2,0),1,[.i τ fs]),((3,0),1,[.f (.func 13) [] [.p (1,0) 0 0,.p (2,0) 0 0,.p (3,0) 0 0]])]⟩):=by
 have c:=hFile nm
 rw [h]at c
 have l1:decide ((l.length+1)*16≤lim)=true:=decide_eq_true (by rw [zu];omega)
 have l2:decide (l.length+1≤lim)=true:=decide_eq_true (by rw [zu];omega)
 have tk:(l.map S).take l.length=l.map S:=List.take_of_length_le (by simp)
 simp only [go_sem,qa,qb,qc,qd,qe,qf,reduceCtorEq,YS,loT,c,l1,l2,tk,List.length_map]
theorem qqI(nm:Str) (l:List Str):xw qh (.nam [0,1,2,3] [(4,0)] .skip) ⟨[(34,.s (34,0) 0 (l.length+1)),(33,.s (33,0) 0 1),(32,S nm),(31,.s (100000,0) 0 l.length),(0,S nm),(1,.p (1,0) 0 0),(2,.p (2,0) 0 0),(3,.p (3,0) 0 0)],[((1,0),1,[.s (34,0) 0 (l.length+1)]),((34,0),1,(l++[nm]).map S),((33,0),1,[S nm]),((2,0),1,[.i τ fs]),((3,0),1,[.f (.func 13) [] [.p (1,0) 0 0,.p (2,0) 0 0,.p (3,0) 0 0]])]⟩=some (.normal,⟨[(0,S nm),(1,.p (1,0) 0 0),(2,.p (2,0) 0 0),(3,.p (3,0) 0 0)],loT (l++[nm]) τ fs 13⟩):=by
 have ln:(l++[nm]).length=l.length+1:=by simp
 have tk:((l++[nm]).map S).take (l.length+1)=(l++[nm]).map S:=List.take_of_length_le (by simp)
 simp only [go_sem,qa,qb,qc,qd,qe,qf,reduceCtorEq,loT,ln,tk,List.length_map]
end
def Rk(inc:Str→List Str):Nat→Str→Prop
 |0,_=>False
 |n+1,nm=> ∀ x ∈ inc nm,Rk inc n x
inductive Wy (inc:Str→List Str):Str→Str→Prop
 |one {a b:Str} (h:b ∈ inc a):Wy inc a b
 |more {a b c:Str} (h:b ∈ inc a) (k:Wy inc b c):Wy inc a c
theorem qjc {inc:Str→List Str}: ∀ {a b:Str},Wy inc a b→ ∀ n,Rk inc n a→ ∃ m,m < n∧Rk inc m b:=by
 intro a b h
 induction h with
 |one h=>
  intro n hn
  cases n with
  |zero=>exact hn.elim
  |succ n=>exact ⟨n,Nat.lt_succ_self n,hn _ h⟩
 |more h _ ih=>
  intro n hn
  cases n with
  |zero=>exact hn.elim
  |succ n=>
   obtain ⟨m,h1,h2⟩:=ih n (hn _ h)
   exact ⟨m,by omega,h2⟩
theorem qja {inc:Str→List Str} {a:Str} (h:Wy inc a a): ∀ n,¬ Rk inc n a:=by
 intro n
 induction n using Nat.strongRecOn with
 |ind n ih=>
  intro hn
  obtain ⟨m,h1,h2⟩:=qjc h n hn
  exact ih m h1 h2
def GL(U l:List Str):Prop:=l.Nodup∧ ∀ z ∈ l,z ∈ U
theorem qbv {U l:List Str} (hU:U.length < 60000000000) (h:GL U l):l.length≤60000000000:=by
 have:=ZE h.2 h.1;omega
section
variable {inc:Str→List Str} {has:Str→Bool} {U:List Str} (hI: ∀ s,∀ x ∈ inc s,x ∈ U)
theorem qcG(hI: ∀ s,∀ x ∈ inc s,x ∈ U): ∀ (n:Nat) (nm:Str) (l:List Str),Rk inc n nm→nm ∈ U→GL U l→
 GL U (zq inc has n nm l)∧(∀ z ∈ l,z ∈ zq inc has n nm l)∧(∀ z ∈ zq inc has n nm l,z ∈ l∨z=nm∨Wy inc nm z):=by
 intro n
 induction n with
 |zero=>intro nm l h;exact h.elim
 |succ n ih=>
  intro nm l hr hu hg
  have hfold: ∀ (r:List Str) (o:List Str),(∀ x ∈ r,x ∈ inc nm)→GL U o→
   GL U (r.foldl (fun o x=>zq inc has n x o) o)∧(∀ z ∈ o,z ∈ r.foldl (fun o x=>zq inc has n x o) o)∧(∀ z ∈ r.foldl (fun o x=>zq inc has n x o) o,z ∈ o∨Wy inc nm z):=by
   intro r
   induction r with
   |nil=>intro o _ ho;exact ⟨ho,fun z hz=>hz,fun z hz=> .inl hz⟩
   |cons x r ihr=>
    intro o hx ho
    have hxi:=hx x (by simp)
    obtain ⟨g1,g2,g3⟩:=ih x o (hr x hxi) (hI nm x hxi) ho
    obtain ⟨k1,k2,k3⟩:=ihr _ (fun y hy=>hx y (by simp [hy])) g1
    refine ⟨k1,fun z hz=>k2 z (g2 z hz),fun z hz=> ?_⟩
    rcases k3 z hz with h|h
    ·rcases g3 z h with h|rfl|h
     ·exact .inl h
     ·exact .inr (.one hxi)
     ·exact .inr (.more hxi h)
    ·exact .inr h
  simp only [zq]
  split
  ·exact ⟨hg,fun z hz=>hz,fun z hz=> .inl hz⟩
  ·rename_i hnl
   obtain ⟨f1,f2,f3⟩:=hfold (inc nm) l (fun x hx=>hx) hg
   split
   ·have hno:nm ∉ (inc nm).foldl (fun o x=>zq inc has n x o) l:=fun h=>by
     rcases f3 nm h with h|h
     ·exact hnl h
     ·exact qja h (n+1) hr
    refine ⟨⟨?_, ?_⟩,fun z hz=>List.mem_append.2 (.inl (f2 z hz)),fun z hz=> ?_⟩
    ·rw [List.nodup_append]
     refine ⟨f1.1,List.nodup_cons.2 ⟨by simp,List.nodup_nil⟩, ?_⟩
     intro a ha b hb hab
     simp only [List.mem_singleton]at hb
     subst hab;subst hb
     exact hno ha
    ·intro z hz
     rcases List.mem_append.1 hz with h|h
     ·exact f1.2 z h
     ·simp only [List.mem_singleton]at h;subst h;exact hu
    ·rcases List.mem_append.1 hz with h|h
     ·rcases f3 z h with h|h
      ·exact .inl h
      ·exact .inr (.inr h)
     ·simp only [List.mem_singleton]at h;exact .inr (.inl h)
   ·exact ⟨f1,f2,fun z hz=>by
     rcases f3 z hz with h|h
     ·exact .inl h
     ·exact .inr (.inr h)⟩
end
section
variable (inc:Str→List Str) (has:Str→Bool) (tx:Str→Str) (τ:Bool) (fs:List V)
theorem qcm [Lay] {N:Nat} {E:Env} {st:St} {tmps:Array Value} {c:Cnt} (ls:List Nat) (h:FRel N E st tmps c):FRel N E ⟨zr st.σ ls,st.T⟩ tmps c:=⟨h.sz,qdi h.σ ls,h.T,h.g⟩
def qm0(E:Env) (c:Cnt) (a:Act) (nm:Str) (l':List Str):Exit→Act→World→Prop:=
 fun e a' w'=>e= .exit 0∧a'.defers=a.defers∧ ∃ E' c',E'.w=w'∧FRel 35 E' ⟨[(0,S nm),(1,.p (1,0) 0 0),(2,.p (2,0) 0 0),(3,.p (3,0) 0 0)],loT l' τ fs 13⟩ a'.tmps c'∧KN 4 E E'∧Adv E c E' c'
theorem qmJ(x:Str) (nm:Str) (ns l l1:List Str) (i:Nat) (hE:qa6 Try.prog 13 x l l1 τ fs) (a:Act) (E:Env) (c:Cnt)
 (hf:FRel 35 E ⟨(6,S x)::(19,S x)::(18,.q false (ns.map S) i 0)::(17,B true)::[(0,S nm),(1,.p (1,0) 0 0),(2,.p (2,0) 0 0),(3,.p (3,0) 0 0),(14,.i false ((ns).map S)),(15,I (ns).length),(16,I (i:Int))],loT l τ fs 13⟩ a.tmps c):
 qag.wp Try.prog (fun e a' w'=>e= .normal∧a'.defers=a.defers∧ ∃ E' c',E'.w=w'∧FRel 35 E' ⟨[(0,S nm),(1,.p (1,0) 0 0),(2,.p (2,0) 0 0),(3,.p (3,0) 0 0),(14,.i false ((ns).map S)),(15,I (ns).length),(16,I (i:Int))],loT l1 τ fs 13⟩ a'.tmps c'∧KN 4 E E'∧Adv E c E' c') a E.w:=by
 have hK:=xJ
 rw [qmI]
 refine wp_region ?_
 rw [qmT]
 show wpOps Try.prog k9 _ [0,1,2] a E.w
 simp only [wpOps,qmQ,qmR,qmS]
 have s20:ql (qR qh 0) ⟨(6,S x)::(19,S x)::(18,.q false (ns.map S) i 0)::(17,B true)::[(0,S nm),(1,.p (1,0) 0 0),(2,.p (2,0) 0 0),(3,.p (3,0) 0 0),(14,.i false ((ns).map S)),(15,I (ns).length),(16,I (i:Int))],loT l τ fs 13⟩ (.ld 20 false 1 (.t 3))=some ⟨(20,.f (.func 13) [] [.p (1,0) 0 0,.p (2,0) 0 0,.p (3,0) 0 0])::(6,S x)::(19,S x)::(18,.q false (ns.map S) i 0)::(17,B true)::[(0,S nm),(1,.p (1,0) 0 0),(2,.p (2,0) 0 0),(3,.p (3,0) 0 0),(14,.i false ((ns).map S)),(15,I (ns).length),(16,I (i:Int))],loT l τ fs 13⟩:=by
  simp only [go_sem,qa,qb,qc,qd,qe,qf,reduceCtorEq,loT]
 have s21:ql (qR qh 0) ⟨(20,.f (.func 13) [] [.p (1,0) 0 0,.p (2,0) 0 0,.p (3,0) 0 0])::(6,S x)::(19,S x)::(18,.q false (ns.map S) i 0)::(17,B true)::[(0,S nm),(1,.p (1,0) 0 0),(2,.p (2,0) 0 0),(3,.p (3,0) 0 0),(14,.i false ((ns).map S)),(15,I (ns).length),(16,I (i:Int))],loT l τ fs 13⟩ (.mv 21 (.t 6))=some ⟨(21,S x)::(20,.f (.func 13) [] [.p (1,0) 0 0,.p (2,0) 0 0,.p (3,0) 0 0])::(6,S x)::(19,S x)::(18,.q false (ns.map S) i 0)::(17,B true)::[(0,S nm),(1,.p (1,0) 0 0),(2,.p (2,0) 0 0),(3,.p (3,0) 0 0),(14,.i false ((ns).map S)),(15,I (ns).length),(16,I (i:Int))],loT l τ fs 13⟩:=by
  simp only [go_sem,qa,qb,qc,qd,qe,qf,reduceCtorEq,loT]
 refine Xh (Zn hK 0) qmV s20 hf ?_
 intro y1 E1 c1 hF1 hk1 hp1 hA1
 refine Xh (Zn hK 0) qmW s21 hF1 ?_
 intro y2 E2 c2 hF2 hk2 hp2 hA2
 rw [if_pos (qiU qmO _)]
 left
 have h20:=qD (a:=(a.put YT.dst y1).put YU.dst y2) hF2.σ (show trO (.tmp 20) (.t 20)=some (.t 20)from rfl) (show ev _ (.t 20)=some (.f (.func 13) [] [.p (1,0) 0 0,.p (2,0) 0 0,.p (3,0) 0 0])from rfl)
 have h21:=qD (a:=(a.put YT.dst y1).put YU.dst y2) hF2.σ (show trO (.tmp 21) (.t 21)=some (.t 21)from rfl) (show ev _ (.t 21)=some (S x)from rfl)
 have hd0:((a.put YT.dst y1).put YU.dst y2).defers=a.defers:=by rw [QN,QN]
 generalize (a.put YT.dst y1).put YU.dst y2=a2 at hF2 h20 h21 hd0 ⊢
 simp only [Rel]at h20
 obtain ⟨fs',cs,d1,d2,hv,hr1,hr2,hcc⟩:=h20
 obtain ⟨rfl,rfl⟩:=cz hcc.symm.symm rfl
 simp only [qj]at hr1
 have hfs:fs'= #[]:=Array.toList_eq_nil_iff.1 hr1.1
 subst hfs
 have hargs:(clO jZ).args.map a2.eval++cs=(a2.eval (.tmp 21)::cs.toList).toArray:=by
  rw [qmM]
  apply Array.ext'
  simp
 refine qew qmP qmN hv Try.func13 qcu qgg ?_
 rw [hargs]
 have hRA:qj E2 (loA x) (a2.eval (.tmp 21)::cs.toList) c0:=by
  unfold loA
  simp only [qj]at hr2 ⊢
  exact ⟨_,_,c0,c0,rfl,h21,hr2,rfl⟩
 refine (hE E2 _ c2 hRA hF2.T hF2.g).mono ?_
 rintro e w'' ⟨y,rfl,E3,c3,rfl,hk3,hT3,hg3,hA3⟩
 refine ⟨y,rfl, ?_⟩
 refine ⟨trivial,by rw [QN];exact hd0,E3,c3,rfl,⟨?_, ?_,hT3,hg3⟩,(hk1.trans hk2).trans hk3,(hA1.trans hA2).trans hA3⟩
 ·rw [qgh]
  simpa [Act.put]using hF2.sz
 ·refine qm2 hF2.g hA3 hk3 hF2.σ ?_
  intro t z hz
  have hne: ∀ u,u ≠ 22→(a2.put jZ.dst y).tmps[u]? =a2.tmps[u]? :=by
   intro u hu
   rw [qgh]
   simp only [Act.put]
   exact Array.getElem?_setIfInBounds_ne (Ne.symm hu)
  simp only [qz]at hz
  repeat' (split at hz)
  all_goals first
   |(cases hz;done)
   |(rename_i h;subst h;cases hz;exact ⟨rfl,rfl,hne _ (by decide)⟩)
   |(subst_vars;cases hz;exact ⟨rfl,rfl,hne _ (by decide)⟩)
end
theorem qdc {P:Program} {body:Code} {Q Q':Exit→Act→World→Prop} (hQ: ∀ e a w,Q e a w→Q' e a w): ∀ (m:Nat) (a:Act) (w:World),Code.rounds P body Q m a w→Code.rounds P body Q' m a w
 |0,a,w,h=>h.elim
 |m+1,a,w,h=>by
  rw [rounds_succ]at h ⊢
  refine wp_mono h ?_
  intro e a2 w2 hq
  cases e<;>simp only [Exit.then]at hq ⊢ <;>first|exact qdc hQ m _ _ hq|exact hQ _ _ _ hq
section
variable (inc:Str→List Str) (has:Str→Bool) (tx:Str→Str) (τ:Bool) (fs:List V)
theorem qgi(nm:Str) (ns:List Str) (hns:ns.length≤2^40) (ord:Str→List Str→List Str) (G:List Str→Prop)
 (hE: ∀ x ∈ ns,∀ l,G l→qa6 Try.prog 13 x l (ord x l) τ fs∧G (ord x l)):
 ∀ (r:List Str) (i:Nat) (l:List Str),ns.drop i=r→i+r.length=ns.length→G l→ ∀ (a:Act) (E:Env) (c:Cnt),FRel 35 E ⟨[(0,S nm),(1,.p (1,0) 0 0),(2,.p (2,0) 0 0),(3,.p (3,0) 0 0),(14,.i false ((ns).map S)),(15,I (ns).length),(16,I (i:Int))],loT l τ fs 13⟩ a.tmps c→
  Code.rounds Try.prog ZA (qm0 τ fs E c a nm (r.foldl (fun o x=>ord x o) l)) (r.length+1) a E.w
 |[],i,l,h,hk,hg,a,E,c,hf=>by
  have hlt:decide ((i:Int) < (ns.length:Int))=false:=decide_eq_false (by simp only [List.length_nil]at hk;omega)
  rw [rounds_succ,qf9]
  refine wp_seq (wp_mono (yO xJ qgk (qiW τ fs nm ns l i false hlt) hf) ?_)
  rintro e a1 w1 ⟨rfl,hd1,E1,c1,rfl,hF1,hk1,hA1⟩
  simp only [xOf,Exit.then]
  refine wp_seq (wp_mono (yO xJ qgj (qqG τ fs nm ns l i) hF1) ?_)
  rintro e a2 w2 ⟨rfl,hd2,E2,c2,rfl,hF2,hk2,hA2⟩
  simp only [xOf,Exit.then]
  exact ⟨rfl,hd2.trans hd1,E2,c2,rfl,qcm [0,1,2,3] hF2,hk1.trans hk2,hA1.trans hA2⟩
 |x::r,i,l,h,hk,hg,a,E,c,hf=>by
  simp only [List.length_cons]at hk
  have hlt:decide ((i:Int) < (ns.length:Int))=true:=decide_eq_true (by omega)
  have hx:ns[i]? =some x:=by
   have:=congrArg (fun z=>z[0]?) h
   simpa using this
  have hd:ns.drop (i+1)=r:=by
   have:=congrArg (fun z=>z.drop 1) h
   simpa [List.drop_drop,Nat.add_comm]using this
  obtain ⟨he,hg'⟩:=hE x (List.mem_of_getElem? hx) l hg
  rw [List.length_cons,rounds_succ,qf9]
  refine wp_seq (wp_mono (yO xJ qgk (qiW τ fs nm ns l i true hlt) hf) ?_)
  rintro e a1 w1 ⟨rfl,hd1,E1,c1,rfl,hF1,hk1,hA1⟩
  simp only [xOf,Exit.then]
  refine wp_seq (wp_mono (yO xJ qgj (qqH τ fs nm ns l i) hF1) ?_)
  rintro e a2 w2 ⟨rfl,hd2,E2,c2,rfl,hF2,hk2,hA2⟩
  simp only [xOf,Exit.then]
  refine wp_seq (wp_block (wp_seq (wp_mono (yO xJ qmY (qqK τ fs nm x ns l i hx) hF2) ?_)))
  rintro e a3 w3 ⟨rfl,hd3,E3,c3,rfl,hF3,hk3,hA3⟩
  simp only [xOf,Exit.then]
  refine wp_mono (qmJ τ fs x nm ns l (ord x l) i he a3 E3 c3 hF3) ?_
  rintro e a4 w4 ⟨rfl,hd4,E4,c4,rfl,hF4,hk4,hA4⟩
  simp only [Exit.inBlock,Exit.then]
  refine wp_mono (yO xJ qmZ (qqL τ fs nm ns (ord x l) i (by omega)) hF4) ?_
  rintro e a5 w5 ⟨rfl,hd5,E5,c5,rfl,hF5,hk5,hA5⟩
  simp only [xOf,Exit.then]
  have ih:=qgi nm ns hns ord G hE r (i+1) (ord x l) hd (by omega) hg' a5 E5 c5 (qcm [0,1,2,3,14,15,16] hF5)
  refine qdc ?_ _ _ _ ih
  rintro e a6 w6 ⟨h1,h2,E6,c6,h3,h4,h5,h6⟩
  exact ⟨h1,((((h2.trans hd5).trans hd4).trans hd3).trans hd2).trans hd1,E6,c6,h3,h4,((((hk1.trans hk2).trans hk3).trans hk4).trans hk5).trans h5,((((hA1.trans hA2).trans hA3).trans hA4).trans hA5).trans h6⟩
theorem qmK(hInc: ∀ s,cr qh Qi [.i τ fs,S s]=some (.o 1 ((inc s).map S))) (hFile: ∀ s,cr qh jN [.i τ fs,S s]=some (.t [S (tx s),B (has s)]))
 {U:List Str} (hU:U.length < 60000000000) (hI: ∀ s,∀ x ∈ inc s,x ∈ U) (hin: ∀ s,(inc s).length≤2^40): ∀ (n:Nat) (nm:Str),Rk inc n nm→nm ∈ U→ ∀ l,GL U l→qa6 Try.prog 13 nm l (zq inc has n nm l) τ fs:=by
 intro n
 induction n with
 |zero=>intro nm h;exact h.elim
 |succ n ih=>
  intro nm hr hu l hg E vs c hxs hT hG
  have hl:=qbv hU hg
  have hvl:=yE hxs
  refine calls_of_wp Try.func13 qcu ?_
  have hsz:(vs.toArray++Array.replicate (Try.f13.ntmps - vs.toArray.size) undef).size=35:=by
   rw [qmL]
   simp only [Array.size_append,List.size_toArray,Array.size_replicate,hvl,loA,List.length_cons,List.length_nil]
  have hF:FRel 35 E ⟨[(0,S nm),(1,.p (1,0) 0 0),(2,.p (2,0) 0 0),(3,.p (3,0) 0 0)],loT l τ fs 13⟩ (vs.toArray++Array.replicate (Try.f13.ntmps - vs.toArray.size) undef) c:=⟨hsz,qdj (xs:=loA nm) hxs,hT,hG⟩
  have hend: ∀ (e:Exit) (a':Act) (E':Env) (c':Cnt) (l':List Str),(e= .normal∨e= .ret)→a'.defers=[]→KN 4 E E'→Adv E c E' c'→qm E' (loT l' τ fs 13) c'→Good E' c'→l'=zq inc has (n+1) nm l→
   bodyPost Try.prog Try.f13 (fun e w''=> ∃ y,e= .returned y∧ ∃ E' c',E'.w=w''∧KN 4 E E'∧qm E' (loT (zq inc has (n+1) nm l) τ fs 13) c'∧Good E' c'∧Adv E c E' c') e a' E'.w:=by
   rintro e a' E' c' l' he hdf hk hA hT' hG' rfl
   have hres:(results Try.f13 a'.tmps).run Try.prog E'.w= .ok (.tuple #[]) E'.w:=by
    unfold results
    rw [qmU,Sem.run_bind]
    refine Eq.trans (congrArg (fun r=>Result.andThen r _) (qdf (l:= #[]) (vs:=[]) (by simp))) ?_
    rfl
   rcases he with rfl|rfl<;>exact ⟨hdf,_,hres,_,rfl,E',c',rfl,hk,hT',hG',hA⟩
  refine wp_seq ?_
  by_cases hm:nm ∈ l
  ·obtain ⟨T',x1,rfl⟩:=qqE τ fs nm l (by omega) hm
   refine wp_mono (yO xJ qgl x1 hF) ?_
   rintro e a1 w1 ⟨rfl,hd1,E1,c1,rfl,hF1,hk1,hA1⟩
   simp only [xOf,Exit.then]
   exact hend .ret a1 E1 c1 l (.inr rfl) hd1 hk1 hA1 hF1.T hF1.g (by simp only [zq];rw [if_pos hm])
  refine wp_mono (yO xJ qgl (qqF τ fs nm l (by omega) hm) hF) ?_
  rintro e a1 w1 ⟨rfl,hd1,E1,c1,rfl,hF1,hk1,hA1⟩
  simp only [xOf,Exit.then]
  refine wp_seq (wp_seq (wp_mono (yO xJ qmX (qqJ inc τ fs hInc nm l) hF1) ?_))
  rintro e a2 w2 ⟨rfl,hd2,E2,c2,rfl,hF2,hk2,hA2⟩
  simp only [xOf,Exit.then]
  refine wp_block (wp_loop_rounds ((inc nm).length+1) ?_)
  have rd:=qgi τ fs nm (inc nm) (hin nm) (zq inc has n) (GL U) (fun x hx l hl=>⟨ih x (hr x hx) (hI nm x hx) l hl,(qcG hI n x l (hr x hx) (hI nm x hx) hl).1⟩) (inc nm) 0 l rfl (by omega) hg a2 E2 c2 (qcm [0,1,2,3,14,15,16] hF2)
  refine qdc ?_ _ _ _ rd
  rintro e a3 w3 ⟨rfl,hd3,E3,c3,rfl,hF3,hk3,hA3⟩
  simp only [Exit.inBlock,Exit.then,if_true]
  have gl:=(qcG hI (n+1) nm l hr hu hg (has:=has)).1
  have ge:zq inc has (n+1) nm l=if has nm=true then (inc nm).foldl (fun o x=>zq inc has n x o) l++[nm]else (inc nm).foldl (fun o x=>zq inc has n x o) l:=by
   simp only [zq];rw [if_neg hm]
  have hk13:KN 4 E E3:=(hk1.trans hk2).trans hk3
  have hA13:=(hA1.trans hA2).trans hA3
  have hd13:a3.defers=[]:=(hd3.trans hd2).trans hd1
  cases hh:has nm with
  |false=>
   rw [hh]at ge
   simp only [Bool.false_eq_true,if_false]at ge
   refine wp_mono (yO xJ qgm (qqM has tx τ fs hFile nm _ hh) hF3) ?_
   rintro e a4 w4 ⟨rfl,hd4,E4,c4,rfl,hF4,hk4,hA4⟩
   exact hend .normal a4 E4 c4 _ (.inl rfl) (hd4.trans hd13) (hk13.trans hk4) (hA13.trans hA4) hF4.T hF4.g ge.symm
  |true=>
   rw [hh]at ge
   simp only [if_true]at ge
   have hlen:((inc nm).foldl (fun o x=>zq inc has n x o) l).length≤60000000000:=by
    have:=qbv hU gl
    rw [ge,List.length_append]at this
    omega
   refine wp_mono (yO xJ qgm (qqN has tx τ fs hFile nm _ hlen hh) hF3) ?_
   rintro e a4 w4 ⟨rfl,hd4,E4,c4,rfl,hF4,hk4,hA4⟩
   obtain ⟨E5,c5,hw5,hI5,hμ5,hF5,hle5⟩:=qni (qqI τ fs nm _) hF4
   have hk5:KN 4 E4 E5:=fun k hk=>hμ5 k (by unfold CN;omega)
   rw [← hw5]
   exact hend .normal a4 E5 c5 _ (.inl rfl) (hd4.trans hd13) ((hk13.trans hk4).trans hk5) ((hA13.trans hA4).trans (kS hw5 hI5 hle5)) hF5.T hF5.g ge.symm
end
end Go.Vm
namespace Go.Vm
theorem qfD(τ τ':Bool) (fs:List Fl) (i:Nat) (ws:List Str) (hw:ws.length < 2^36): ∀ (r:List Str) (j:Nat) (nm:List Str),ws.drop j=r→j+r.length=ws.length→nm.length+r.length < 2^36→
 lw qh XY ⟨[(0,.i τ (fs.map (iFl τ'))),(5,.s (100000,0) 0 (nm).length),(6,I i),(22,.s (100000,1) 0 ws.length),(23,I ws.length),(24,I j)],[((100000,0),1,(nm).map S),((100000,1),1,ws.map S)]⟩=some (.exit 2,⟨[(0,.i τ (fs.map (iFl τ'))),(5,.s (100000,0) 0 ((yi nm r)).length),(6,I i)],[((100000,0),1,((yi nm r)).map S),((100000,1),1,ws.map S)]⟩)
 |[],j,nm,h,hj,hn=>by
  have h1: ¬ (j:Int) < (ws.length:Int):=by simp only [List.length_nil]at hj;omega
  simp only [yi]
  rw [qq]
  simp only [go_sem,qa,qb,qc,qd,qe,qf,reduceCtorEq,Ki,h1]
 |s::r,j,nm,h,hj,hn=>by
  simp only [List.length_cons]at hj hn
  have hx:ws[j]? =some s:=by
   have:=congrArg (fun z=>z[0]?) h
   simpa using this
  have hd:ws.drop (j+1)=r:=by
   have:=congrArg (fun z=>z.drop 1) h
   simpa [List.drop_drop,Nat.add_comm]using this
  have h1:(j:Int) < (ws.length:Int):=by omega
  have e1:w64 ((j:Int)+1)=((j+1:Nat):Int):=by rw [qo]<;>omega
  have g:=yy (f:=S) hx
  have ix:=ky (k:=(100000,1)) (e:=1) (xs:=ws.map S) (i:=j) (len:=ws.length) (by omega) (by simp)
  have on:=qks nm s (by omega)
  have tkn:(nm.map S).take nm.length=nm.map S:=List.take_of_length_le (by simp)
  have tko:((zy nm s).map S).take (zy nm s).length=(zy nm s).map S:=List.take_of_length_le (by simp)
  have ol:(zy nm s).length≤nm.length+1:=by unfold zy;split;omega;simp
  have ih:=qfD τ τ' fs i ws hw r (j+1) (zy nm s) hd (by omega) (by omega)
  simp only [yi]
  rw [← ih]
  by_cases hm:s ∈ nm
  ·try simp only [if_pos hm]at on
   rw [qq]
   simp only [go_sem,qa,qb,qc,qd,qe,qf,reduceCtorEq,Ki,h1,e1,g,ix,on,tkn,tko]
  ·try simp only [if_neg hm]at on
   rw [qq]
   simp only [go_sem,qa,qb,qc,qd,qe,qf,reduceCtorEq,Ki,h1,e1,g,ix,on,tkn,tko]
end Go.Vm
namespace Go.Vm
theorem J7(fs:List Fl) (s:Str):(qE fs s).length≤3001:=by
 unfold qE
 split
 ·exact qfI _
 ·simp
theorem qfE(τ τ':Bool) (fs:List Fl) (hfs:fs.length≤2^40) (U:List Str) (hU:U.length < 60000000000) (hI: ∀ s,∀ x ∈ qE fs s,x ∈ U): ∀ (n i:Nat) (nm:List Str),nm.Nodup→(∀ x ∈ nm,x ∈ U)→i≤nm.length→U.length < i+n→
 lw qh XZ ⟨[(0,.i τ (fs.map (iFl τ'))),(5,.s (100000,0) 0 (nm).length),(6,I i)],[((100000,0),1,(nm).map S)]⟩=some (.exit 0,⟨[(5,.s (100000,0) 0 (yg fs n i nm).length)],[((100000,0),1,(yg fs n i nm).map S)]⟩)
 |0,i,nm,h1,h2,h3,h4=>by
  have:=ZE h2 h1
  omega
 |n+1,i,nm,h1,h2,h3,h4=>by
  have hl:=ZE h2 h1
  cases hx:nm[i]? with
  |none=>
   have hge:nm.length≤i:=by rw [List.getElem?_eq_none_iff]at hx;exact hx
   have c1: ¬ (i:Int) < (nm.length:Int):=by omega
   simp only [yg,hx]
   rw [qq]
   simp only [go_sem,qa,qb,qc,qd,qe,qf,reduceCtorEq,JN,c1]
  |some s=>
   have hlt:=(List.getElem?_eq_some_iff.1 hx).1
   have c1:(i:Int) < (nm.length:Int):=by omega
   have e1:w64 ((i:Int)+1)=((i+1:Nat):Int):=by rw [qo]<;>omega
   have g:=yy (f:=S) hx
   have ix:=ky (k:=(100000,0)) (e:=1) (xs:=nm.map S) (i:=i) (len:=nm.length) (by omega) (by simp)
   have ic:=qch τ τ' fs s hfs
   have il:=J7 fs s
   have lp:=qfD τ τ' fs i (qE fs s) (by omega) (qE fs s) 0 nm rfl (by omega) (by omega)
   have ad:=KB (U:=U) (qE fs s) nm h2 (hI s) h1
   have ih:=qfE τ τ' fs hfs U hU hI n (i+1) (yi nm (qE fs s)) ad.2.1 ad.1 (by omega) (by omega)
   simp only [Int.natCast_zero]at lp
   simp only [yg,hx]
   rw [← ih,qq]
   simp only [go_sem,qa,qb,qc,qd,qe,qf,reduceCtorEq,JN,c1,e1,g,ix,ic,lp,List.length_map]
def qS(fs:List Fl) (ws:List Str):List Str:=yg fs 60000000000 0 ws
theorem qfF(τ τ':Bool) (fs:List Fl) (hfs:fs.length≤Lm) (ws:List Str) (h1:ws.Nodup) (U:List Str) (hU:U.length < 60000000000) (hI: ∀ s,∀ x ∈ qE fs s,x ∈ U) (h2: ∀ x ∈ ws,x ∈ U) (hw:ws.length≤3001):
 cr qh JC [.i τ (fs.map (iFl τ')),.i true (ws.map S)]=some (.o 1 ((qS fs ws).map S)):=by
 have lp:=qfE τ τ' fs (by unfold Lm at hfs;omega) U hU hI 60000000000 0 ws h1 h2 (Nat.zero_le _) (by omega)
 simp only [Int.natCast_zero]at lp
 have l3:decide (ws.length*16≤lim)=true:=decide_eq_true (by rw [zu];omega)
 have l4:decide (ws.length≤lim)=true:=decide_eq_true (by rw [zu];omega)
 have z1:yr (ws.map S)=true:=qa2 (f:=S) (fun _=>rfl) ws
 have z2:kT 1 (ws.map S)=true:=JQ (f:=S) (fun _=>⟨rfl,rfl⟩) ws
 unfold qS
 generalize yg fs 60000000000 0 ws=R at*
 have tk:(R.map S).take R.length=R.map S:=List.take_of_length_le (by simp)
 have tk2:(ws.map S).take ws.length=ws.map S:=List.take_of_length_le (by simp)
 rw [qF qnV rfl]
 simp only [go_sem,qa,qb,qc,qd,qe,qf,reduceCtorEq,Z4,lp,tk,tk2,l3,l4,z1,z2,List.length_map,Nat.zero_add,List.nil_append,List.length_nil]
theorem qfw(τ τ':Bool) (fs:List Fl) (hfs:fs.length≤Lm) (s:Str):
 cr qh Ju [.i τ (fs.map (iFl τ')),S s]=some (.o 1 ((qS fs [s]).map S)):=by
 have h:=fun t=>qfF t τ' fs hfs [s] (by simp) (yf fs s) (QV fs s hfs) (js fs s) (by simp [yf]) (by simp)
 simp only [List.map_cons,List.map_nil]at h
 generalize qS fs [s]=R at*
 have tk:(R.map S).take R.length=R.map S:=List.take_of_length_le (by simp)
 rw [qF qnx rfl]
 simp only [go_sem,qa,qb,qc,qd,qe,qf,reduceCtorEq,ZW,h,tk]
end Go.Vm
namespace Go.Vm
theorem qcX(fs:List Fl) (U:List Str) (hI: ∀ s,∀ x ∈ qE fs s,x ∈ U): ∀ (n i:Nat) (nm:List Str),nm.Nodup→(∀ x ∈ nm,x ∈ U)→(yg fs n i nm).length≤U.length
 |0,i,nm,h1,h2=>ZE h2 h1
 |n+1,i,nm,h1,h2=>by
  simp only [yg]
  split
  ·exact ZE h2 h1
  ·rename_i s hs
   have ad:=KB (U:=U) (qE fs s) nm h2 (hI s) h1
   exact qcX fs U hI n _ _ ad.2.1 ad.1
theorem qhR(fs:List Fl) (hfs:fs.length≤Lm) (s:Str):(qS fs [s]).length < 60000000000:=by
 have:=qcX fs (yf fs s) (js fs s) 60000000000 0 [s] (by simp) (by simp [yf])
 have:=QV fs s hfs
 unfold qS;omega
inductive Rch (fs:List Fl):Str→Str→Prop
 |refl (x:Str):Rch fs x x
 |step {x y z:Str}:Rch fs x y→z ∈ qE fs y→Rch fs x z
theorem Rch.trans {fs:List Fl} {x y z:Str} (h:Rch fs x y) (h':Rch fs y z):Rch fs x z:=by
 induction h' with
 |refl=>exact h
 |step _ hz ih=>exact .step ih hz
theorem qm6(nm:List Str) (s x:Str):x ∈ zy nm s↔x ∈ nm∨x=s:=by
 unfold zy
 split
 ·rename_i h
  exact ⟨.inl,fun h'=>h'.elim id (fun e=>e ▸ h)⟩
 ·simp
theorem qao: ∀ (ws nm:List Str) (x:Str),x ∈ yi nm ws↔x ∈ nm∨x ∈ ws
 |[],nm,x=>by simp [yi]
 |s::r,nm,x=>by
  simp only [yi,qao r (zy nm s) x,qm6,List.mem_cons]
  constructor
  ·rintro ((h|h)|h)
   ·exact .inl h
   ·exact .inr (.inl h)
   ·exact .inr (.inr h)
  ·rintro (h|h|h)
   ·exact .inl (.inl h)
   ·exact .inl (.inr h)
   ·exact .inr h
theorem qoB(nm:List Str) (s:Str) (j:Nat) (hj:j < nm.length):(zy nm s)[j]? =nm[j]? :=by
 unfold zy
 split
 ·rfl
 ·rw [List.getElem?_append_left hj]
theorem qhg: ∀ (ws nm:List Str) (j:Nat),j < nm.length→(yi nm ws)[j]? =nm[j]?
 |[],nm,j,h=>rfl
 |s::r,nm,j,h=>by
  have g:=qgT nm s
  simp only [yi]
  rw [qhg r (zy nm s) j (by omega),qoB nm s j h]
theorem qhQ(fs:List Fl): ∀ (n i:Nat) (nm:List Str) (x:Str),x ∈ yg fs n i nm→ ∃ g ∈ nm,Rch fs g x
 |0,i,nm,x,h=>⟨x,h,.refl x⟩
 |n+1,i,nm,x,h=>by
  simp only [yg]at h
  split at h
  ·exact ⟨x,h,.refl x⟩
  ·rename_i s hs
   obtain ⟨g,hg,hr⟩:=qhQ fs n _ _ x h
   rcases (qao _ _ _).1 hg with hg|hg
   ·exact ⟨g,hg,hr⟩
   ·exact ⟨s,List.mem_of_getElem? hs,Rch.trans (.step (.refl s) hg) hr⟩
theorem qhN(fs:List Fl) (U:List Str) (hI: ∀ s,∀ x ∈ qE fs s,x ∈ U): ∀ (n i:Nat) (nm:List Str),nm.Nodup→(∀ x ∈ nm,x ∈ U)→i≤nm.length→U.length < i+n→
 (∀ j y,j < i→nm[j]? =some y→ ∀ z ∈ qE fs y,z ∈ nm)→
 (∀ x ∈ nm,x ∈ yg fs n i nm)∧(∀ y ∈ yg fs n i nm,∀ z ∈ qE fs y,z ∈ yg fs n i nm)
 |0,i,nm,h1,h2,h3,h4,hinv=>by
  have:=ZE h2 h1
  omega
 |n+1,i,nm,h1,h2,h3,h4,hinv=>by
  cases hx:nm[i]? with
  |none=>
   have hge:nm.length≤i:=by rw [List.getElem?_eq_none_iff]at hx;exact hx
   simp only [yg,hx]
   refine ⟨fun x h=>h,fun y hy z hz=> ?_⟩
   obtain ⟨j,hj,rfl⟩:=List.getElem_of_mem hy
   exact hinv j _ (by omega) (List.getElem?_eq_getElem hj) z hz
  |some s=>
   have hlt:=(List.getElem?_eq_some_iff.1 hx).1
   have ad:=KB (U:=U) (qE fs s) nm h2 (hI s) h1
   have ih:=qhN fs U hI n (i+1) (yi nm (qE fs s)) ad.2.1 ad.1 (by omega) (by omega) (fun j y hj hy z hz=>by
    rw [qhg _ _ j (by omega)]at hy
    rw [qao]
    by_cases hji:j < i
    ·exact .inl (hinv j y hji hy z hz)
    ·obtain rfl:j=i:=by omega
     rw [hx]at hy
     obtain rfl:=Option.some.inj hy
     exact .inr hz)
   simp only [yg,hx]
   exact ⟨fun x h=>ih.1 x ((qao _ _ _).2 (.inl h)),ih.2⟩
theorem ZD(fs:List Fl) (ws:List Str) (hn:ws.Nodup) (U:List Str) (hU:U.length < 60000000000) (hI: ∀ s,∀ x ∈ qE fs s,x ∈ U) (hw: ∀ x ∈ ws,x ∈ U) (x:Str):x ∈ qS fs ws↔ ∃ g ∈ ws,Rch fs g x:=by
 unfold qS
 refine ⟨qhQ fs _ _ _ x, ?_⟩
 rintro ⟨g,hg,hr⟩
 obtain ⟨c1,c2⟩:=qhN fs U hI 60000000000 0 ws hn hw (Nat.zero_le _) (by omega) (fun j y hj=>by omega)
 induction hr with
 |refl=>exact c1 g hg
 |step _ hz ih=>exact c2 _ ih _ hz
def cyc(fs:List Fl) (s:Str):Prop:= ∃ f g,Rch fs s f∧g ∈ qE fs f∧Rch fs g f
theorem qd1: ∀ (ts:List Tm) (nm:List Str),nm.Nodup→(xU nm ts).Nodup
 |[],nm,h=>h
 |t::r,nm,h=>by
  simp only [xU]
  refine qd1 r _ ?_
  unfold jR
  split
  ·exact qgU h
  ·exact h
theorem qcj(fs:List Fl) (s:Str):(qE fs s).Nodup:=by
 unfold qE
 split
 ·unfold y8;exact qd1 _ _ (by simp)
 ·simp
end Go.Vm
namespace Go.Vm
theorem qo4(fs:List Fl) (hfs:fs.length≤Lm) (f:Str):(qS fs (qE fs f)).length < 60000000000:=by
 have:=qcX fs (yf fs f) (js fs f) 60000000000 0 (qE fs f) (qcj fs f) (js fs f f)
 have:=QV fs f hfs
 unfold qS;omega
theorem qjU(τ τ':Bool) (fs:List Fl) (hfs:fs.length≤Lm) (f:Str):cr qh kQ [S f,.q true [.i τ (fs.map (iFl τ'))] 0 0]=some (B (decide (f ∈ qS fs (qE fs f)))):=by
 have ii:=qch τ τ' fs f (by unfold Lm at hfs;omega)
 have rb:=qfF τ τ' fs hfs (qE fs f) (qcj fs f) (yf fs f) (QV fs f hfs) (js fs f) (js fs f f) (J7 fs f)
 have rl:=qo4 fs hfs f
 have co:=XL true (qS fs (qE fs f)) f (by omega)
 generalize qS fs (qE fs f)=R at*
 generalize qE fs f=ws at*
 have tk:(R.map S).take R.length=R.map S:=List.take_of_length_le (by simp)
 have tk2:(ws.map S).take ws.length=ws.map S:=List.take_of_length_le (by simp)
 rw [qF qnv rfl]
 simp only [go_sem,qa,qb,qc,qd,qe,qf,reduceCtorEq,ZV,ii,rb,co,tk,tk2]
theorem qfs(q:V) (g:Str→Bool) (R:List Str) (hl:R.length < 2^40) (hg: ∀ x ∈ R,cr qh kQ [S x,.q true [q] 0 0]=some (B (g x))): ∀ (r:List Str) (k:Nat),R.drop k=r→k+r.length=R.length→
 (r.any g=false→lw qh Qn ⟨[(0,.i true (R.map S)),(1,.f (Fn.func kQ) [] [.q true [q] 0 0]),(7,I R.length),(8,I k)],[]⟩=some (.exit 0,⟨[],[]⟩))∧
 (r.any g=true→ ∃ j:Nat,lw qh Qn ⟨[(0,.i true (R.map S)),(1,.f (Fn.func kQ) [] [.q true [q] 0 0]),(7,I R.length),(8,I k)],[]⟩=some (.ret,⟨[(4,I j)],[]⟩))
 |[],k,h,hk=>by
  have h1: ¬ (k:Int) < (R.length:Int):=by simp only [List.length_nil]at hk;omega
  refine ⟨fun _=> ?_,fun h=>by simp at h⟩
  rw [qq]
  simp only [go_sem,qa,qb,qc,qd,qe,qf,reduceCtorEq,Kn,h1]
 |y::r,k,h,hk=>by
  simp only [List.length_cons]at hk
  have hx:R[k]? =some y:=by
   have:=congrArg (fun z=>z[0]?) h
   simpa using this
  have hd:R.drop (k+1)=r:=by
   have:=congrArg (fun z=>z.drop 1) h
   simpa [List.drop_drop,Nat.add_comm]using this
  have h1:(k:Int) < (R.length:Int):=by omega
  have e1:w64 ((k:Int)+1)=((k+1:Nat):Int):=by rw [qo]<;>omega
  have gg:=yy (f:=S) hx
  have a1:=fun T=>yX (τ:=true) (T:=T) (e:=1) gg rfl
  have hy:=hg y (List.mem_of_getElem? hx)
  have ih:=qfs q g R hl hg r (k+1) hd (by omega)
  cases hgy:g y with
  |true=>
   rw [hgy]at hy
   refine ⟨fun h=>by simp [hgy]at h,fun _=>⟨k, ?_⟩⟩
   rw [qq]
   simp only [go_sem,qa,qb,qc,qd,qe,qf,reduceCtorEq,Kn,h1,e1,gg,a1,hy]
  |false=>
   rw [hgy]at hy
   have stp:lw qh Qn ⟨[(0,.i true (R.map S)),(1,.f (Fn.func kQ) [] [.q true [q] 0 0]),(7,I R.length),(8,I k)],[]⟩=lw qh Qn ⟨[(0,.i true (R.map S)),(1,.f (Fn.func kQ) [] [.q true [q] 0 0]),(7,I R.length),(8,I ((k+1:Nat):Int))],[]⟩:=by
    rw [qq]
    simp only [go_sem,qa,qb,qc,qd,qe,qf,reduceCtorEq,Kn,h1,e1,gg,a1,hy]
   rw [stp]
   simp only [List.any_cons,hgy,Bool.false_or]
   exact ih
theorem qjM(q:V) (g:Str→Bool) (R:List Str) (hl:R.length < 2^40) (hg: ∀ x ∈ R,cr qh kQ [S x,.q true [q] 0 0]=some (B (g x))):
 cr qh qbg [.i true (R.map S),.f (Fn.func kQ) [] [.q true [q] 0 0]]=some (B (R.any g)):=by
 obtain ⟨l1,l2⟩:=qfs q g R hl hg R 0 rfl (by omega)
 simp only [Int.natCast_zero]at l1 l2
 have ix: ∃ n:Int,cr qh qbh [.i true (R.map S),.f (Fn.func kQ) [] [.q true [q] 0 0]]=some (I n)∧(R.any g=decide (0≤n)):=by
  rw [qF qn8 rfl]
  cases h:R.any g with
  |false=>
   have lp:=l1 h
   refine ⟨-1, ?_,rfl⟩
   simp only [go_sem,qa,qb,qc,qd,qe,qf,reduceCtorEq,Q8,lp,List.length_map]
  |true=>
   obtain ⟨j,lp⟩:=l2 h
   refine ⟨j, ?_,(decide_eq_true (by omega)).symm⟩
   simp only [go_sem,qa,qb,qc,qd,qe,qf,reduceCtorEq,Q8,lp,List.length_map]
 obtain ⟨n,hn,he⟩:=ix
 rw [qF qn6 rfl,he]
 simp only [go_sem,qa,qb,qc,qd,qe,qf,reduceCtorEq,Yb,hn]
theorem qcc(τ τ':Bool) (fs:List Fl) (hfs:fs.length≤Lm) (s:Str):cr qh XM [.i τ (fs.map (iFl τ')),S s]=some (B ((qS fs [s]).any fun f=>decide (f ∈ qS fs (qE fs f)))):=by
 have i1:=fun t=>qfw t τ' fs hfs s
 have rl:=qhR fs hfs s
 have cf:=qjM (.i τ (fs.map (iFl τ'))) (fun f=>decide (f ∈ qS fs (qE fs f))) (qS fs [s]) (by omega) (fun x _=>qjU τ τ' fs hfs x)
 generalize qS fs [s]=R at*
 have tk:(R.map S).take R.length=R.map S:=List.take_of_length_le (by simp)
 rw [qF qnu rfl]
 simp only [go_sem,qa,qb,qc,qd,qe,qf,reduceCtorEq,ZU,i1,tk,cf]
end Go.Vm
namespace Go.Vm
open Go.Proofs
noncomputable def Zy:Code:=match Try.f6.body with|some c=>c|none=> .skip
noncomputable def qfW:Code:=sq1 Zy
noncomputable def qfX:Code:=sq1 (sq2 Zy)
noncomputable def qfY:Code:=sq1 (sq2 (sq2 Zy))
noncomputable def qfZ:Code:=sq1 (sq2 (sq2 (sq2 Zy)))
noncomputable def qf0:Code:=sq1 (sq2 (sq2 (sq2 (sq2 Zy))))
noncomputable def qcr:Code:=sq1 (sq2 (sq2 (sq2 (sq2 (sq2 Zy)))))
noncomputable def qf1:Code:=sq2 (sq2 (sq2 (sq2 (sq2 (sq2 Zy)))))
theorem qf2:Try.f6.body=some (.seq qfW (.seq qfX (.seq qfY (.seq qfZ (.seq qf0 (.seq qcr qf1)))))):=by kernel_rfl
noncomputable def k8:Array Oper:=rgO qcr
noncomputable def YO:Oper:=YV k8[0]?
noncomputable def YP:Oper:=YV k8[1]?
noncomputable def jv:Oper:=YV k8[2]?
theorem qmm:qcr= .region 6 k8 false:=by kernel_rfl
theorem qmv:k8.size=3:=by kernel_rfl
theorem qmj:k8[0]? =some YO:=by kernel_rfl
theorem qmk:k8[1]? =some YP:=by kernel_rfl
theorem qml:k8[2]? =some jv:=by kernel_rfl
theorem qmt:jv.op= .call (clO jv):=by kernel_rfl
theorem qmr:(clO jv).callee= .value (.tmp 12):=by kernel_rfl
theorem qmq:(clO jv).args= #[.tmp 13]:=by kernel_rfl
theorem qms:jv.guard=none:=by kernel_rfl
theorem qf4:jv.dst=some 14:=by kernel_rfl
theorem qmo:Try.f6.name ≠ "runtime.NumGoroutine" :=by decide
theorem qmu:xQ Try.prog Try.f6.results.toList=some [.tmp 4,.tmp 5]:=by kernel_rfl
theorem qmp:Try.f6.ntmps=16:=by kernel_rfl
def qab:AC:= .reg [.new 2 (.t 0),.mv 4 (.c (.n 1)),.mv 5 (.c (B false))]
def YN:AC:= .keep [1,2] (.seq (.reg [.ld 8 false 1 (.t 2),.mv 9 (.t 1),.call (some 10) (.c (Fc XM)) [.t 8,.t 9] (.ro true)]) (.cond (.t 10) (.seq (.reg [.mv 4 (.c (.n 1)),.mv 5 (.c (B false))]) (.keep [4,5] .ret)) .skip))
def qac:AC:= .keep [1,2] (.reg [.new 6 (.c (.n 1))])
def qad:AC:= .keep [1,2,6] (.reg [.new 7 (.c (.v .nilFunc))])
def qae:AC:= .keep [1,2,6,7] (.reg [.fun 11 (.func qdF) [] [.t 6,.t 2,.t 7],.st 1 (.t 7) (.t 11)])
def qaf:AC:= .seq (.reg [.ld 15 false 1 (.t 6),.mv 4 (.t 15),.mv 5 (.c (B true))]) (.keep [4,5] .ret)
theorem qmw:trC Try.prog 16 2 qfW qab=some qab:=by kernel_rfl
theorem qf5:trC Try.prog 16 2 qfX YN=some YN:=by kernel_rfl
theorem qmz:trC Try.prog 16 2 qfY qac=some qac:=by kernel_rfl
theorem qmA:trC Try.prog 16 2 qfZ qad=some qad:=by kernel_rfl
theorem qmB:trC Try.prog 16 2 qf0 qae=some qae:=by kernel_rfl
theorem qmC:trC Try.prog 16 2 qf1 qaf=some qaf:=by kernel_rfl
theorem qmx:trI Try.prog 16 2 k8 YO (.ld 12 false 1 (.t 7))=some (.ld 12 false 1 (.t 7)):=by kernel_rfl
theorem qmy:trI Try.prog 16 2 k8 YP (.mv 13 (.t 1))=some (.mv 13 (.t 1)):=by kernel_rfl
section
variable (τ τ':Bool) (fs:List Fl) (nm:Str)
def kr:Bool:=(qS fs [nm]).any fun f=>decide (f ∈ qS fs (qE fs f))
theorem y_0:xw qh qab ⟨[(0,.i τ (fs.map (iFl τ'))),(1,S nm)],[]⟩=some (.normal,⟨[(5,B false),(4,.n 1),(2,.p (2,0) 0 0),(0,.i τ (fs.map (iFl τ'))),(1,S nm)],[((2,0),1,[.i τ (fs.map (iFl τ'))])]⟩):=by
 simp only [go_sem,qa,qb,qc,qd,qe,qf,reduceCtorEq,qab]
theorem qq1(hfs:fs.length≤Lm) (h:kr fs nm=true):xw qh YN ⟨[(5,B false),(4,.n 1),(2,.p (2,0) 0 0),(0,.i τ (fs.map (iFl τ'))),(1,S nm)],[((2,0),1,[.i τ (fs.map (iFl τ'))])]⟩=some (.ret,⟨[(4,.n 1),(5,B false)],[((2,0),1,[.i τ (fs.map (iFl τ'))])]⟩):=by
 have c:=qcc τ τ' fs hfs nm
 rw [show ((qS fs [nm]).any fun f=>decide (f ∈ qS fs (qE fs f)))=true from h]at c
 simp only [go_sem,qa,qb,qc,qd,qe,qf,reduceCtorEq,YN,c]
theorem qq2(hfs:fs.length≤Lm) (h:kr fs nm=false):xw qh YN ⟨[(5,B false),(4,.n 1),(2,.p (2,0) 0 0),(0,.i τ (fs.map (iFl τ'))),(1,S nm)],[((2,0),1,[.i τ (fs.map (iFl τ'))])]⟩=some (.normal,⟨[(10,B false),(9,S nm),(8,.i τ (fs.map (iFl τ'))),(1,S nm),(2,.p (2,0) 0 0)],[((2,0),1,[.i τ (fs.map (iFl τ'))])]⟩):=by
 have c:=qcc τ τ' fs hfs nm
 rw [show ((qS fs [nm]).any fun f=>decide (f ∈ qS fs (qE fs f)))=false from h]at c
 simp only [go_sem,qa,qb,qc,qd,qe,qf,reduceCtorEq,YN,c]
theorem y_2:xw qh qac ⟨[(10,B false),(9,S nm),(8,.i τ (fs.map (iFl τ'))),(1,S nm),(2,.p (2,0) 0 0)],[((2,0),1,[.i τ (fs.map (iFl τ'))])]⟩=some (.normal,⟨[(6,.p (6,0) 0 0),(1,S nm),(2,.p (2,0) 0 0)],[((6,0),1,[.n 1]),((2,0),1,[.i τ (fs.map (iFl τ'))])]⟩):=by
 simp only [go_sem,qa,qb,qc,qd,qe,qf,reduceCtorEq,qac]
theorem y_3:xw qh qad ⟨[(6,.p (6,0) 0 0),(1,S nm),(2,.p (2,0) 0 0)],[((6,0),1,[.n 1]),((2,0),1,[.i τ (fs.map (iFl τ'))])]⟩=some (.normal,⟨[(7,.p (7,0) 0 0),(1,S nm),(2,.p (2,0) 0 0),(6,.p (6,0) 0 0)],[((7,0),1,[.v .nilFunc]),((6,0),1,[.n 1]),((2,0),1,[.i τ (fs.map (iFl τ'))])]⟩):=by
 have h1:ym (V.v .nilFunc).cells=true:=rfl
 have h2:(V.v .nilFunc).cells.length=1:=rfl
 simp only [go_sem,qa,qb,qc,qd,qe,qf,reduceCtorEq,qad,h1,h2]
theorem y_4:xw qh qae ⟨[(7,.p (7,0) 0 0),(1,S nm),(2,.p (2,0) 0 0),(6,.p (6,0) 0 0)],[((7,0),1,[.v .nilFunc]),((6,0),1,[.n 1]),((2,0),1,[.i τ (fs.map (iFl τ'))])]⟩=some (.normal,⟨[(11,.f (.func 13) [] [.p (6,0) 0 0,.p (2,0) 0 0,.p (7,0) 0 0]),(1,S nm),(2,.p (2,0) 0 0),(6,.p (6,0) 0 0),(7,.p (7,0) 0 0)],[((7,0),1,[.f (.func 13) [] [.p (6,0) 0 0,.p (2,0) 0 0,.p (7,0) 0 0]]),((6,0),1,[.n 1]),((2,0),1,[.i τ (fs.map (iFl τ'))])]⟩):=by
 have h2:(V.v .nilFunc).cells.length=1:=rfl
 simp only [go_sem,qa,qb,qc,qd,qe,qf,reduceCtorEq,qae,h2]
theorem qqZ:ql (qR qh 0) ⟨[(11,.f (.func 13) [] [.p (6,0) 0 0,.p (2,0) 0 0,.p (7,0) 0 0]),(1,S nm),(2,.p (2,0) 0 0),(6,.p (6,0) 0 0),(7,.p (7,0) 0 0)],[((7,0),1,[.f (.func 13) [] [.p (6,0) 0 0,.p (2,0) 0 0,.p (7,0) 0 0]]),((6,0),1,[.n 1]),((2,0),1,[.i τ (fs.map (iFl τ'))])]⟩ (.ld 12 false 1 (.t 7))=some ⟨(12,.f (.func 13) [] [.p (6,0) 0 0,.p (2,0) 0 0,.p (7,0) 0 0])::[(11,.f (.func 13) [] [.p (6,0) 0 0,.p (2,0) 0 0,.p (7,0) 0 0]),(1,S nm),(2,.p (2,0) 0 0),(6,.p (6,0) 0 0),(7,.p (7,0) 0 0)],[((7,0),1,[.f (.func 13) [] [.p (6,0) 0 0,.p (2,0) 0 0,.p (7,0) 0 0]]),((6,0),1,[.n 1]),((2,0),1,[.i τ (fs.map (iFl τ'))])]⟩:=by
 simp only [go_sem,qa,qb,qc,qd,qe,qf,reduceCtorEq]
theorem qq0:ql (qR qh 0) ⟨(12,.f (.func 13) [] [.p (6,0) 0 0,.p (2,0) 0 0,.p (7,0) 0 0])::[(11,.f (.func 13) [] [.p (6,0) 0 0,.p (2,0) 0 0,.p (7,0) 0 0]),(1,S nm),(2,.p (2,0) 0 0),(6,.p (6,0) 0 0),(7,.p (7,0) 0 0)],[((7,0),1,[.f (.func 13) [] [.p (6,0) 0 0,.p (2,0) 0 0,.p (7,0) 0 0]]),((6,0),1,[.n 1]),((2,0),1,[.i τ (fs.map (iFl τ'))])]⟩ (.mv 13 (.t 1))=some ⟨(13,S nm)::(12,.f (.func 13) [] [.p (6,0) 0 0,.p (2,0) 0 0,.p (7,0) 0 0])::[(11,.f (.func 13) [] [.p (6,0) 0 0,.p (2,0) 0 0,.p (7,0) 0 0]),(1,S nm),(2,.p (2,0) 0 0),(6,.p (6,0) 0 0),(7,.p (7,0) 0 0)],[((7,0),1,[.f (.func 13) [] [.p (6,0) 0 0,.p (2,0) 0 0,.p (7,0) 0 0]]),((6,0),1,[.n 1]),((2,0),1,[.i τ (fs.map (iFl τ'))])]⟩:=by
 simp only [go_sem,qa,qb,qc,qd,qe,qf,reduceCtorEq]
theorem y_6(l:List Str):xw qh qaf ⟨[(6,.p (6,0) 0 0)],[((6,0),1,[.s (100000,0) 0 l.length]),((100000,0),1,l.map S)]⟩=some (.ret,⟨[(4,.s (100000,0) 0 l.length),(5,B true)],[((6,0),1,[.s (100000,0) 0 l.length]),((100000,0),1,l.map S)]⟩):=by
 simp only [go_sem,qa,qb,qc,qd,qe,qf,reduceCtorEq,qaf]
end
def xa(E:Env):Env:={E with μ:=fun k=>if k=(1,0)then E.μ (6,0)else if k=(2,0)then E.μ (2,0)else if k=(3,0)then E.μ (7,0)else if k=(100000,0)then some (.emp none)else none}
def k7(E:Env):Env:={E with μ:=fun k=>if k=(6,0)then E.μ (1,0)else if k=(100000,0)then E.μ (100000,0)else none}
theorem qct {E:Env} {y:Value} {c:Cnt}:(Rel E (.p (6,0) 0 0) y c→Rel (xa E) (.p (1,0) 0 0) y c)∧(Rel E (.p (2,0) 0 0) y c→Rel (xa E) (.p (2,0) 0 0) y c)∧(Rel E (.p (7,0) 0 0) y c→Rel (xa E) (.p (3,0) 0 0) y c):=by
 refine ⟨fun h=> ?_,fun h=> ?_,fun h=> ?_⟩<;>simp only [Rel]at h ⊢ <;>exact h
theorem qf8 {E:Env} {ys:List Value} {c:Cnt} (h:qj E [.p (6,0) 0 0,.p (2,0) 0 0,.p (7,0) 0 0] ys c):qj (xa E) [.p (1,0) 0 0,.p (2,0) 0 0,.p (3,0) 0 0] ys c:=by
 simp only [qj]at h ⊢
 obtain ⟨y1,z1,a1,b1,rfl,h1,⟨y2,z2,a2,b2,rfl,h2,⟨y3,z3,a3,b3,rfl,h3,h4,rfl⟩,rfl⟩,rfl⟩:=h
 exact ⟨y1,_,a1,_,rfl,qct.1 h1,⟨y2,_,a2,_,rfl,qct.2.1 h2,⟨y3,_,a3,_,rfl,qct.2.2 h3,h4,rfl⟩,rfl⟩,rfl⟩
theorem qmi {E:Env} {lo len:Nat} {y:Value} {c:Cnt} (h:Rel E (.s (100000,0) lo len) y c):Rel (k7 E) (.s (100000,0) lo len) y c:=by
 have e:(k7 E).μ (100000,0)=E.μ (100000,0):=rfl
 simp only [Rel]at h ⊢
 rw [e]
 exact h
section
variable (τ:Bool) (vs:List V)
theorem qo8 {E E':Env} {x x':V} {ys:List Value} {c:Cnt} (hl:x'.cells.length=x.cells.length) (h:qk E 1 [x] ys c) (hx: ∀ y c,Rel E x y c→Rel E' x' y c):qk E' 1 [x'] ys c:=by
 simp only [qk]at h ⊢
 obtain ⟨y,ys',c1,c2,h1,h2,h3,h4,h5,h6,h7⟩:=h
 exact ⟨y,ys',c1,c2,h1,h2,by rw [hl];exact h3,h4,hx _ _ h5,h6,h7⟩
theorem qar {E E':Env} {k k':Key} {x x':V} {c:Cnt} (hw:E'.w=E.w) (hk:E'.μ k'=E.μ k) (hl:x'.cells.length=x.cells.length) (hm: ∀ es,x ≠ .w (some true) es) (h:zW E k (1,[x]) c) (hx: ∀ y c,Rel E x y c→Rel E' x' y c):zW E' k' (1,[x']) c:=by
 rcases h with ⟨_,_,_,es,_,_,_,h5,_⟩|⟨_,h2,_⟩|⟨b,base,lim,cells,T,fz,c1,h1,h2,h3,h4,h5,h6,rfl⟩
 ·simp only [List.cons.injEq,and_true]at h5;exact absurd h5 (hm es)
 ·cases h2
 ·exact .inr (.inr ⟨b,base,lim,cells,T,fz,c1,by rw [hk];exact h1,by rw [hw];exact h2,h3,h4,h5,qo8 hl h6 hx,rfl⟩)
theorem qmG {E:Env} {c:Cnt} (h:qm E [((7,0),1,[.f (.func 13) [] [.p (6,0) 0 0,.p (2,0) 0 0,.p (7,0) 0 0]]),((6,0),1,[.n 1]),((2,0),1,[.i τ vs])] c):qm (xa E) (loT [] τ vs 13) c:=by
 obtain ⟨a7,r7,h7,⟨a6,r6,h6,⟨a2,r2,h2,h0,rfl⟩,rfl⟩,rfl⟩:=h
 simp only [qm]at h0
 subst h0
 have g1:zW (xa E) (1,0) (1,[.s (100000,0) 0 0]) a6:=qar (E:=E) (k:=(6,0)) (x:= .n 1) (E':=xa E) rfl rfl rfl (fun es h=>by cases h) h6 (fun y c h=>by
  simp only [Rel]at h ⊢
  exact ⟨h.2,.inl ⟨none,rfl,trivial,trivial,h.1⟩⟩)
 have g2:zW (xa E) (2,0) (1,[.i τ vs]) a2:=qar (E:=E) (k:=(2,0)) (x:= .i τ vs) (E':=xa E) rfl rfl rfl (fun es h=>by cases h) h2 (fun y c h=>h)
 have g3:zW (xa E) (3,0) (1,[.f (.func 13) [] [.p (1,0) 0 0,.p (2,0) 0 0,.p (3,0) 0 0]]) a7:=qar (E:=E) (k:=(7,0)) (x:= .f (.func 13) [] [.p (6,0) 0 0,.p (2,0) 0 0,.p (7,0) 0 0]) (E':=xa E) rfl rfl rfl (fun es h=>by cases h) h7 (fun y c h=>by
  simp only [Rel]at h ⊢
  obtain ⟨fs,cs,c1,c2,h1,h2,h3,h4⟩:=h
  exact ⟨fs,cs,c1,c2,h1,by simpa only [qj]using h2,qf8 h3,h4⟩)
 have g4:zW (xa E) (100000,0) (1,[]) c0:= .inr (.inl ⟨⟨none,rfl⟩,rfl,rfl⟩)
 refine ⟨a6,qg a2 (qg a7 (qg c0 c0)),g1,⟨a2,_,g2,⟨a7,_,g3,⟨c0,c0,g4,rfl,rfl⟩,rfl⟩,rfl⟩, ?_⟩
 funext b
 simp only [qg,c0]
 omega
theorem qmh {E:Env} {c:Cnt} {l:List Str} (h:qm E (loT l τ vs 13) c): ∃ c',qm (k7 E) [((6,0),1,[.s (100000,0) 0 l.length]),((100000,0),1,l.map S)] c'∧cle c' c:=by
 obtain ⟨a1,r1,h1,⟨a2,r2,h2,⟨a3,r3,h3,⟨a4,r4,h4,h0,rfl⟩,rfl⟩,rfl⟩,rfl⟩:=h
 simp only [qm]at h0
 subst h0
 have g1:zW (k7 E) (6,0) (1,[.s (100000,0) 0 l.length]) a1:=qar (E:=E) (k:=(1,0)) (x:= .s (100000,0) 0 l.length) (E':=k7 E) rfl rfl rfl (fun es h=>by cases h) h1 (fun y c h=>qmi h)
 have g4:zW (k7 E) (100000,0) (1,l.map S) a4:=by
  rcases h4 with ⟨b,ents,clk,es,k1,k2,k3,k4,k5⟩|⟨k1,k2,k3⟩|⟨b,base,lim,cells,T,fz,c1,k1,k2,k3,k4,k5,k6,rfl⟩
  ·cases l with
   |nil=>cases k4
   |cons x r=>simp only [List.map_cons,List.cons.injEq]at k4;cases k4.1
  ·exact .inr (.inl ⟨k1,k2,k3⟩)
  ·refine .inr (.inr ⟨b,base,lim,cells,T,fz,c1,k1,k2,k3,k4,k5, ?_,rfl⟩)
   have hz: ∀ (l:List Str) ys c,qk E 1 (l.map S) ys c→qk (k7 E) 1 (l.map S) ys c:=by
    intro l
    induction l with
    |nil=>intro ys c h;simpa only [List.map_nil,qk]using h
    |cons x r ih=>
     intro ys c h
     simp only [List.map_cons,qk]at h ⊢
     obtain ⟨y,ys',c1,c2,h1,h2,h3,h4,h5,h6,h7⟩:=h
     exact ⟨y,ys',c1,c2,h1,h2,h3,h4,by simpa only [S,Rel]using h5,ih _ _ h6,h7⟩
   exact hz l _ _ k6
 refine ⟨qg a1 (qg a4 c0),⟨a1,_,g1,⟨a4,c0,g4,rfl,rfl⟩,rfl⟩,fun b=> ?_⟩
 simp only [qg,c0]
 omega
end
theorem qhO(fs:List Fl) (U:List Str) (hI: ∀ s,∀ x ∈ qE fs s,x ∈ U): ∀ (n i:Nat) (nm:List Str),nm.Nodup→(∀ x ∈ nm,x ∈ U)→(yg fs n i nm).Nodup∧ ∀ x ∈ yg fs n i nm,x ∈ U
 |0,i,nm,h1,h2=>⟨h1,h2⟩
 |n+1,i,nm,h1,h2=>by
  simp only [yg]
  split
  ·exact ⟨h1,h2⟩
  ·rename_i s hs
   have ad:=KB (U:=U) (qE fs s) nm h2 (hI s) h1
   exact qhO fs U hI n _ _ ad.2.1 ad.1
theorem qjb(fs:List Fl) (hfs:fs.length≤Lm) (nm:Str) (h:kr fs nm=false): ∀ (k:Nat) (x:Str),Rch fs nm x→(qS fs [x]).length≤k→Rk (qE fs) k x:=by
 have hU:=QV fs nm hfs
 have hI:=js fs nm
 have no: ∀ x y,Rch fs nm x→y ∈ qE fs x→ ¬ Rch fs y x:=by
  intro x y hx hy hyx
  have h1:x ∈ qS fs [nm]:=(ZD fs [nm] (by simp) (yf fs nm) hU hI (by simp [yf]) x).2 ⟨nm,by simp,hx⟩
  have h2:x ∈ qS fs (qE fs x):=(ZD fs (qE fs x) (qcj fs x) (yf fs nm) hU hI (hI x) x).2 ⟨y,hy,hyx⟩
  unfold kr at h
  rw [List.any_eq_false]at h
  exact h x h1 (by simpa using h2)
 have hu: ∀ x,Rch fs nm x→x ∈ yf fs nm:=by
  intro x hx
  cases hx with
  |refl=>simp [yf]
  |step _ hz=>exact hI _ _ hz
 intro k
 induction k with
 |zero=>
  intro x hx hl
  have h1:x ∈ qS fs [x]:=(ZD fs [x] (by simp) (yf fs nm) hU hI (by simpa using hu x hx) x).2 ⟨x,by simp,.refl x⟩
  have:=List.length_pos_of_mem h1
  omega
 |succ k ih=>
  intro x hx hl y hy
  have hxy:Rch fs nm y:= .step hx hy
  refine ih y hxy ?_
  have nd:(qS fs [y]).Nodup:=by
   unfold qS
   exact (qhO fs (yf fs nm) hI _ _ [y] (by simp) (by simpa using hu y hxy)).1
  have hnd:(x::qS fs [y]).Nodup:=by
   refine List.nodup_cons.2 ⟨fun hm=> ?_,nd⟩
   obtain ⟨g,hg,hr⟩:=(ZD fs [y] (by simp) (yf fs nm) hU hI (by simpa using hu y hxy) x).1 hm
   simp only [List.mem_singleton]at hg
   subst hg
   exact no x _ hx hy hr
  have hsub: ∀ z ∈ x::qS fs [y],z ∈ qS fs [x]:=by
   intro z hz
   refine (ZD fs [x] (by simp) (yf fs nm) hU hI (by simpa using hu x hx) z).2 ⟨x,by simp, ?_⟩
   rcases List.mem_cons.1 hz with rfl|hz
   ·exact .refl _
   ·obtain ⟨g,hg,hr⟩:=(ZD fs [y] (by simp) (yf fs nm) hU hI (by simpa using hu y hxy) z).1 hz
    simp only [List.mem_singleton]at hg
    subst hg
    exact Rch.trans (.step (.refl x) hy) hr
  have:=ZE hsub hnd
  simp only [List.length_cons]at this
  omega
def yz(fs:List Fl) (s:Str):Bool:=(zR fs s).isSome
def xR(fs:List Fl) (s:Str):Str:=match zR fs s with|some x=>x.text|none=>[]
def yu(fs:List Fl) (nm:Str):List Str:=zq (qE fs) (yz fs) (qS fs [nm]).length nm []
def loV(fs:List Fl) (nm:Str):V:=if kr fs nm=true then .t [.o 1 [],B false]else .t [.o 1 ((yu fs nm).map S),B true]
theorem qbx(fs:List Fl) (hfs:fs.length≤Lm) (nm:Str) (h:kr fs nm=false):Rk (qE fs) (qS fs [nm]).length nm:=
 qjb fs hfs nm h _ nm (.refl nm) (Nat.le_refl _)
theorem qj9(τ τ':Bool) (fs:List Fl) (hfs:fs.length≤Lm) (s:Str):cr qh jN [.i τ (fs.map (iFl τ')),S s]=some (.t [S (xR fs s),B (yz fs s)]):=by
 rw [qcd τ τ' fs s (by unfold Lm at hfs;omega)]
 unfold xR yz jr
 cases zR fs s<;>rfl
def ldQ(E:Env) (c:Cnt) (xs:List V) (vs:List Value) (r:V):Ending→World→Prop:=
 fun e w''=> ∃ y,e= .returned y∧ ∃ E' cr co,E'.w=w''∧Rel E'.cl r y cr∧qj E'.cl xs vs co∧Good E' (qg cr co)∧Adv E c E' (qg cr co)
theorem qf3 {E E':Env} {c c':Cnt} {st:St} {a:Act} {xs:List V} {vs:List Value} {x4 x5:V} {T':Mem} {r:V} (hF:FRel 16 E' st a.tmps c') (hres:xO st.σ st.T [.tmp 4,.tmp 5]=some ([x4,x5],T')) (hr:(qu 30 T' (.t [x4,x5])).1=r)
 (hdf:a.defers=[]) (hG:Good E c) (hA:Adv E c E' c') (hxs:qj E.cl xs vs c0):bodyPost Try.prog Try.f6 (ldQ E c xs vs r) .ret a E'.w:=by
 obtain ⟨ws,d1,d2,k1,k2,k3,k4⟩:=qda (P:=Try.prog) hF.σ qmu hF.T hres
 have hres':(results Try.f6 a.tmps).run Try.prog E'.w= .ok (if h:ws.toArray.size=1 then ws.toArray[0]else .tuple ws.toArray) E'.w:=by
  unfold results
  rw [Sem.run_bind]
  refine Eq.trans (congrArg (fun r=>Result.andThen r _) (qdf (l:=(Try.f6).results) k1)) ?_
  rfl
 obtain ⟨e1,e2,g1,g2,g3,-⟩:=Zs 30 E' T' _ _ d2 d1 k3 (qgV k2)
 have hle:cle e2 c':=fun b=>by
  have:=k4 b;have:=g3 b;simp only [qg]at*;omega
 have hM:Mono E E' c0→qj E'.cl xs vs c0:=fun m=>yP hxs m.cl
 refine ⟨hdf,_,hres',_,rfl,E',e2,c0,rfl,by rw [← hr];exact g2, ?_,by rw [Qz];exact hF.g.le hle,by rw [Qz];exact hA.le hle⟩
 refine yP (E:=E.cl) hxs ?_
 have hA2:Adv E c {E' with μ:=E.μ} c':=⟨hA.sizes,hA.os,hA.tape,hA.output,hA.size,hA.frame,hA.sub,hA.own,hA.imm⟩
 have:=KY (ci:=c) (cr:=c0) (by rw [Qz];exact hG) hA2 (fun k l h=>h)
 exact this.cl
section
variable (τ τ':Bool) (fs:List Fl) (nm:Str)
theorem qmn(hfs:fs.length≤Lm) (E:Env) (vs:List Value) (hxs:qj E.cl [.i τ (fs.map (iFl τ')),S nm] vs c0) (hG:Good E c0):
 Calls Try.prog 6 vs.toArray E.w (ldQ E c0 [.i τ (fs.map (iFl τ')),S nm] vs (loV fs nm)):=by
 have hK:=xJ
 have hvl:=yE hxs
 refine calls_of_wp Try.func6 qf2 ?_
 have hsz:(vs.toArray++Array.replicate (Try.f6.ntmps - vs.toArray.size) undef).size=16:=by
  rw [qmp]
  simp only [Array.size_append,List.size_toArray,Array.size_replicate,hvl,List.length_cons,List.length_nil]
 have hGc:Good E.cl c0:=⟨hG.one,hG.imm,hG.sub,hG.bnd,⟨hG.lay.lb,hG.lay.ll⟩⟩
 have hF:FRel 16 E.cl ⟨[(0,.i τ (fs.map (iFl τ'))),(1,S nm)],[]⟩ (vs.toArray++Array.replicate (Try.f6.ntmps - vs.toArray.size) undef) c0:=⟨hsz,qdj (xs:=[.i τ (fs.map (iFl τ')),S nm]) hxs,rfl,hGc⟩
 have hA0:Adv E c0 E.cl c0:=⟨fun _ _ h=>h,rfl,rfl,rfl,Nat.le_refl _,fun _ _ _=>rfl,fun _ _ h=>h,fun _ h=> .inl h,fun _ _ h=> .inl h⟩
 have hp0:=yO (a:=⟨_,[]⟩) hK qmw (y_0 τ τ' fs nm) hF
 refine wp_seq (wp_mono hp0 ?_)
 rintro e a0 w0 ⟨rfl,hd0,E0,d0,rfl,hF0,hk0,hA1⟩
 simp only [xOf,Exit.then]
 have hd0':a0.defers=[]:=hd0
 refine wp_seq ?_
 cases hc:kr fs nm with
 |true=>
  refine wp_mono (yO hK qf5 (qq1 τ τ' fs nm hfs hc) hF0) ?_
  rintro e a1 w1 ⟨rfl,hd1,E1,d1,rfl,hF1,hk1,hA2⟩
  simp only [xOf,Exit.then]
  have hfin:=qf3 (r:= .t [.o 1 [],B false]) (x4:= .n 1) (x5:=B false) (T':=[((2,0),1,[.i τ (fs.map (iFl τ'))])]) hF1 rfl (by simp only [go_sem,qa,qb,qc,qd,qe,qf,reduceCtorEq]) (hd1.trans hd0') hG ((hA0.trans hA1).trans hA2) hxs
  unfold loV
  rw [if_pos hc]
  exact hfin
 |false=>
  refine wp_mono (yO hK qf5 (qq2 τ τ' fs nm hfs hc) hF0) ?_
  rintro e a1 w1 ⟨rfl,hd1,E1,d1,rfl,hF1,hk1,hA2⟩
  simp only [xOf,Exit.then]
  refine wp_seq (wp_mono (yO hK qmz (y_2 τ τ' fs nm) hF1) ?_)
  rintro e a2 w2 ⟨rfl,hd2,E2,d2,rfl,hF2,hk2,hA3⟩
  simp only [xOf,Exit.then]
  refine wp_seq (wp_mono (yO hK qmA (y_3 τ τ' fs nm) hF2) ?_)
  rintro e a3 w3 ⟨rfl,hd3,E3,d3,rfl,hF3,hk3,hA4⟩
  simp only [xOf,Exit.then]
  refine wp_seq (wp_mono (yO hK qmB (y_4 τ τ' fs nm) hF3) ?_)
  rintro e a4 w4 ⟨rfl,hd4,E4,d4,rfl,hF4,hk4,hA5⟩
  simp only [xOf,Exit.then]
  have hdd:a4.defers=[]:=(((hd4.trans hd3).trans hd2).trans hd1).trans hd0'
  have hAA:=((((hA0.trans hA1).trans hA2).trans hA3).trans hA4).trans hA5
  clear hF hF0 hF1 hF2 hF3 hA0 hA1 hA2 hA3 hA4 hA5
  rw [qmm]
  refine wp_seq (wp_region ?_)
  rw [qmv]
  show wpOps Try.prog k8 _ [0,1,2] a4 E4.w
  simp only [wpOps,qmj,qmk,qml]
  refine Xh (Zn hK 0) qmx (qqZ τ τ' fs nm) hF4 ?_
  intro z1 E5 d5 hF5 hk5 hp5 hA6
  refine Xh (Zn hK 0) qmy (qq0 τ τ' fs nm) hF5 ?_
  intro z2 E6 d6 hF6 hk6 hp6 hA7
  rw [if_pos (qiU qms _)]
  left
  have h20:=qD (a:=(a4.put YO.dst z1).put YP.dst z2) hF6.σ (show trO (.tmp 12) (.t 12)=some (.t 12)from rfl) (show ev _ (.t 12)=some (.f (.func 13) [] [.p (6,0) 0 0,.p (2,0) 0 0,.p (7,0) 0 0])from rfl)
  have h21:=qD (a:=(a4.put YO.dst z1).put YP.dst z2) hF6.σ (show trO (.tmp 13) (.t 13)=some (.t 13)from rfl) (show ev _ (.t 13)=some (S nm)from rfl)
  have h6:=hF6.σ 6 (.p (6,0) 0 0) rfl
  have hdz:((a4.put YO.dst z1).put YP.dst z2).defers=[]:=by rw [QN,QN];exact hdd
  have hAz:=(hAA.trans hA6).trans hA7
  generalize (a4.put YO.dst z1).put YP.dst z2=az at hF6 h20 h21 h6 hdz ⊢
  clear hF4 hF5 hAA hA6 hA7
  simp only [Rel]at h20
  obtain ⟨fs',cs,e1,e2,hv,hr1,hr2,hcc⟩:=h20
  obtain ⟨rfl,rfl⟩:=cz hcc.symm.symm rfl
  simp only [qj]at hr1
  have hfs':fs'= #[]:=Array.toList_eq_nil_iff.1 hr1.1
  subst hfs'
  have hargs:(clO jv).args.map az.eval++cs=(az.eval (.tmp 13)::cs.toList).toArray:=by
   rw [qmq]
   apply Array.ext'
   simp
  refine qew qmt qmr hv Try.func13 qcu qgg ?_
  rw [hargs]
  have hRA:qj (xa E6) (loA nm) (az.eval (.tmp 13)::cs.toList) c0:=by
   unfold loA
   have:=qf8 hr2
   simp only [qj]at this ⊢
   exact ⟨_,_,c0,c0,rfl,h21,this,rfl⟩
  have hG6:Good (xa E6) d6:=⟨hF6.g.one,hF6.g.imm,hF6.g.sub,hF6.g.bnd,⟨hF6.g.lay.lb,hF6.g.lay.ll⟩⟩
  have hU:=QV fs nm hfs
  have hE:=qmK (qE fs) (yz fs) (xR fs) τ (fs.map (iFl τ')) (fun s=>qch τ τ' fs s (by unfold Lm at hfs;omega)) (qj9 τ τ' fs hfs) hU (js fs nm) (fun s=>by have:=J7 fs s;omega)
   (qS fs [nm]).length nm (qbx fs hfs nm hc) (by simp [yf]) [] ⟨List.nodup_nil,fun z hz=>by cases hz⟩
  refine (hE (xa E6) _ d6 hRA (qmG τ _ hF6.T) hG6).mono ?_
  rintro e w'' ⟨y,rfl,E7,d7,rfl,hk7,hT7,hg7,hA8⟩
  refine ⟨y,rfl, ?_⟩
  obtain ⟨d8,hT8,hle8⟩:=qmh τ _ hT7
  have hG8:Good (k7 E7) d8:=Good.le (c:=d7) ⟨hg7.one,hg7.imm,hg7.sub,hg7.bnd,⟨hg7.lay.lb,hg7.lay.ll⟩⟩ hle8
  have hA9:Adv E c0 (k7 E7) d8:=Adv.le (c':=d7) (hAz.trans (E':=E6) (c':=d6) ⟨hA8.sizes,hA8.os,hA8.tape,hA8.output,hA8.size,hA8.frame,hA8.sub,hA8.own,hA8.imm⟩) hle8
  have hF8:FRel 16 (k7 E7) ⟨[(6,.p (6,0) 0 0)],[((6,0),1,[.s (100000,0) 0 (yu fs nm).length]),((100000,0),1,(yu fs nm).map S)]⟩ (az.put jv.dst y).tmps d8:=by
   refine ⟨?_, ?_,hT8,hG8⟩
   ·rw [qf4]
    simpa [Act.put]using hF6.sz
   ·intro t x hx
    simp only [qz]at hx
    split at hx
    case isFalse=>cases hx
    rename_i h
    subst h
    cases hx
    obtain ⟨v6,hv6,hr6⟩:=h6
    refine ⟨v6, ?_, ?_⟩
    ·rw [qf4]
     simp only [Act.put]
     rw [Array.getElem?_setIfInBounds_ne (by decide)]
     exact hv6
    ·have e1:E7.μ (1,0)=(xa E6).μ (1,0):=hk7 (1,0) (by decide)
     have e2:(k7 E7).μ (6,0)=E6.μ (6,0):=e1
     simp only [Rel]at hr6 ⊢
     rw [e2]
     exact hr6
  have hp9:=yO (a:=az.put jv.dst y) hK qmC (y_6 (yu fs nm)) hF8
  refine wp_mono hp9 ?_
  rintro e a9 w9 ⟨rfl,hd9,E9,d9,rfl,hF9,hk9,hA10⟩
  refine qf3 (x4:= .s (100000,0) 0 (yu fs nm).length) (x5:=B true) (T':=[((6,0),1,[.s (100000,0) 0 (yu fs nm).length]),((100000,0),1,(yu fs nm).map S)]) hF9 rfl ?_ ?_ hG (hA9.trans hA10) hxs
  ·unfold loV
   rw [hc]
   have tk:((yu fs nm).map S).take (yu fs nm).length=(yu fs nm).map S:=List.take_of_length_le (by simp)
   simp only [go_sem,qa,qb,qc,qd,qe,qf,reduceCtorEq,tk,List.length_map,Bool.false_eq_true,if_false]
  ·rw [hd9,QN];exact hdz
end
end Go.Vm
namespace Go.Vm
open Go.Proofs
theorem qdZ {p q:Nat→Option AE} (h: ∀ f e,p f=some e→q f=some e): ∀ (n:Nat),CLe (qR p n) (qR q n)
 |0=>fun f xs r h=>by simp [qR]at h
 |n+1=>by
  have IH:=qdZ h n
  intro f xs r hr
  rw [qR]at hr ⊢
  split at hr
  ·rename_i g hg
   rw [h _ _ hg];exact hr
  ·rename_i af haf
   rw [h _ _ haf]
   split at hr
   case isFalse=>cases hr
   rename_i hlen
   simp only
   rw [if_pos hlen]
   cases he:qr (qR p n) n af.body {σ:=yQ 0 (za 0 xs).1,T:=(za 0 xs).2} with
   |none=>rw [he]at hr;cases hr
   |some s=>rw [he]at hr;rw [zD IH n n _ _ _ (Nat.le_refl n) he];exact hr
  ·cases hr
theorem qjT {p q:Nat→Option AE} (h: ∀ f e,p f=some e→q f=some e) {f:Nat} {xs:List V} {r:V × List V} (hr:cw p f xs=some r):cw q f xs=some r:=by
 obtain ⟨n,hn⟩:=QC.1 hr
 exact QC.2 ⟨n,qdZ h n _ _ _ hn⟩
theorem qjQ {p q:Nat→Option AE} (h: ∀ f e,p f=some e→q f=some e) {f:Nat} {xs:List V} {r:V} (hr:cr p f xs=some r):cr q f xs=some r:=by
 unfold cr at hr ⊢
 obtain ⟨x,hx,rfl⟩:=Option.map_eq_some_iff.1 hr
 rw [qjT h hx];rfl
def J2:V→Option Fl
 | .a [.v (.string s),.v (.string t)]=>some ⟨s.data.toList,t.data.toList⟩
 |_=>none
def Zu:List V→Option (List Fl)
 |[]=>some []
 |v::vs=>match J2 v,Zu vs with
  |some x,some xs=>some (x::xs)
  |_,_=>none
theorem qjV {v:V} {x:Fl} (h:J2 v=some x):v=iFl false x:=by
 unfold J2 at h
 split at h
 ·simp only [Option.some.injEq]at h
  subst h
  rfl
 ·cases h
theorem qe0: ∀ {vs:List V} {xs:List Fl},Zu vs=some xs→vs=xs.map (iFl false)
 |[],xs,h=>by simp only [Zu,Option.some.injEq]at h;subst h;rfl
 |v::vs,xs,h=>by
  simp only [Zu]at h
  split at h
  ·rename_i x ys h1 h2
   simp only [Option.some.injEq]at h
   subst h
   rw [List.map_cons, ← qjV h1, ← qe0 h2]
  ·cases h
theorem qeZ(τ:Bool): ∀ (xs:List Fl),Zu (xs.map (iFl τ))=some xs
 |[]=>rfl
 |x::xs=>by
  have h1:J2 (iFl τ x)=some x:=rfl
  simp only [List.map_cons,Zu,h1,qeZ τ xs]
noncomputable def loP:List V→Option (V × List V)
 |[.i τ vs,.v (.string s)]=>match Zu vs with
  |some fs=>if fs.length≤Lm then some (loV fs s.data.toList,[.i τ vs,.v (.string s)])else none
  |none=>none
 |_=>none
theorem qmH: ∀ args r outs,loP args=some (r,outs)→XJ Try.prog 6 args r outs:=by
 intro args r outs h
 unfold loP at h
 split at h
 case h_2=>cases h
 rename_i τ vs s
 split at h
 case h_2=>cases h
 rename_i fs hfs
 split at h
 case isFalse=>cases h
 rename_i hl
 simp only [Option.some.injEq,Prod.mk.injEq]at h
 obtain ⟨rfl,rfl⟩:=h
 have hv:=qe0 hfs
 subst hv
 intro E xs c hx hg
 have h0:c=c0:=by
  simp only [qj,Rel]at hx
  obtain ⟨y,ys,c1,c2,rfl,⟨rfl,-⟩,⟨y',ys',c3,c4,rfl,⟨rfl,-,rfl⟩,⟨rfl,rfl⟩,rfl⟩,rfl⟩:=hx
  rfl
 subst h0
 rw [qe6 Try.func6 qf2 qmo]
 exact ⟨rfl,qmn τ false fs s.data.toList hl E xs hx hg⟩
noncomputable def xd(n:Nat):Option AE:=if n=XN then some (.prim loP)else qh n
theorem qoL:qh XN=none:=by rfl
theorem qoM: ∀ f e,qh f=some e→xd f=some e:=by
 intro f e h
 unfold xd
 split
 ·rename_i hf;subst hf;rw [qoL]at h;cases h
 ·exact h
theorem qlQ:Ql Try.prog xd:=by
 intro f e h
 unfold xd at h
 split at h
 ·rename_i hf
  subst hf
  simp only [Option.some.injEq]at h
  subst h
  exact qmH
 ·exact xJ f e h
theorem crB {f:Nat} {xs:List V} {r:V} (h:cr qh f xs=some r):cr xd f xs=some r:=qjQ qoM h
theorem qi8(τ τ':Bool) (fs:List Fl) (hfs:fs.length≤Lm) (nm:Str):cr xd XN [.i τ (fs.map (iFl τ')),S nm]=some (loV fs nm):=by
 have hp:xd XN=some (.prim loP):=by unfold xd;rw [if_pos rfl]
 unfold cr
 rw [qeY hp]
 simp only [loP,S,qeZ,if_pos hfs]
 rfl
end Go.Vm
set_option maxHeartbeats 4000000
namespace Go.Vm
section
variable (inc:Str→List Str) (has:Str→Bool)
def jQ(l:List Str):Prop:= ∀ (i:Nat) (x:Str),l[i]? =some x→has x=true∧ ∀ g ∈ inc x,has g=true→g ∈ l.take i
theorem qqp {l:List Str} (h:jQ inc has l) {x:Str} (hx:x ∈ l):has x=true∧ ∀ g ∈ inc x,has g=true→g ∈ l:=by
 obtain ⟨i,hi⟩:=List.mem_iff_getElem?.1 hx
 obtain ⟨h1,h2⟩:=h i x hi
 exact ⟨h1,fun g hg hh=>List.mem_of_mem_take (h2 g hg hh)⟩
theorem qqq {l:List Str} (h:jQ inc has l) {x:Str} (hx:has x=true) (hg: ∀ g ∈ inc x,has g=true→g ∈ l):jQ inc has (l++[x]):=by
 intro i y hy
 by_cases hi:i < l.length
 ·rw [List.getElem?_append_left hi]at hy
  obtain ⟨h1,h2⟩:=h i y hy
  refine ⟨h1,fun g hg' hh=> ?_⟩
  rw [List.take_append_of_le_length (by omega)]
  exact h2 g hg' hh
 ·have hi2:i=l.length:=by
   have:=(List.getElem?_eq_some_iff.1 hy).1
   simp at this
   omega
  subst hi2
  simp at hy
  subst hy
  refine ⟨hx,fun g hg' hh=> ?_⟩
  simpa using hg g hg' hh
theorem qg3: ∀ (n:Nat) (nm:Str) (l:List Str),∀ x ∈ l,x ∈ zq inc has n nm l
 |0,nm,l,x,hx=>hx
 |n+1,nm,l,x,hx=>by
  have fo: ∀ (ws:List Str) (l:List Str),x ∈ l→x ∈ ws.foldl (fun o x=>zq inc has n x o) l:=by
   intro ws
   induction ws with
   |nil=>intro l h;exact h
   |cons w ws ih=>intro l h;exact ih _ (qg3 n w l x h)
  simp only [zq]
  split
  ·exact hx
  ·split
   ·exact List.mem_append_left _ (fo _ _ hx)
   ·exact fo _ _ hx
theorem qg4: ∀ (n:Nat) (nm:Str) (l:List Str),Rk inc n nm→jQ inc has l→jQ inc has (zq inc has n nm l)∧(has nm=true→nm ∈ zq inc has n nm l)
 |0,nm,l,h,_=>h.elim
 |n+1,nm,l,hr,ht=>by
  have fo: ∀ (ws:List Str),(∀ w ∈ ws,Rk inc n w)→ ∀ (l:List Str),jQ inc has l→jQ inc has (ws.foldl (fun o x=>zq inc has n x o) l)∧(∀ w ∈ ws,has w=true→w ∈ ws.foldl (fun o x=>zq inc has n x o) l):=by
   intro ws
   induction ws with
   |nil=>intro _ l h;exact ⟨h,fun w hw=>by cases hw⟩
   |cons w ws ih=>
    intro hw l h
    obtain ⟨t1,t2⟩:=qg4 n w l (hw w (by simp)) h
    obtain ⟨t3,t4⟩:=ih (fun v hv=>hw v (by simp [hv])) _ t1
    refine ⟨t3,fun v hv hh=> ?_⟩
    rcases List.mem_cons.1 hv with rfl|hv
    ·have fs: ∀ (ws:List Str) (l:List Str),v ∈ l→v ∈ ws.foldl (fun o x=>zq inc has n x o) l:=by
      intro ws
      induction ws with
      |nil=>intro l h;exact h
      |cons w ws ih=>intro l h;exact ih _ (qg3 inc has n w l v h)
     exact fs ws _ (t2 hh)
    ·exact t4 v hv hh
  obtain ⟨t1,t2⟩:=fo (inc nm) (fun w hw=>hr w hw) l ht
  simp only [zq]
  split
  ·rename_i hm
   exact ⟨ht,fun _=>hm⟩
  ·split
   ·rename_i hh
    exact ⟨qqq inc has t1 hh t2,fun _=>by simp⟩
   ·rename_i hh
    exact ⟨t1,fun h=>absurd h hh⟩
theorem qg2(P:Str→Prop) (hP: ∀ x,P x→ ∀ g ∈ inc x,P g): ∀ (n:Nat) (nm:Str) (l:List Str),P nm→(∀ x ∈ l,P x)→ ∀ x ∈ zq inc has n nm l,P x
 |0,nm,l,h,hl=>hl
 |n+1,nm,l,h,hl=>by
  have fo: ∀ (ws:List Str),(∀ w ∈ ws,P w)→ ∀ (l:List Str),(∀ x ∈ l,P x)→ ∀ x ∈ ws.foldl (fun o x=>zq inc has n x o) l,P x:=by
   intro ws
   induction ws with
   |nil=>intro _ l h;exact h
   |cons w ws ih=>intro hw l h;exact ih (fun v hv=>hw v (by simp [hv])) _ (qg2 P hP n w l (hw w (by simp)) h)
  simp only [zq]
  split
  ·exact hl
  ·split
   ·intro x hx
    rcases List.mem_append.1 hx with hx|hx
    ·exact fo _ (hP nm h) l hl x hx
    ·simp only [List.mem_singleton]at hx;subst hx;exact h
   ·exact fo _ (hP nm h) l hl
end
theorem qfL(fs:List Fl) (s:Str):qE fs s=y8 (xR fs s):=by
 unfold qE xR
 cases zR fs s with
 |none=>exact qfJ.symm
 |some x=>rfl
theorem qkF {fs:List Fl} {s g:Str} (h:g ∈ qE fs s):yz fs s=true:=by
 unfold yz
 cases hf:zR fs s with
 |none=>unfold qE at h;rw [hf]at h;cases h
 |some x=>rfl
theorem qhS(fs:List Fl) (hfs:fs.length≤Lm) (nm x:Str):x ∈ qS fs [nm]↔Rch fs nm x:=by
 rw [ZD fs [nm] (by simp) (yf fs nm) (QV fs nm hfs) (js fs nm) (by simp [yf]) x]
 simp
theorem qg5(fs:List Fl) (hfs:fs.length≤Lm) (nm:Str) (hc:kr fs nm=false):jQ (qE fs) (yz fs) (yu fs nm)∧(yz fs nm=true→nm ∈ yu fs nm):=
 qg4 (qE fs) (yz fs) _ nm [] (qbx fs hfs nm hc) (fun i x h=>by simp at h)
theorem qnt(fs:List Fl) (hfs:fs.length≤Lm) (nm:Str): ∀ x ∈ yu fs nm,x ∈ qS fs [nm]:=by
 intro x hx
 rw [qhS fs hfs nm x]
 exact qg2 (qE fs) (yz fs) (Rch fs nm) (fun y hy g hg=> .step hy hg) _ nm [] (.refl nm) (fun x h=>by cases h) x hx
theorem qo5(fs:List Fl) (hfs:fs.length≤Lm) (nm:Str) (hc:kr fs nm=false): ∀ x ∈ qS fs [nm],yz fs x=true→x ∈ yu fs nm:=by
 obtain ⟨t,hr⟩:=qg5 fs hfs nm hc
 intro x hx
 rw [qhS fs hfs nm x]at hx
 induction hx with
 |refl=>exact hr
 |step hy hz ih=>exact fun hh=>(qqp _ _ t (ih (qkF hz))).2 _ hz hh
theorem qbA: ∀ (r l:List Str),∃ m,yi l r=l++m
 |[],l=>⟨[],by simp [yi]⟩
 |x::r,l=>by
  simp only [yi]
  unfold zy
  split
  ·exact qbA r l
  ·obtain ⟨m,hm⟩:=qbA r (l++[x])
   exact ⟨x::m,by rw [hm];simp⟩
theorem qhP(fs:List Fl): ∀ (n i:Nat) (l:List Str),∃ m,yg fs n i l=l++m
 |0,i,l=>⟨[],by simp [yg]⟩
 |n+1,i,l=>by
  simp only [yg]
  split
  ·exact ⟨[],by simp⟩
  ·rename_i s _
   obtain ⟨m,hm⟩:=qbA (qE fs s) l
   obtain ⟨m2,hm2⟩:=qhP fs n (i+1) (yi l (qE fs s))
   exact ⟨m++m2,by rw [hm2,hm];simp⟩
theorem qo3(fs:List Fl) (nm:Str): ∃ m,qS fs [nm]=nm::m:=by
 unfold qS
 obtain ⟨m,hm⟩:=qhP fs 60000000000 0 [nm]
 exact ⟨m,by rw [hm];rfl⟩
end Go.Vm
namespace Go.Vm
theorem qkg(τ:Bool) (ts:List Str) (s:Str) (hl:ts.length≤2^40) (m:Nat): ∀ i:Nat,i+m=ts.length→
 lw qh X4 ⟨[(0,.i τ (ts.map S)),(1,S s),(5,I i)],[]⟩=if s ∈ ts.drop i then some (.ret,⟨[(4,B true)],[]⟩)else some (.exit 0,⟨[],[]⟩):=by
 induction m with
 |zero=>
  intro i hi
  have h: ¬ (i:Int) < (ts.length:Int):=by omega
  rw [List.drop_eq_nil_of_le (by omega),if_neg (by simp),qq]
  simp only [go_sem,qa,qb,qc,qd,qe,qf,reduceCtorEq,Km,h,List.length_map]
 |succ m ih=>
  intro i hi
  have h:(i:Int) < (ts.length:Int):=by omega
  obtain ⟨t,ht⟩:=z6 (l:=ts) (i:=i) (by omega)
  have g:=yy (f:=S) ht
  have a1:=fun T=>yX (τ:=τ) (T:=T) (e:=1) g rfl
  have e1:w64 ((i:Int)+1)=((i+1:Nat):Int):=by rw [qo]<;>omega
  have i1:=ih (i+1) (by omega)
  rw [QD ht,qq]
  by_cases he:t=s
  ·subst he
   rw [if_pos (by simp)]
   have d:decide (t=t)=true:=decide_eq_true rfl
   simp only [go_sem,qa,qb,qc,qd,qe,qf,reduceCtorEq,Km,h,g,a1,d,List.length_map]
  ·have d:decide (t=s)=false:=decide_eq_false he
   have e:(s ∈ t::ts.drop (i+1))=(s ∈ ts.drop (i+1)):=by
    simp only [List.mem_cons,eq_iff_iff,or_iff_right_iff_imp]
    intro h2;exact absurd h2.symm he
   simp only [e]
   rw [← i1]
   simp only [go_sem,qa,qb,qc,qd,qe,qf,reduceCtorEq,Km,h,g,a1,d,e1,List.length_map]
theorem qca(τ:Bool) (ts:List Str) (s:Str) (hl:ts.length≤2^40):cr qh XR [.i τ (ts.map S),S s]=some (B (decide (s ∈ ts))):=by
 have lp:=qkg τ ts s hl ts.length 0 (by omega)
 simp only [Int.natCast_zero,List.drop_zero]at lp
 rw [qF qn5 rfl]
 by_cases h:s ∈ ts
 ·rw [if_pos h]at lp
  have d:decide (s ∈ ts)=true:=decide_eq_true h
  simp only [go_sem,qa,qb,qc,qd,qe,qf,reduceCtorEq,Q7,lp,d]
 ·rw [if_neg h]at lp
  have d:decide (s ∈ ts)=false:=decide_eq_false h
  simp only [go_sem,qa,qb,qc,qd,qe,qf,reduceCtorEq,Q7,lp,d]
theorem qp3(T:Mem) (i:Nat) (C:List Str) (h:i≤C.length):Y7 T 1 (.i false (C.map S)) none (some (I (i:Int)))=some (.i false ((C.take i).map S)):=by
 have h0:(0:Int)≤(i:Int):=by omega
 have hd:qcb 1 (C.map S)=true:=by cases C<;>rfl
 simp only [Y7,QI,yY,I,List.length_map,h0,if_true,Int.toNat_natCast,Nat.zero_le,true_and,h,hd,List.drop_zero,Nat.sub_zero,List.map_take]
section
variable (fs:List Fl) (nm:Str) (ord all:List Str)
theorem qdn(τ τ':Bool) (hfs:fs.length≤Lm) (s:Str):cr qh Yv [.i τ (fs.map (iFl τ')),S s]=some (.t [S (xR fs s),B (yz fs s)]):=by
 rw [qp6 τ τ' fs s (by unfold Lm at hfs;omega)]
 unfold xR yz jr
 cases zR fs s<;>rfl
theorem qkE(hfs:fs.length≤Lm) (ho:ord.length≤2^40) (ha:all.length≤2^40) (b:Bool) (i:Nat) (hi:i < ord.length) (l:List Str) (hl:l.length≤2^40) (hg: ∀ g ∈ l,yz fs g=true→g ∈ ord.take i) (m:Nat): ∀ k:Nat,k+m=l.length→
 lw xd X2 ⟨[(3,.i false (fs.map (iFl false))),(4,S nm),(5,.i false (ord.map S)),(6,B b),(7,.s (100000,0) 0 all.length),(8,I (i:Int)),(11,.i false ((l).map S)),(12,I (k:Int))],[((100000,0),1,all.map S)]⟩=some (.exit 2,⟨[(3,.i false (fs.map (iFl false))),(4,S nm),(5,.i false (ord.map S)),(6,B b),(7,.s (100000,0) 0 all.length),(8,I (i:Int))],[((100000,0),1,all.map S)]⟩):=by
 induction m with
 |zero=>
  intro k hk
  have h: ¬ (k:Int) < (l.length:Int):=by omega
  rw [qq]
  simp only [go_sem,qa,qb,qc,qd,qe,qf,reduceCtorEq,Kl,h,List.length_map]
 |succ m ih=>
  intro k hk
  have h:(k:Int) < (l.length:Int):=by omega
  obtain ⟨t,ht⟩:=z6 (l:=l) (i:=k) (by omega)
  have g:=yy (f:=S) ht
  have ix:=fun T=>yX (τ:=false) (T:=T) (e:=1) g rfl
  have e1:w64 ((k:Int)+1)=((k+1:Nat):Int):=by rw [qo]<;>omega
  have f:=fun τ τ'=>crB (qdn fs τ τ' hfs t)
  have tf:=List.take_of_length_le (l:=fs.map oFl) (i:=fs.length) (by simp)
  have tkl:(ord.map S).take i=(ord.take i).map S:=by rw [List.map_take]
  have tkl2:(ord.take i).length=i:=by rw [List.length_take];omega
  have ht2:=fun τ=>crB (qca τ (ord.take i) t (by rw [tkl2];omega))
  have hle:i≤ord.length:=by omega
  have sl:=fun T=>qp3 T i ord hle
  rw [← ih (k+1) (by omega),qq]
  cases hh:yz fs t with
  |false=>
   rw [hh]at f
   simp only [go_sem,qa,qb,qc,qd,qe,qf,reduceCtorEq,Kl,h,g,ix,e1,f,tf,List.length_map]
  |true=>
   have hm:=hg t (List.mem_of_getElem? ht) hh
   rw [decide_eq_true hm]at ht2
   rw [hh]at f
   simp only [go_sem,qa,qb,qc,qd,qe,qf,reduceCtorEq,Kl,h,g,ix,e1,f,tf,ht2,tkl,sl,hle,List.length_map]
theorem qg6(hfs:fs.length≤Lm) (ho:ord.length≤2^40) (ha:all.length≤2^40) (b:Bool) (hin: ∀ s,(y8 (xR fs s)).length≤2^40) (ht:jQ (qE fs) (yz fs) ord) (hoa: ∀ x ∈ ord,x ∈ all) (m:Nat): ∀ i:Nat,i+m=ord.length→
 lw xd X3 ⟨[(3,.i false (fs.map (iFl false))),(4,S nm),(5,.i false (ord.map S)),(6,B b),(7,.s (100000,0) 0 all.length),(8,I (i:Int))],[((100000,0),1,all.map S)]⟩=some (.exit 0,⟨[(3,.i false (fs.map (iFl false))),(4,S nm),(5,.i false (ord.map S)),(6,B b),(7,.s (100000,0) 0 all.length)],[((100000,0),1,all.map S)]⟩):=by
 induction m with
 |zero=>
  intro i hi
  have h: ¬ (i:Int) < (ord.length:Int):=by omega
  rw [qq]
  simp only [go_sem,qa,qb,qc,qd,qe,qf,reduceCtorEq,JO,h,List.length_map]
 |succ m ih=>
  intro i hi
  have h:(i:Int) < (ord.length:Int):=by omega
  obtain ⟨t,hx⟩:=z6 (l:=ord) (i:=i) (by omega)
  obtain ⟨t1,t2⟩:=ht i t hx
  have g:=yy (f:=S) hx
  have ix:=fun T=>yX (τ:=false) (T:=T) (e:=1) g rfl
  have e1:w64 ((i:Int)+1)=((i+1:Nat):Int):=by rw [qo]<;>omega
  have f:=fun τ τ'=>crB (qdn fs τ τ' hfs t)
  rw [t1]at f
  have ii:=crB (qce (xR fs t))
  have tf:=List.take_of_length_le (l:=fs.map oFl) (i:=fs.length) (by simp)
  have ta:=List.take_of_length_le (l:=all.map S) (i:=all.length) (by simp)
  have ht2:=fun τ=>crB (qca τ all t ha)
  rw [decide_eq_true (hoa t (List.mem_of_getElem? hx))]at ht2
  rw [qfL]at t2
  have lp:=qkE fs nm ord all hfs ho ha b i (by omega) (y8 (xR fs t)) (hin t) t2 (y8 (xR fs t)).length 0 (by omega)
  simp only [Int.natCast_zero]at lp
  have tl:=List.take_of_length_le (l:=(y8 (xR fs t)).map S) (i:=(y8 (xR fs t)).length) (by simp)
  rw [← ih (i+1) (by omega),qq]
  simp only [go_sem,qa,qb,qc,qd,qe,qf,reduceCtorEq,JO,h,g,ix,e1,f,ii,tf,ta,ht2,lp,tl,List.length_map]
theorem qd6(hfs:fs.length≤Lm) (ho:ord.length≤2^40) (ha:all.length≤2^40) (b:Bool) (hr:b=true→ ∀ x ∈ all,yz fs x=true→x ∈ ord) (m:Nat): ∀ i:Nat,i+m=all.length→
 lw xd X1 ⟨[(3,.i false (fs.map (iFl false))),(4,S nm),(5,.i false (ord.map S)),(6,B b),(7,.s (100000,0) 0 all.length),(15,I i)],[((100000,0),1,all.map S)]⟩=some (.exit 4,⟨[(4,S nm),(7,.s (100000,0) 0 all.length)],[((100000,0),1,all.map S)]⟩):=by
 induction m with
 |zero=>
  intro i hi
  have h: ¬ (i:Int) < (all.length:Int):=by omega
  rw [qq]
  simp only [go_sem,qa,qb,qc,qd,qe,qf,reduceCtorEq,Yz,h,List.length_map]
 |succ m ih=>
  intro i hi
  have h:(i:Int) < (all.length:Int):=by omega
  cases b with
  |false=>
   rw [qq]
   simp only [go_sem,qa,qb,qc,qd,qe,qf,reduceCtorEq,Yz,h,List.length_map]
  |true=>
  obtain ⟨t,hx⟩:=z6 (l:=all) (i:=i) (by omega)
  have g:=yy (f:=S) hx
  have ix:=ky (k:=(100000,0)) (e:=1) (xs:=all.map S) (i:=i) (len:=all.length) (by omega) (by simp)
  have e1:w64 ((i:Int)+1)=((i+1:Nat):Int):=by rw [qo]<;>omega
  have f:=fun τ τ'=>crB (qdn fs τ τ' hfs t)
  have tf:=List.take_of_length_le (l:=fs.map oFl) (i:=fs.length) (by simp)
  have ta:=List.take_of_length_le (l:=ord.map S) (i:=ord.length) (by simp)
  have ht2:=fun τ=>crB (qca τ ord t ho)
  rw [← ih (i+1) (by omega),qq]
  cases hh:yz fs t with
  |false=>
   rw [hh]at f
   simp only [go_sem,qa,qb,qc,qd,qe,qf,reduceCtorEq,Yz,h,g,ix,e1,f,tf,List.length_map]
  |true=>
   have hm:=hr rfl t (List.mem_of_getElem? hx) hh
   rw [decide_eq_true hm]at ht2
   rw [hh]at f
   simp only [go_sem,qa,qb,qc,qd,qe,qf,reduceCtorEq,Yz,h,g,ix,e1,f,tf,ta,ht2,List.length_map]
end
end Go.Vm
namespace Go.Vm
end Go.Vm
namespace Go.Vm
theorem qmg(bs:List UInt8):cr qh qbf [.i false (bs.map qP)]=some (B (decide ((1048576:Int) < bs.length))):=by
 rw [qF qn4 rfl]
 simp only [go_sem,qa,qb,qc,qd,qe,qf,reduceCtorEq,Ya,List.length_map]
section
variable {P:Program}
def cU(c:UInt8) (xs:List V):Prop:=xs=[qP c]
def RU(c:UInt8) (v:V):Prop:=v=qP c
theorem qo2 {t:TypeId} (hu:P.underlying t=some (.int .u8)):RdC P t cU (fun _=>True):=fun n xs h hb=>by
 cases n with
 |zero=>simp [Shp]at h
 |succ n=>
  simp only [Shp,hu]at h
  obtain ⟨m,rfl,hw⟩:=h
  simp only [Lit.wf,IntKind.min,IntKind.max,IntKind.signed,IntKind.bits,Bool.and_eq_true,decide_eq_true_eq]at hw
  simp at hw
  refine ⟨by simp [zd,xn],UInt8.ofNat m.toNat, ?_,trivial⟩
  unfold cU qP
  have:((UInt8.ofNat m.toNat).toNat:Int)=m:=by
   rw [UInt8.toNat_ofNat']
   omega
  rw [this]
theorem qqA {te:TypeId} (hu:P.underlying te=some (.int .u8)): ∀ (x:UInt8) (zs:List V),cU x zs→RU x (yS P te zs)∧(yl P te=false→ ∃ z,zs=[z]):=fun x zs h=>by
 unfold cU at h;subst h
 rw [qqB hu]
 exact ⟨rfl,fun _=>⟨_,rfl⟩⟩
theorem qi9 {l:List UInt8} {vs:List V} (h:RL RU l vs):vs=l.map qP:=qdO (fun _ _ h=>h) h
end
end Go.Vm
namespace Go.Vm
theorem qjR {p:Nat→Option AE} {f:Nat} {xs:List V} (h:cr p f xs=some (B true)): ∃ outs,cw p f xs=some (B true,outs):=by
 unfold cr at h
 obtain ⟨⟨a,b⟩,hx,hy⟩:=Option.map_eq_some_iff.1 h
 simp only at hy
 subst hy
 exact ⟨_,hx⟩
theorem qfH(fs:List Fl) (s:Str):(y8 (xR fs s)).length≤2^40:=by
 rw [← qfL]
 have:=J7 fs s
 omega
theorem qns(fs:List Fl) (hfs:fs.length≤Lm) (nm:Str) (hc:kr fs nm=false):(yu fs nm).length≤60000000000:=
 qbv (QV fs nm hfs) (qcG (js fs nm) (qS fs [nm]).length nm [] (qbx fs hfs nm hc) (by simp [yf]) ⟨List.nodup_nil,by simp⟩ (has:=yz fs)).1
theorem qos:xd Yt=qh Yt:=by unfold xd;rw [if_neg (by decide)]
theorem qmd(bs:List UInt8) (hw:bs.length≤Lm): ∃ outs,cw xd Yt [.i false (bs.map qP)]=some (B true,outs):=by
 have hl:bs.length≤2^40:=by unfold Lm at hw;omega
 have bg:=crB (qmg bs)
 obtain ⟨fs,nm,dr0,w1,w2,w3⟩:=qi0 bs hl
 have dr:=crB dr0
 have hfs:fs.length≤Lm:=by unfold Lm;omega
 have lo:=fun τ τ'=>qi8 τ τ' fs hfs nm
 have fr:=fun τ τ'=>crB (qfw τ τ' fs hfs nm)
 have cy:=fun τ τ'=>crB (qcc τ τ' fs hfs nm)
 rw [show ((qS fs [nm]).any fun f=>decide (f ∈ qS fs (qE fs f)))=kr fs nm from rfl]at cy
 have hp:xd Yt=some (.fn jL):=qos.trans qn3
 have hrl:=qhR fs hfs nm
 obtain ⟨rest,hd⟩:=qo3 fs nm
 have hra:=qo5 fs hfs nm
 have hor:=qnt fs hfs nm
 have tf:=List.take_of_length_le (l:=fs.map oFl) (i:=fs.length) (by simp)
 have bf:((false != false)=true)=False:=by simp
 have b0:eqV 0 (B false) (B true)=some false:=rfl
 have b1:eqV 0 (B true) (B false)=some false:=rfl
 apply qjR
 rw [qF hp rfl]
 cases hb:decide ((1048576:Int) < bs.length)with
 |true=>
  rw [hb]at bg
  simp only [go_sem,qa,qb,qc,qd,qe,qf,reduceCtorEq,jL,bg]
 |false=>
 rw [hb]at bg
 unfold loV at lo
 generalize hall:qS fs [nm]=all at*
 have g0:(all.map S)[0]? =some (S nm):=by rw [hd];rfl
 have hpos:(0:Int) < (all.length:Int):=by rw [hd];simp only [List.length_cons];omega
 have ix:=ky (k:=(100000,0)) (e:=1) (xs:=all.map S) (i:=0) (len:=all.length) (by omega) (by simp)
 have ix1:=ky (k:=(100000,1)) (e:=1) (xs:=all.map S) (i:=0) (len:=all.length) (by omega) (by simp)
 have ix2:=ky (k:=(100000,2)) (e:=1) (xs:=all.map S) (i:=0) (len:=all.length) (by omega) (by simp)
 simp only [Int.natCast_zero]at ix ix1 ix2
 have dn:decide (nm=nm)=true:=decide_eq_true rfl
 have ta:=List.take_of_length_le (l:=all.map S) (i:=all.length) (by simp)
 cases hc:kr fs nm with
 |true=>
  rw [hc]at cy
  simp only [hc,if_true]at lo
  have lp:=qg6 fs nm [] all hfs (by decide) (by omega) false (qfH fs) (fun i x h=>by simp at h) (fun x h=>by cases h) 0 0 (by simp)
  have lq:=qd6 fs nm [] all hfs (by decide) (by omega) false (fun h=>by cases h) all.length 0 (by omega)
  simp only [Int.natCast_zero,List.map_nil,List.length_nil]at lp lq
  simp only [go_sem,qa,qb,qc,qd,qe,qf,reduceCtorEq,jL,qa3,qa4,qa5,bg,dr,lo,fr,cy,tf,b0,b1,bf,lp,lq,g0,hpos,ix,ix1,ix2,dn,ta,List.length_map]
 |false=>
  rw [hc]at cy
  simp only [hc,Bool.false_eq_true,if_false]at lo
  have ol:=qns fs hfs nm hc
  obtain ⟨tp,_⟩:=qg5 fs hfs nm hc
  have lp:=qg6 fs nm (yu fs nm) all hfs (by omega) (by omega) true (qfH fs) tp hor (yu fs nm).length 0 (by omega)
  have lq:=qd6 fs nm (yu fs nm) all hfs (by omega) (by omega) true (fun _=>hra hc) all.length 0 (by omega)
  have to:=List.take_of_length_le (l:=(yu fs nm).map S) (i:=(yu fs nm).length) (by simp)
  simp only [Int.natCast_zero]at lp lq
  simp only [go_sem,qa,qb,qc,qd,qe,qf,reduceCtorEq,jL,qa3,qa4,qa5,bg,dr,lo,fr,cy,tf,b0,b1,bf,lp,lq,g0,hpos,ix,ix1,ix2,dn,ta,to,List.length_map]
theorem qmc(x:List UInt8) (hw:wL (fun _=>True) x) (τ:Bool) (vs:List V) (hv:RL RU x vs): ∃ outs,cw xd Yt [.i false vs]=some (B true,outs):=by
 rw [qi9 hv]
 exact qmd x hw.1
end Go.Vm
namespace Go.Vm
section
variable {P:Program}
end
end Go.Vm
namespace Go.Proofs.Ytnicgnmcacbplaa
open Go.Vm Go.RowKit Go.ChangeShapes
theorem Try.own:ownKnob Try.prog.godebug=none:=by kernel_rfl
theorem qjh:laidOutB Try.prog=true:=by kernel_rfl
def St:List TypeId:=[5,22]
theorem qjf: ∀ t ∈ St,ZH Try.prog St t=true:=by
 have h:St.all (ZH Try.prog St)=true:=by kernel_rfl
 exact fun t ht=>List.all_eq_true.1 h t ht
mutual
theorem qes {H:Type}: ∀ (d:DataW H),z4 d≤Rows.uptoBulk d
 | .lit (.string b)=>by simp [z4,Rows.uptoBulk]
 | .lit (.bool b)=>by simp [z4,Rows.uptoBulk]
 | .lit (.int k b)=>by simp [z4,Rows.uptoBulk]
 | .lit (.float k b)=>by simp [z4,Rows.uptoBulk]
 | .lit .nil=>by simp [z4,Rows.uptoBulk]
 | .nil=>by simp [z4,Rows.uptoBulk]
 | .ptr d=>by simp only [z4,Rows.uptoBulk];have:=qes d;omega
 | .slice es sp=>by simp only [z4,Rows.uptoBulk];have:=KI es;have:=KI sp;omega
 | .agg ps=>by simp only [z4,Rows.uptoBulk];have:=KI ps;omega
 | .iface t d=>by simp only [z4,Rows.uptoBulk];omega
 | .map es=>by simp only [z4,Rows.uptoBulk];omega
 | .held h=>by simp [z4,Rows.uptoBulk]
theorem KI {H:Type}: ∀ (ds:List (DataW H)),xZ ds≤Rows.uptoBulkAll ds
 |[]=>by simp [xZ,Rows.uptoBulkAll]
 |d::ds=>by simp only [xZ,Rows.uptoBulkAll];have:=qes d;have:=KI ds;omega
end
theorem qp4 {H:Type} {ds:List (DataW H)} (h:Rows.uptoSmall H ds=true):xZ ds≤1048576:=Nat.le_trans (KI ds) (of_decide_eq_true h)
end Go.Proofs.Ytnicgnmcacbplaa
