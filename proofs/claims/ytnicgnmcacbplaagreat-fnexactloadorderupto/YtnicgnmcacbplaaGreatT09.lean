import Derived.Test.YtnicgnmcacbplaaGreatT03
import Derived.Test.YtnicgnmcacbplaaGreatT08
import Derived.Test.YtnicgnmcacbplaaGreatT05
import Derived.Test.YtnicgnmcacbplaaGreatT07
import Derived.KernelRfl
import Derived.Test.YtnicgnmcacbplaaGreatRows
import Derived.JoinedCond
open Nat renaming reduceAdd → qa, reduceSub → qb, reduceMul → qc, reduceEqDiff → qd, reduceLeDiff → qe, reduceBEq → qf
set_option autoImplicit false
set_option linter.unusedVariables false
set_option linter.unusedSimpArgs false
set_option linter.unusedSectionVars false
namespace Go.Vm
section
variable [Lay] {P:Program} {N n:Nat} {prog:Nat→Option AE}
theorem y7(hK:QG P prog) {code:Code} {h ac:AC} {st st':St} {x:AX} (ht:trC P N n code h=some ac) (hx:xw prog ac st=some (x,st')) {a:Act} {E:Env} {c:Cnt} (hf:FRel N E st a.tmps c):
 code.wp P (ju n N E c st' a x) a E.w:=by
 obtain ⟨k,hk⟩:=zr.1 hx
 exact (qef (Yu hK k) k).1 code h ac st st' x ht hk a E c hf
theorem qqN {E:Env} {st st':St} {tmps:Array Value} {c:Cnt} {ls:List Nat} {ks:List Key} (hx:xw prog (.nam ls ks .skip) st=some (.normal,st')) (hf:FRel N E st tmps c):
 ∃ E' c',E'.w=E.w∧E'.I=E.I∧(∀ k:Key,k.1 < CN→E'.μ k=E.μ k)∧FRel N E' st' tmps c'∧cle c' c:=by
 rw [qlU,qlV]at hx
 simp only [Option.some.injEq,Prod.mk.injEq,true_and]at hx
 subst hx
 exact qfu ls ks hf
theorem qhN {g:Nat} {fn:Func} {code:Code} (hg:P.funcs[g]? =some fn) (hb:fn.body=some code) (hname:fn.name ≠ "runtime.NumGoroutine") (args:Array Value) (w:World):
 (callFunc g args).run P w= .ok (.enter g args) w:=by
 simp [callFunc,hg,hname,hb]
theorem qhe {o:Oper} {cl:Go.Call} {f:Operand} {g:Nat} {cs:Array Value} {a:Act} {w:World} {fn:Func} {code:Code} (ho:o.op= .call cl) (hfn:cl.callee= .value f) (hv:a.eval f= .func (.func g) #[] cs)
 (hg:P.funcs[g]? =some fn) (hb:fn.body=some code) (hname:fn.name ≠ "runtime.NumGoroutine") {K:Act→World→Prop} {Q:Exit→Act→World→Prop}
 (hC:Calls P g (cl.args.map a.eval++cs) w fun e w''=> ∃ y,e= .returned y∧K (a.put o.dst y) w''):o.wp P a w K Q:=by
 have hrun:(execOp a.eval o).run P w= .ok (.enter g (cl.args.map a.eval++cs)) w:=by
  rw [← qhN hg hb hname]
  rw [execOp];simp only [ho,resolve,hfn,hv,Deferred.ofValue,invoke,Sem.run_bind,Sem.run_pure,Result.andThen_ok]
  congr 2
  simp
 unfold Oper.wp
 rw [hrun,Oper.upon_enter]
 refine hC.mono ?_
 rintro e w'' ⟨y,rfl,h⟩
 exact h
def loT(l:List Str) (τ:Bool) (fs:List V) (g:Nat):Mem:=[((1,0),1,[.s (100000,0) 0 l.length]),((2,0),1,[.i τ fs]),((3,0),1,[.f (.func g) [] [.p (1,0) 0 0,.p (2,0) 0 0,.p (3,0) 0 0]]),((100000,0),1,l.map S)]
def loA(nm:Str):List V:=[S nm,.p (1,0) 0 0,.p (2,0) 0 0,.p (3,0) 0 0]
def qdA(P:Program) (g:Nat) (nm:Str) (l l':List Str) (τ:Bool) (fs:List V):Prop:=
 ∀ (E:Env) (vs:List Value) (c:Cnt),qk E (loA nm) vs c0→qo E (loT l τ fs g) c→Good E c→
  Calls P g vs.toArray E.w fun e w''=> ∃ y,e= .returned y∧ ∃ E' c',E'.w=w''∧KN 4 E E'∧qo E' (loT l' τ fs g) c'∧Good E' c'∧Adv E c E' c'
theorem qlR {o:Oper} (h:o.guard=none) (y:Nat→Option Bool):Region.wanted o y=true:=by
 unfold Region.wanted;rw [h]
def qcE:V→Bool
 | .v _| .i .. =>true
 | .p k _ _=>decide (k.1 < 4)
 |_=>false
theorem qqu {E E':Env} {c c':Cnt} (hg:Good E c) (hA:Adv E c E' c') (hk:KN 4 E E') {x:V} {y:Value} (hx:qcE x=true) (h:Rel E x y c0):Rel E' x y c0:=by
 have hA2:Adv E c {E' with μ:=E.μ} c':=⟨hA.sizes,hA.os,hA.tape,hA.output,hA.size,hA.frame,hA.sub,hA.own,hA.imm⟩
 have hM:Mono E {E' with μ:=E.μ} c0:=qaN (ci:=c) (cr:=c0) (by rw [Zz];exact hg) hA2 (fun k l h=>h)
 have h2:=yF h hM
 cases x with
 |v x=>simpa only [Rel]using h2
 |i τ xs=>simpa only [Rel,Env.cl]using h2
 |p k idx off=>
  simp only [qcE,decide_eq_true_eq]at hx
  simp only [Rel]at h2 ⊢
  rw [hk k hx]
  exact h2
 |_=>simp [qcE]at hx
theorem qqv {E E':Env} {c c':Cnt} (hg:Good E c) (hA:Adv E c E' c') (hk:KN 4 E E') {σ σ':Sl} {tmps tmps':Array Value} (hσ:zz E σ tmps)
 (hsub: ∀ t x,qC σ' t=some x→qC σ t=some x∧qcE x=true∧tmps'[t]? =tmps[t]?):zz E' σ' tmps':=by
 intro t x hx
 obtain ⟨h1,h2,h3⟩:=hsub t x hx
 obtain ⟨y,h4,h5⟩:=hσ t x h1
 exact ⟨y,by rw [h3];exact h4,qqu hg hA hk h2 h5⟩
end
end Go.Vm
set_option maxHeartbeats 16000000
set_option maxRecDepth 100000
namespace Go.Vm
open Go.Proofs
def sq1:Code→Code| .seq x _=>x|_=> .skip
def sq2:Code→Code| .seq _ x=>x|_=> .skip
def bkb:Code→Code| .block _ x=>x|_=> .skip
def lpb:Code→Code| .loop x=>x|_=> .skip
def rgO:Code→Array Oper| .region _ ops _=>ops|_=> #[]
def Kj:Option Oper→Oper|some o=>o|none=>default
def clO:Oper→Go.Call|o=>match o.op with| .call c=>c|_=>default
noncomputable def loB:Code:=match Tryz.f18.body with|some c=>c|none=> .skip
noncomputable def qiX:Code:=sq1 loB
noncomputable def qiT:Code:=sq1 (sq1 (sq2 loB))
noncomputable def YH:Code:=lpb (bkb (sq2 (sq1 (sq2 loB))))
noncomputable def qiY:Code:=sq2 (sq2 loB)
noncomputable def qiU:Code:=sq1 YH
noncomputable def qiV:Code:=sq1 (bkb (sq1 (sq2 (sq2 YH))))
noncomputable def qcz:Code:=sq2 (bkb (sq1 (sq2 (sq2 YH))))
noncomputable def qiW:Code:=sq2 (sq2 (sq2 YH))
theorem qe4:Tryz.f18.body=some (.seq qiX (.seq (.seq qiT (.block 0 (.loop YH))) qiY)):=by kernel_rfl
theorem qiS:YH= .seq qiU (.seq (.cond (.tmp 17) .skip (.exit 0)) (.seq (.block 1 (.seq qiV qcz)) qiW)):=by kernel_rfl
noncomputable def jJ:Array Oper:=rgO qcz
noncomputable def Kg:Oper:=Kj jJ[0]?
noncomputable def Kh:Oper:=Kj jJ[1]?
noncomputable def QP:Oper:=Kj jJ[2]?
theorem qqb:qcz= .region 4 jJ false:=by kernel_rfl
theorem qqm:jJ.size=3:=by kernel_rfl
theorem qqj:jJ[0]? =some Kg:=by kernel_rfl
theorem qqk:jJ[1]? =some Kh:=by kernel_rfl
theorem qql:jJ[2]? =some QP:=by kernel_rfl
theorem qqi:QP.op= .call (clO QP):=by kernel_rfl
theorem qqg:(clO QP).callee= .value (.tmp 20):=by kernel_rfl
theorem qqf:(clO QP).args= #[.tmp 21]:=by kernel_rfl
theorem qqh:QP.guard=none:=by kernel_rfl
theorem qi0:QP.dst=some 22:=by kernel_rfl
theorem qiZ:Tryz.f18.name ≠ "runtime.NumGoroutine" :=by decide
theorem qqn:Tryz.f18.results= #[]:=by kernel_rfl
theorem qqe:Tryz.f18.ntmps=35:=by kernel_rfl
def Ke:AC:= .seq (.reg [.ld 9 false 1 (.t 1),.mv 10 (.t 0),.call (some 11) (.c (Fc XF)) [.t 9,.t 10] (.ro true)]) (.cond (.t 11) (.keep [] .ret) (.nam [0,1,2,3] [(4,0)] .skip))
def qcA:AC:= .reg [.ld 12 false 1 (.t 2),.mv 13 (.t 0),.call (some 14) (.c (Fc Zf)) [.t 12,.t 13] (.ro true),.len 15 (.t 14),.mv 16 (.c (I 0))]
def qcB:AC:= .reg [.bin 17 .lss (.t 16) (.t 15)]
def qcC:AC:= .reg [.ia 18 1 (.t 14) (.t 16),.ld 19 false 1 (.t 18),.mv 6 (.t 19)]
def qcD:AC:= .reg [.bin 23 .add (.t 16) (.c (I 1)),.mv 16 (.t 23)]
def Kf:AC:= .seq (.reg [.ld 25 false 1 (.t 2),.mv 26 (.t 0),.call (some 27) (.c (Fc QD)) [.t 25,.t 26] (.ro true),.mv 24 (.t 27),.ext 28 (.t 24) 0,.ext 29 (.t 24) 1,.mv 7 (.t 28),.mv 8 (.t 29)])
 (.seq (.reg [.mv 30 (.t 8)]) (.cond (.t 30) (.keep [0,1,2,3] (.reg [.ld 31 false 1 (.t 1),.mv 32 (.t 0),.mks 33 1 [.t 32],.app 34 1 16 (.t 31) (.t 33),.st 1 (.t 1) (.t 34)])) (.keep [] .skip)))
theorem qi4:trC Tryz.prog 35 4 qiX Ke=some Ke:=by kernel_rfl
theorem qqq:trC Tryz.prog 35 4 qiT qcA=some qcA:=by kernel_rfl
theorem qi3:trC Tryz.prog 35 4 qiU qcB=some qcB:=by kernel_rfl
theorem qqr:trC Tryz.prog 35 4 qiV qcC=some qcC:=by kernel_rfl
theorem qqs:trC Tryz.prog 35 4 qiW qcD=some qcD:=by kernel_rfl
theorem qi5:trC Tryz.prog 35 4 qiY Kf=some Kf:=by kernel_rfl
theorem qqo:trI Tryz.prog 35 4 jJ Kg (.ld 20 false 1 (.t 3))=some (.ld 20 false 1 (.t 3)):=by kernel_rfl
theorem qqp:trI Tryz.prog 35 4 jJ Kh (.mv 21 (.t 6))=some (.mv 21 (.t 6)):=by kernel_rfl
section
variable (inc:Str→List Str) (has:Str→Bool) (tx:Str→Str) (τ:Bool) (fs:List V)
def zx:Nat→Str→List Str→List Str
 |0,_,out=>out
 |n+1,nm,out=>if nm ∈ out then out else
  if has nm=true then (inc nm).foldl (fun o x=>zx n x o) out++[nm]else (inc nm).foldl (fun o x=>zx n x o) out
theorem qu2(nm:Str) (l:List Str) (hl:l.length≤2^40) (h:nm ∈ l): ∃ T',xw qg Ke ⟨[(0,S nm),(1,.p (1,0) 0 0),(2,.p (2,0) 0 0),(3,.p (3,0) 0 0)],loT l τ fs 18⟩=some (.ret,⟨[],T'⟩)∧T'=loT l τ fs 18:=by
 have c:=Jg true l nm hl
 rw [decide_eq_true h]at c
 have tk:(l.map S).take l.length=l.map S:=List.take_of_length_le (by simp)
 refine ⟨_, ?_,rfl⟩
 simp only [go_sem,qa,qb,qc,qd,qe,qf,reduceCtorEq,Ke,loT,c,tk,List.length_map]
theorem qu3(nm:Str) (l:List Str) (hl:l.length≤2^40) (h: ¬ nm ∈ l):xw qg Ke ⟨[(0,S nm),(1,.p (1,0) 0 0),(2,.p (2,0) 0 0),(3,.p (3,0) 0 0)],loT l τ fs 18⟩=some (.normal,⟨[(0,S nm),(1,.p (1,0) 0 0),(2,.p (2,0) 0 0),(3,.p (3,0) 0 0)],loT l τ fs 18⟩):=by
 have c:=Jg true l nm hl
 rw [decide_eq_false h]at c
 have tk:(l.map S).take l.length=l.map S:=List.take_of_length_le (by simp)
 simp only [go_sem,qa,qb,qc,qd,qe,qf,reduceCtorEq,Ke,loT,c,tk,List.length_map]
theorem qu7(hInc: ∀ s,cr qg Zf [.i τ fs,S s]=some (.o 1 ((inc s).map S))) (nm:Str) (l:List Str):xw qg qcA ⟨[(0,S nm),(1,.p (1,0) 0 0),(2,.p (2,0) 0 0),(3,.p (3,0) 0 0)],loT l τ fs 18⟩=some (.normal,⟨[(16,I 0),(15,I (inc nm).length),(14,.i false ((inc nm).map S)),(13,S nm),(12,.i τ fs),(0,S nm),(1,.p (1,0) 0 0),(2,.p (2,0) 0 0),(3,.p (3,0) 0 0)],loT l τ fs 18⟩):=by
 have c:=hInc nm
 simp only [go_sem,qa,qb,qc,qd,qe,qf,reduceCtorEq,qcA,loT,c,List.length_map]
theorem qlT(nm:Str) (ns l:List Str) (i:Nat) (b:Bool) (hb:decide ((i:Int) < (ns.length:Int))=b):xw qg qcB ⟨[(0,S nm),(1,.p (1,0) 0 0),(2,.p (2,0) 0 0),(3,.p (3,0) 0 0),(14,.i false ((ns).map S)),(15,I (ns).length),(16,I (i:Int))],loT l τ fs 18⟩=some (.normal,⟨(17,B b)::[(0,S nm),(1,.p (1,0) 0 0),(2,.p (2,0) 0 0),(3,.p (3,0) 0 0),(14,.i false ((ns).map S)),(15,I (ns).length),(16,I (i:Int))],loT l τ fs 18⟩):=by
 simp only [go_sem,qa,qb,qc,qd,qe,qf,reduceCtorEq,qcB,loT,hb,List.length_map]
def Kc:AC:= .cond (.t 17) .skip (.exit 0)
theorem qi2:trC Tryz.prog 35 4 (.cond (.tmp 17) .skip (.exit 0)) Kc=some Kc:=by kernel_rfl
theorem qu5(nm:Str) (ns l:List Str) (i:Nat):xw qg Kc ⟨(17,B true)::[(0,S nm),(1,.p (1,0) 0 0),(2,.p (2,0) 0 0),(3,.p (3,0) 0 0),(14,.i false ((ns).map S)),(15,I (ns).length),(16,I (i:Int))],loT l τ fs 18⟩=some (.normal,⟨(17,B true)::[(0,S nm),(1,.p (1,0) 0 0),(2,.p (2,0) 0 0),(3,.p (3,0) 0 0),(14,.i false ((ns).map S)),(15,I (ns).length),(16,I (i:Int))],loT l τ fs 18⟩):=by
 simp only [go_sem,qa,qb,qc,qd,qe,qf,reduceCtorEq,Kc,loT]
theorem qu4(nm:Str) (ns l:List Str) (i:Nat):xw qg Kc ⟨(17,B false)::[(0,S nm),(1,.p (1,0) 0 0),(2,.p (2,0) 0 0),(3,.p (3,0) 0 0),(14,.i false ((ns).map S)),(15,I (ns).length),(16,I (i:Int))],loT l τ fs 18⟩=some (.exit 0,⟨(17,B false)::[(0,S nm),(1,.p (1,0) 0 0),(2,.p (2,0) 0 0),(3,.p (3,0) 0 0),(14,.i false ((ns).map S)),(15,I (ns).length),(16,I (i:Int))],loT l τ fs 18⟩):=by
 simp only [go_sem,qa,qb,qc,qd,qe,qf,reduceCtorEq,Kc,loT]
theorem qu8(nm x:Str) (ns l:List Str) (i:Nat) (hx:ns[i]? =some x):xw qg qcC ⟨(17,B true)::[(0,S nm),(1,.p (1,0) 0 0),(2,.p (2,0) 0 0),(3,.p (3,0) 0 0),(14,.i false ((ns).map S)),(15,I (ns).length),(16,I (i:Int))],loT l τ fs 18⟩=some (.normal,⟨(6,S x)::(19,S x)::(18,.q false (ns.map S) i 0)::(17,B true)::[(0,S nm),(1,.p (1,0) 0 0),(2,.p (2,0) 0 0),(3,.p (3,0) 0 0),(14,.i false ((ns).map S)),(15,I (ns).length),(16,I (i:Int))],loT l τ fs 18⟩):=by
 have g:=q7 (f:=S) hx
 have a1:=fun T=>q8 (τ:=false) (T:=T) (e:=1) g rfl
 simp only [go_sem,qa,qb,qc,qd,qe,qf,reduceCtorEq,qcC,loT,g,a1,List.length_map]
theorem qu9(nm:Str) (ns l:List Str) (i:Nat) (hi:i≤2^40):xw qg qcD ⟨[(0,S nm),(1,.p (1,0) 0 0),(2,.p (2,0) 0 0),(3,.p (3,0) 0 0),(14,.i false ((ns).map S)),(15,I (ns).length),(16,I (i:Int))],loT l τ fs 18⟩=some (.normal,⟨(16,I ((i+1:Nat):Int))::(23,I ((i+1:Nat):Int))::[(0,S nm),(1,.p (1,0) 0 0),(2,.p (2,0) 0 0),(3,.p (3,0) 0 0),(14,.i false ((ns).map S)),(15,I (ns).length),(16,I (i:Int))],loT l τ fs 18⟩):=by
 have e1:w64 ((i:Int)+1)=((i+1:Nat):Int):=by rw [qj]<;>omega
 simp only [go_sem,qa,qb,qc,qd,qe,qf,reduceCtorEq,qcD,loT,e1]
theorem qva(hFile: ∀ s,cr qg QD [.i τ fs,S s]=some (.t [S (tx s),B (has s)])) (nm:Str) (l:List Str) (h:has nm=false):xw qg Kf ⟨[(0,S nm),(1,.p (1,0) 0 0),(2,.p (2,0) 0 0),(3,.p (3,0) 0 0)],loT l τ fs 18⟩=some (.normal,⟨[],loT l τ fs 18⟩):=by
 have c:=hFile nm
 rw [h]at c
 simp only [go_sem,qa,qb,qc,qd,qe,qf,reduceCtorEq,Kf,loT,c]
theorem qvb(hFile: ∀ s,cr qg QD [.i τ fs,S s]=some (.t [S (tx s),B (has s)])) (nm:Str) (l:List Str) (hl:l.length≤60000000000) (h:has nm=true):xw qg Kf ⟨[(0,S nm),(1,.p (1,0) 0 0),(2,.p (2,0) 0 0),(3,.p (3,0) 0 0)],loT l τ fs 18⟩=some (.normal,⟨[(34,.s (34,0) 0 (l.length+1)),(33,.s (33,0) 0 1),(32,S nm),(31,.s (100000,0) 0 l.length),(0,S nm),(1,.p (1,0) 0 0),(2,.p (2,0) 0 0),(3,.p (3,0) 0 0)],[((1,0),1,[.s (34,0) 0 (l.length+1)]),((34,0),1,(l++[nm]).map S),((33,0),1,[S nm]),((2,0),1,[.i τ fs]),((3,0),1,[.f (.func 18) [] [.p (1,0) 0 0,.p (2,0) 0 0,.p (3,0) 0 0]])]⟩):=by
 have c:=hFile nm
 rw [h]at c
 have l1:decide ((l.length+1)*16≤lim)=true:=decide_eq_true (by rw [qW];omega)
 have l2:decide (l.length+1≤lim)=true:=decide_eq_true (by rw [qW];omega)
 have tk:(l.map S).take l.length=l.map S:=List.take_of_length_le (by simp)
 simp only [go_sem,qa,qb,qc,qd,qe,qf,reduceCtorEq,Kf,loT,c,l1,l2,tk,List.length_map]
theorem qu6(nm:Str) (l:List Str):xw qg (.nam [0,1,2,3] [(4,0)] .skip) ⟨[(34,.s (34,0) 0 (l.length+1)),(33,.s (33,0) 0 1),(32,S nm),(31,.s (100000,0) 0 l.length),(0,S nm),(1,.p (1,0) 0 0),(2,.p (2,0) 0 0),(3,.p (3,0) 0 0)],[((1,0),1,[.s (34,0) 0 (l.length+1)]),((34,0),1,(l++[nm]).map S),((33,0),1,[S nm]),((2,0),1,[.i τ fs]),((3,0),1,[.f (.func 18) [] [.p (1,0) 0 0,.p (2,0) 0 0,.p (3,0) 0 0]])]⟩=some (.normal,⟨[(0,S nm),(1,.p (1,0) 0 0),(2,.p (2,0) 0 0),(3,.p (3,0) 0 0)],loT (l++[nm]) τ fs 18⟩):=by
 have ln:(l++[nm]).length=l.length+1:=by simp
 have tk:((l++[nm]).map S).take (l.length+1)=(l++[nm]).map S:=List.take_of_length_le (by simp)
 simp only [go_sem,qa,qb,qc,qd,qe,qf,reduceCtorEq,loT,ln,tk,List.length_map]
end
def Rk(inc:Str→List Str):Nat→Str→Prop
 |0,_=>False
 |n+1,nm=> ∀ x ∈ inc nm,Rk inc n x
inductive Wy (inc:Str→List Str):Str→Str→Prop
 |one {a b:Str} (h:b ∈ inc a):Wy inc a b
 |more {a b c:Str} (h:b ∈ inc a) (k:Wy inc b c):Wy inc a c
theorem ql5 {inc:Str→List Str}: ∀ {a b:Str},Wy inc a b→ ∀ n,Rk inc n a→ ∃ m,m < n∧Rk inc m b:=by
 intro a b h
 induction h with
 |one h=>
  intro n hn
  cases n with
  |zero=>exact hn.elim
  |succ n=>exact ⟨n,Nat.lt_succ_self n,hn _ h⟩
 |more h _ ih=>
  intro n hn
  cases n with
  |zero=>exact hn.elim
  |succ n=>
   obtain ⟨m,h1,h2⟩:=ih n (hn _ h)
   exact ⟨m,by omega,h2⟩
theorem ql3 {inc:Str→List Str} {a:Str} (h:Wy inc a a): ∀ n,¬ Rk inc n a:=by
 intro n
 induction n using Nat.strongRecOn with
 |ind n ih=>
  intro hn
  obtain ⟨m,h1,h2⟩:=ql5 h n hn
  exact ih m h1 h2
def GL(U l:List Str):Prop:=l.Nodup∧ ∀ z ∈ l,z ∈ U
theorem Jz {U l:List Str} (hU:U.length < 60000000000) (h:GL U l):l.length≤60000000000:=by
 have:=QR h.2 h.1;omega
section
variable {inc:Str→List Str} {has:Str→Bool} {U:List Str} (hI: ∀ s,∀ x ∈ inc s,x ∈ U)
theorem qaS(hI: ∀ s,∀ x ∈ inc s,x ∈ U): ∀ (n:Nat) (nm:Str) (l:List Str),Rk inc n nm→nm ∈ U→GL U l→
 GL U (zx inc has n nm l)∧(∀ z ∈ l,z ∈ zx inc has n nm l)∧(∀ z ∈ zx inc has n nm l,z ∈ l∨z=nm∨Wy inc nm z):=by
 intro n
 induction n with
 |zero=>intro nm l h;exact h.elim
 |succ n ih=>
  intro nm l hr hu hg
  have hfold: ∀ (r:List Str) (o:List Str),(∀ x ∈ r,x ∈ inc nm)→GL U o→
   GL U (r.foldl (fun o x=>zx inc has n x o) o)∧(∀ z ∈ o,z ∈ r.foldl (fun o x=>zx inc has n x o) o)∧(∀ z ∈ r.foldl (fun o x=>zx inc has n x o) o,z ∈ o∨Wy inc nm z):=by
   intro r
   induction r with
   |nil=>intro o _ ho;exact ⟨ho,fun z hz=>hz,fun z hz=> .inl hz⟩
   |cons x r ihr=>
    intro o hx ho
    have hxi:=hx x (by simp)
    obtain ⟨g1,g2,g3⟩:=ih x o (hr x hxi) (hI nm x hxi) ho
    obtain ⟨k1,k2,k3⟩:=ihr _ (fun y hy=>hx y (by simp [hy])) g1
    refine ⟨k1,fun z hz=>k2 z (g2 z hz),fun z hz=> ?_⟩
    rcases k3 z hz with h|h
    ·rcases g3 z h with h|rfl|h
     ·exact .inl h
     ·exact .inr (.one hxi)
     ·exact .inr (.more hxi h)
    ·exact .inr h
  simp only [zx]
  split
  ·exact ⟨hg,fun z hz=>hz,fun z hz=> .inl hz⟩
  ·rename_i hnl
   obtain ⟨f1,f2,f3⟩:=hfold (inc nm) l (fun x hx=>hx) hg
   split
   ·have hno:nm ∉ (inc nm).foldl (fun o x=>zx inc has n x o) l:=fun h=>by
     rcases f3 nm h with h|h
     ·exact hnl h
     ·exact ql3 h (n+1) hr
    refine ⟨⟨?_, ?_⟩,fun z hz=>List.mem_append.2 (.inl (f2 z hz)),fun z hz=> ?_⟩
    ·rw [List.nodup_append]
     refine ⟨f1.1,List.nodup_cons.2 ⟨by simp,List.nodup_nil⟩, ?_⟩
     intro a ha b hb hab
     simp only [List.mem_singleton]at hb
     subst hab;subst hb
     exact hno ha
    ·intro z hz
     rcases List.mem_append.1 hz with h|h
     ·exact f1.2 z h
     ·simp only [List.mem_singleton]at h;subst h;exact hu
    ·rcases List.mem_append.1 hz with h|h
     ·rcases f3 z h with h|h
      ·exact .inl h
      ·exact .inr (.inr h)
     ·simp only [List.mem_singleton]at h;exact .inr (.inl h)
   ·exact ⟨f1,f2,fun z hz=>by
     rcases f3 z hz with h|h
     ·exact .inl h
     ·exact .inr (.inr h)⟩
end
section
variable (inc:Str→List Str) (has:Str→Bool) (tx:Str→Str) (τ:Bool) (fs:List V)
theorem qeV [Lay] {N:Nat} {E:Env} {st:St} {tmps:Array Value} {c:Cnt} (ls:List Nat) (h:FRel N E st tmps c):FRel N E ⟨zu st.σ ls,st.T⟩ tmps c:=⟨h.sz,qf3 h.σ ls,h.T,h.g⟩
def qqt(E:Env) (c:Cnt) (a:Act) (nm:Str) (l':List Str):Exit→Act→World→Prop:=
 fun e a' w'=>e= .exit 0∧a'.defers=a.defers∧ ∃ E' c',E'.w=w'∧FRel 35 E' ⟨[(0,S nm),(1,.p (1,0) 0 0),(2,.p (2,0) 0 0),(3,.p (3,0) 0 0)],loT l' τ fs 18⟩ a'.tmps c'∧KN 4 E E'∧Adv E c E' c'
theorem qqc(x:Str) (nm:Str) (ns l l1:List Str) (i:Nat) (hE:qdA Tryz.prog 18 x l l1 τ fs) (a:Act) (E:Env) (c:Cnt)
 (hf:FRel 35 E ⟨(6,S x)::(19,S x)::(18,.q false (ns.map S) i 0)::(17,B true)::[(0,S nm),(1,.p (1,0) 0 0),(2,.p (2,0) 0 0),(3,.p (3,0) 0 0),(14,.i false ((ns).map S)),(15,I (ns).length),(16,I (i:Int))],loT l τ fs 18⟩ a.tmps c):
 qcz.wp Tryz.prog (fun e a' w'=>e= .normal∧a'.defers=a.defers∧ ∃ E' c',E'.w=w'∧FRel 35 E' ⟨[(0,S nm),(1,.p (1,0) 0 0),(2,.p (2,0) 0 0),(3,.p (3,0) 0 0),(14,.i false ((ns).map S)),(15,I (ns).length),(16,I (i:Int))],loT l1 τ fs 18⟩ a'.tmps c'∧KN 4 E E'∧Adv E c E' c') a E.w:=by
 have hK:=kg
 rw [qqb]
 refine wp_region ?_
 rw [qqm]
 show wpOps Tryz.prog jJ _ [0,1,2] a E.w
 simp only [wpOps,qqj,qqk,qql]
 have s20:qm (qV qg 0) ⟨(6,S x)::(19,S x)::(18,.q false (ns.map S) i 0)::(17,B true)::[(0,S nm),(1,.p (1,0) 0 0),(2,.p (2,0) 0 0),(3,.p (3,0) 0 0),(14,.i false ((ns).map S)),(15,I (ns).length),(16,I (i:Int))],loT l τ fs 18⟩ (.ld 20 false 1 (.t 3))=some ⟨(20,.f (.func 18) [] [.p (1,0) 0 0,.p (2,0) 0 0,.p (3,0) 0 0])::(6,S x)::(19,S x)::(18,.q false (ns.map S) i 0)::(17,B true)::[(0,S nm),(1,.p (1,0) 0 0),(2,.p (2,0) 0 0),(3,.p (3,0) 0 0),(14,.i false ((ns).map S)),(15,I (ns).length),(16,I (i:Int))],loT l τ fs 18⟩:=by
  simp only [go_sem,qa,qb,qc,qd,qe,qf,reduceCtorEq,loT]
 have s21:qm (qV qg 0) ⟨(20,.f (.func 18) [] [.p (1,0) 0 0,.p (2,0) 0 0,.p (3,0) 0 0])::(6,S x)::(19,S x)::(18,.q false (ns.map S) i 0)::(17,B true)::[(0,S nm),(1,.p (1,0) 0 0),(2,.p (2,0) 0 0),(3,.p (3,0) 0 0),(14,.i false ((ns).map S)),(15,I (ns).length),(16,I (i:Int))],loT l τ fs 18⟩ (.mv 21 (.t 6))=some ⟨(21,S x)::(20,.f (.func 18) [] [.p (1,0) 0 0,.p (2,0) 0 0,.p (3,0) 0 0])::(6,S x)::(19,S x)::(18,.q false (ns.map S) i 0)::(17,B true)::[(0,S nm),(1,.p (1,0) 0 0),(2,.p (2,0) 0 0),(3,.p (3,0) 0 0),(14,.i false ((ns).map S)),(15,I (ns).length),(16,I (i:Int))],loT l τ fs 18⟩:=by
  simp only [go_sem,qa,qb,qc,qd,qe,qf,reduceCtorEq,loT]
 refine KL (Yu hK 0) qqo s20 hf ?_
 intro y1 E1 c1 hF1 hk1 hp1 hA1
 refine KL (Yu hK 0) qqp s21 hF1 ?_
 intro y2 E2 c2 hF2 hk2 hp2 hA2
 rw [if_pos (qlR qqh _)]
 left
 have h20:=qJ (a:=(a.put Kg.dst y1).put Kh.dst y2) hF2.σ (show trO (.tmp 20) (.t 20)=some (.t 20)from rfl) (show ev _ (.t 20)=some (.f (.func 18) [] [.p (1,0) 0 0,.p (2,0) 0 0,.p (3,0) 0 0])from rfl)
 have h21:=qJ (a:=(a.put Kg.dst y1).put Kh.dst y2) hF2.σ (show trO (.tmp 21) (.t 21)=some (.t 21)from rfl) (show ev _ (.t 21)=some (S x)from rfl)
 have hd0:((a.put Kg.dst y1).put Kh.dst y2).defers=a.defers:=by rw [ZK,ZK]
 generalize (a.put Kg.dst y1).put Kh.dst y2=a2 at hF2 h20 h21 hd0 ⊢
 simp only [Rel]at h20
 obtain ⟨fs',cs,d1,d2,hv,hr1,hr2,hcc⟩:=h20
 obtain ⟨rfl,rfl⟩:=cz hcc.symm.symm rfl
 simp only [qk]at hr1
 have hfs:fs'= #[]:=Array.toList_eq_nil_iff.1 hr1.1
 subst hfs
 have hargs:(clO QP).args.map a2.eval++cs=(a2.eval (.tmp 21)::cs.toList).toArray:=by
  rw [qqf]
  apply Array.ext'
  simp
 refine qhe qqi qqg hv Tryz.func18 qe4 qiZ ?_
 rw [hargs]
 have hRA:qk E2 (loA x) (a2.eval (.tmp 21)::cs.toList) c0:=by
  unfold loA
  simp only [qk]at hr2 ⊢
  exact ⟨_,_,c0,c0,rfl,h21,hr2,rfl⟩
 refine (hE E2 _ c2 hRA hF2.T hF2.g).mono ?_
 rintro e w'' ⟨y,rfl,E3,c3,rfl,hk3,hT3,hg3,hA3⟩
 refine ⟨y,rfl, ?_⟩
 refine ⟨trivial,by rw [ZK];exact hd0,E3,c3,rfl,⟨?_, ?_,hT3,hg3⟩,(hk1.trans hk2).trans hk3,(hA1.trans hA2).trans hA3⟩
 ·rw [qi0]
  simpa [Act.put]using hF2.sz
 ·refine qqv hF2.g hA3 hk3 hF2.σ ?_
  intro t z hz
  have hne: ∀ u,u ≠ 22→(a2.put QP.dst y).tmps[u]? =a2.tmps[u]? :=by
   intro u hu
   rw [qi0]
   simp only [Act.put]
   exact Array.getElem?_setIfInBounds_ne (Ne.symm hu)
  simp only [qC]at hz
  repeat' (split at hz)
  all_goals first
   |(cases hz;done)
   |(rename_i h;subst h;cases hz;exact ⟨rfl,rfl,hne _ (by decide)⟩)
   |(subst_vars;cases hz;exact ⟨rfl,rfl,hne _ (by decide)⟩)
end
theorem qfW {P:Program} {body:Code} {Q Q':Exit→Act→World→Prop} (hQ: ∀ e a w,Q e a w→Q' e a w): ∀ (m:Nat) (a:Act) (w:World),Code.rounds P body Q m a w→Code.rounds P body Q' m a w
 |0,a,w,h=>h.elim
 |m+1,a,w,h=>by
  rw [rounds_succ]at h ⊢
  refine wp_mono h ?_
  intro e a2 w2 hq
  cases e<;>simp only [Exit.then]at hq ⊢ <;>first|exact qfW hQ m _ _ hq|exact hQ _ _ _ hq
section
variable (inc:Str→List Str) (has:Str→Bool) (tx:Str→Str) (τ:Bool) (fs:List V)
theorem qi1(nm:Str) (ns:List Str) (hns:ns.length≤2^40) (ord:Str→List Str→List Str) (G:List Str→Prop)
 (hE: ∀ x ∈ ns,∀ l,G l→qdA Tryz.prog 18 x l (ord x l) τ fs∧G (ord x l)):
 ∀ (r:List Str) (i:Nat) (l:List Str),ns.drop i=r→i+r.length=ns.length→G l→ ∀ (a:Act) (E:Env) (c:Cnt),FRel 35 E ⟨[(0,S nm),(1,.p (1,0) 0 0),(2,.p (2,0) 0 0),(3,.p (3,0) 0 0),(14,.i false ((ns).map S)),(15,I (ns).length),(16,I (i:Int))],loT l τ fs 18⟩ a.tmps c→
  Code.rounds Tryz.prog YH (qqt τ fs E c a nm (r.foldl (fun o x=>ord x o) l)) (r.length+1) a E.w
 |[],i,l,h,hk,hg,a,E,c,hf=>by
  have hlt:decide ((i:Int) < (ns.length:Int))=false:=decide_eq_false (by simp only [List.length_nil]at hk;omega)
  rw [rounds_succ,qiS]
  refine wp_seq (wp_mono (y7 kg qi3 (qlT τ fs nm ns l i false hlt) hf) ?_)
  rintro e a1 w1 ⟨rfl,hd1,E1,c1,rfl,hF1,hk1,hA1⟩
  simp only [xOf,Exit.then]
  refine wp_seq (wp_mono (y7 kg qi2 (qu4 τ fs nm ns l i) hF1) ?_)
  rintro e a2 w2 ⟨rfl,hd2,E2,c2,rfl,hF2,hk2,hA2⟩
  simp only [xOf,Exit.then]
  exact ⟨rfl,hd2.trans hd1,E2,c2,rfl,qeV [0,1,2,3] hF2,hk1.trans hk2,hA1.trans hA2⟩
 |x::r,i,l,h,hk,hg,a,E,c,hf=>by
  simp only [List.length_cons]at hk
  have hlt:decide ((i:Int) < (ns.length:Int))=true:=decide_eq_true (by omega)
  have hx:ns[i]? =some x:=by
   have:=congrArg (fun z=>z[0]?) h
   simpa using this
  have hd:ns.drop (i+1)=r:=by
   have:=congrArg (fun z=>z.drop 1) h
   simpa [List.drop_drop,Nat.add_comm]using this
  obtain ⟨he,hg'⟩:=hE x (List.mem_of_getElem? hx) l hg
  rw [List.length_cons,rounds_succ,qiS]
  refine wp_seq (wp_mono (y7 kg qi3 (qlT τ fs nm ns l i true hlt) hf) ?_)
  rintro e a1 w1 ⟨rfl,hd1,E1,c1,rfl,hF1,hk1,hA1⟩
  simp only [xOf,Exit.then]
  refine wp_seq (wp_mono (y7 kg qi2 (qu5 τ fs nm ns l i) hF1) ?_)
  rintro e a2 w2 ⟨rfl,hd2,E2,c2,rfl,hF2,hk2,hA2⟩
  simp only [xOf,Exit.then]
  refine wp_seq (wp_block (wp_seq (wp_mono (y7 kg qqr (qu8 τ fs nm x ns l i hx) hF2) ?_)))
  rintro e a3 w3 ⟨rfl,hd3,E3,c3,rfl,hF3,hk3,hA3⟩
  simp only [xOf,Exit.then]
  refine wp_mono (qqc τ fs x nm ns l (ord x l) i he a3 E3 c3 hF3) ?_
  rintro e a4 w4 ⟨rfl,hd4,E4,c4,rfl,hF4,hk4,hA4⟩
  simp only [Exit.inBlock,Exit.then]
  refine wp_mono (y7 kg qqs (qu9 τ fs nm ns (ord x l) i (by omega)) hF4) ?_
  rintro e a5 w5 ⟨rfl,hd5,E5,c5,rfl,hF5,hk5,hA5⟩
  simp only [xOf,Exit.then]
  have ih:=qi1 nm ns hns ord G hE r (i+1) (ord x l) hd (by omega) hg' a5 E5 c5 (qeV [0,1,2,3,14,15,16] hF5)
  refine qfW ?_ _ _ _ ih
  rintro e a6 w6 ⟨h1,h2,E6,c6,h3,h4,h5,h6⟩
  exact ⟨h1,((((h2.trans hd5).trans hd4).trans hd3).trans hd2).trans hd1,E6,c6,h3,h4,((((hk1.trans hk2).trans hk3).trans hk4).trans hk5).trans h5,((((hA1.trans hA2).trans hA3).trans hA4).trans hA5).trans h6⟩
theorem qqd(hInc: ∀ s,cr qg Zf [.i τ fs,S s]=some (.o 1 ((inc s).map S))) (hFile: ∀ s,cr qg QD [.i τ fs,S s]=some (.t [S (tx s),B (has s)]))
 {U:List Str} (hU:U.length < 60000000000) (hI: ∀ s,∀ x ∈ inc s,x ∈ U) (hin: ∀ s,(inc s).length≤2^40): ∀ (n:Nat) (nm:Str),Rk inc n nm→nm ∈ U→ ∀ l,GL U l→qdA Tryz.prog 18 nm l (zx inc has n nm l) τ fs:=by
 intro n
 induction n with
 |zero=>intro nm h;exact h.elim
 |succ n ih=>
  intro nm hr hu l hg E vs c hxs hT hG
  have hl:=Jz hU hg
  have hvl:=yU hxs
  refine calls_of_wp Tryz.func18 qe4 ?_
  have hsz:(vs.toArray++Array.replicate (Tryz.f18.ntmps - vs.toArray.size) undef).size=35:=by
   rw [qqe]
   simp only [Array.size_append,List.size_toArray,Array.size_replicate,hvl,loA,List.length_cons,List.length_nil]
  have hF:FRel 35 E ⟨[(0,S nm),(1,.p (1,0) 0 0),(2,.p (2,0) 0 0),(3,.p (3,0) 0 0)],loT l τ fs 18⟩ (vs.toArray++Array.replicate (Tryz.f18.ntmps - vs.toArray.size) undef) c:=⟨hsz,qf4 (xs:=loA nm) hxs,hT,hG⟩
  have hend: ∀ (e:Exit) (a':Act) (E':Env) (c':Cnt) (l':List Str),(e= .normal∨e= .ret)→a'.defers=[]→KN 4 E E'→Adv E c E' c'→qo E' (loT l' τ fs 18) c'→Good E' c'→l'=zx inc has (n+1) nm l→
   bodyPost Tryz.prog Tryz.f18 (fun e w''=> ∃ y,e= .returned y∧ ∃ E' c',E'.w=w''∧KN 4 E E'∧qo E' (loT (zx inc has (n+1) nm l) τ fs 18) c'∧Good E' c'∧Adv E c E' c') e a' E'.w:=by
   rintro e a' E' c' l' he hdf hk hA hT' hG' rfl
   have hres:(results Tryz.f18 a'.tmps).run Tryz.prog E'.w= .ok (.tuple #[]) E'.w:=by
    unfold results
    rw [qqn,Sem.run_bind]
    refine Eq.trans (congrArg (fun r=>Result.andThen r _) (qf0 (l:= #[]) (vs:=[]) (by simp))) ?_
    rfl
   rcases he with rfl|rfl<;>exact ⟨hdf,_,hres,_,rfl,E',c',rfl,hk,hT',hG',hA⟩
  refine wp_seq ?_
  by_cases hm:nm ∈ l
  ·obtain ⟨T',x1,rfl⟩:=qu2 τ fs nm l (by omega) hm
   refine wp_mono (y7 kg qi4 x1 hF) ?_
   rintro e a1 w1 ⟨rfl,hd1,E1,c1,rfl,hF1,hk1,hA1⟩
   simp only [xOf,Exit.then]
   exact hend .ret a1 E1 c1 l (.inr rfl) hd1 hk1 hA1 hF1.T hF1.g (by simp only [zx];rw [if_pos hm])
  refine wp_mono (y7 kg qi4 (qu3 τ fs nm l (by omega) hm) hF) ?_
  rintro e a1 w1 ⟨rfl,hd1,E1,c1,rfl,hF1,hk1,hA1⟩
  simp only [xOf,Exit.then]
  refine wp_seq (wp_seq (wp_mono (y7 kg qqq (qu7 inc τ fs hInc nm l) hF1) ?_))
  rintro e a2 w2 ⟨rfl,hd2,E2,c2,rfl,hF2,hk2,hA2⟩
  simp only [xOf,Exit.then]
  refine wp_block (wp_loop_rounds ((inc nm).length+1) ?_)
  have rd:=qi1 τ fs nm (inc nm) (hin nm) (zx inc has n) (GL U) (fun x hx l hl=>⟨ih x (hr x hx) (hI nm x hx) l hl,(qaS hI n x l (hr x hx) (hI nm x hx) hl).1⟩) (inc nm) 0 l rfl (by omega) hg a2 E2 c2 (qeV [0,1,2,3,14,15,16] hF2)
  refine qfW ?_ _ _ _ rd
  rintro e a3 w3 ⟨rfl,hd3,E3,c3,rfl,hF3,hk3,hA3⟩
  simp only [Exit.inBlock,Exit.then,if_true]
  have gl:=(qaS hI (n+1) nm l hr hu hg (has:=has)).1
  have ge:zx inc has (n+1) nm l=if has nm=true then (inc nm).foldl (fun o x=>zx inc has n x o) l++[nm]else (inc nm).foldl (fun o x=>zx inc has n x o) l:=by
   simp only [zx];rw [if_neg hm]
  have hk13:KN 4 E E3:=(hk1.trans hk2).trans hk3
  have hA13:=(hA1.trans hA2).trans hA3
  have hd13:a3.defers=[]:=(hd3.trans hd2).trans hd1
  cases hh:has nm with
  |false=>
   rw [hh]at ge
   simp only [Bool.false_eq_true,if_false]at ge
   refine wp_mono (y7 kg qi5 (qva has tx τ fs hFile nm _ hh) hF3) ?_
   rintro e a4 w4 ⟨rfl,hd4,E4,c4,rfl,hF4,hk4,hA4⟩
   exact hend .normal a4 E4 c4 _ (.inl rfl) (hd4.trans hd13) (hk13.trans hk4) (hA13.trans hA4) hF4.T hF4.g ge.symm
  |true=>
   rw [hh]at ge
   simp only [if_true]at ge
   have hlen:((inc nm).foldl (fun o x=>zx inc has n x o) l).length≤60000000000:=by
    have:=Jz hU gl
    rw [ge,List.length_append]at this
    omega
   refine wp_mono (y7 kg qi5 (qvb has tx τ fs hFile nm _ hlen hh) hF3) ?_
   rintro e a4 w4 ⟨rfl,hd4,E4,c4,rfl,hF4,hk4,hA4⟩
   obtain ⟨E5,c5,hw5,hI5,hμ5,hF5,hle5⟩:=qqN (qu6 τ fs nm _) hF4
   have hk5:KN 4 E4 E5:=fun k hk=>hμ5 k (by unfold CN;omega)
   rw [← hw5]
   exact hend .normal a4 E5 c5 _ (.inl rfl) (hd4.trans hd13) ((hk13.trans hk4).trans hk5) ((hA13.trans hA4).trans (jz hw5 hI5 hle5)) hF5.T hF5.g ge.symm
end
end Go.Vm
namespace Go.Vm
open Go.Proofs
noncomputable def YF:Code:=match Tryz.f7.body with|some c=>c|none=> .skip
noncomputable def qiF:Code:=sq1 YF
noncomputable def qiG:Code:=sq1 (sq2 YF)
noncomputable def qiH:Code:=sq1 (sq2 (sq2 YF))
noncomputable def qiI:Code:=sq1 (sq2 (sq2 (sq2 YF)))
noncomputable def qiJ:Code:=sq1 (sq2 (sq2 (sq2 (sq2 YF))))
noncomputable def qe2:Code:=sq1 (sq2 (sq2 (sq2 (sq2 (sq2 YF)))))
noncomputable def qiK:Code:=sq2 (sq2 (sq2 (sq2 (sq2 (sq2 YF)))))
theorem qiL:Tryz.f7.body=some (.seq qiF (.seq qiG (.seq qiH (.seq qiI (.seq qiJ (.seq qe2 qiK)))))):=by kernel_rfl
noncomputable def jI:Array Oper:=rgO qe2
noncomputable def Ka:Oper:=Kj jI[0]?
noncomputable def Kb:Oper:=Kj jI[1]?
noncomputable def Qj:Oper:=Kj jI[2]?
theorem qpQ:qe2= .region 6 jI false:=by kernel_rfl
theorem qpZ:jI.size=3:=by kernel_rfl
theorem qpN:jI[0]? =some Ka:=by kernel_rfl
theorem qpO:jI[1]? =some Kb:=by kernel_rfl
theorem qpP:jI[2]? =some Qj:=by kernel_rfl
theorem qpX:Qj.op= .call (clO Qj):=by kernel_rfl
theorem qpV:(clO Qj).callee= .value (.tmp 12):=by kernel_rfl
theorem qpU:(clO Qj).args= #[.tmp 13]:=by kernel_rfl
theorem qpW:Qj.guard=none:=by kernel_rfl
theorem qiN:Qj.dst=some 14:=by kernel_rfl
theorem qpS:Tryz.f7.name ≠ "runtime.NumGoroutine" :=by decide
theorem qpY:kw Tryz.prog Tryz.f7.results.toList=some [.tmp 4,.tmp 5]:=by kernel_rfl
theorem qpT:Tryz.f7.ntmps=16:=by kernel_rfl
def qcu:AC:= .reg [.new 2 (.t 0),.mv 4 (.c (.n 1)),.mv 5 (.c (B false))]
def X9:AC:= .keep [1,2] (.seq (.reg [.ld 8 false 1 (.t 2),.mv 9 (.t 1),.call (some 10) (.c (Fc qbn)) [.t 8,.t 9] (.ro true)]) (.cond (.t 10) (.seq (.reg [.mv 4 (.c (.n 1)),.mv 5 (.c (B false))]) (.keep [4,5] .ret)) .skip))
def qcv:AC:= .keep [1,2] (.reg [.new 6 (.c (.n 1))])
def qcw:AC:= .keep [1,2,6] (.reg [.new 7 (.c (.v .nilFunc))])
def qcx:AC:= .keep [1,2,6,7] (.reg [.fun 11 (.func qgu) [] [.t 6,.t 2,.t 7],.st 1 (.t 7) (.t 11)])
def qcy:AC:= .seq (.reg [.ld 15 false 1 (.t 6),.mv 4 (.t 15),.mv 5 (.c (B true))]) (.keep [4,5] .ret)
theorem qp0:trC Tryz.prog 16 2 qiF qcu=some qcu:=by kernel_rfl
theorem qiO:trC Tryz.prog 16 2 qiG X9=some X9:=by kernel_rfl
theorem qp3:trC Tryz.prog 16 2 qiH qcv=some qcv:=by kernel_rfl
theorem qp4:trC Tryz.prog 16 2 qiI qcw=some qcw:=by kernel_rfl
theorem qp5:trC Tryz.prog 16 2 qiJ qcx=some qcx:=by kernel_rfl
theorem qp6:trC Tryz.prog 16 2 qiK qcy=some qcy:=by kernel_rfl
theorem qp1:trI Tryz.prog 16 2 jI Ka (.ld 12 false 1 (.t 7))=some (.ld 12 false 1 (.t 7)):=by kernel_rfl
theorem qp2:trI Tryz.prog 16 2 jI Kb (.mv 13 (.t 1))=some (.mv 13 (.t 1)):=by kernel_rfl
section
variable (τ τ':Bool) (fs:List Fl) (nm:Str)
def kW:Bool:=(qH fs [nm]).any fun f=>decide (f ∈ qH fs (qz fs f))
theorem y_0:xw qg qcu ⟨[(0,.i τ (fs.map (iFl τ'))),(1,S nm)],[]⟩=some (.normal,⟨[(5,B false),(4,.n 1),(2,.p (2,0) 0 0),(0,.i τ (fs.map (iFl τ'))),(1,S nm)],[((2,0),1,[.i τ (fs.map (iFl τ'))])]⟩):=by
 simp only [go_sem,qa,qb,qc,qd,qe,qf,reduceCtorEq,qcu]
theorem qvp(hfs:fs.length≤Lm) (h:kW fs nm=true):xw qg X9 ⟨[(5,B false),(4,.n 1),(2,.p (2,0) 0 0),(0,.i τ (fs.map (iFl τ'))),(1,S nm)],[((2,0),1,[.i τ (fs.map (iFl τ'))])]⟩=some (.ret,⟨[(4,.n 1),(5,B false)],[((2,0),1,[.i τ (fs.map (iFl τ'))])]⟩):=by
 have c:=qie τ τ' fs hfs nm
 rw [show ((qH fs [nm]).any fun f=>decide (f ∈ qH fs (qz fs f)))=true from h]at c
 simp only [go_sem,qa,qb,qc,qd,qe,qf,reduceCtorEq,X9,c]
theorem qvq(hfs:fs.length≤Lm) (h:kW fs nm=false):xw qg X9 ⟨[(5,B false),(4,.n 1),(2,.p (2,0) 0 0),(0,.i τ (fs.map (iFl τ'))),(1,S nm)],[((2,0),1,[.i τ (fs.map (iFl τ'))])]⟩=some (.normal,⟨[(10,B false),(9,S nm),(8,.i τ (fs.map (iFl τ'))),(1,S nm),(2,.p (2,0) 0 0)],[((2,0),1,[.i τ (fs.map (iFl τ'))])]⟩):=by
 have c:=qie τ τ' fs hfs nm
 rw [show ((qH fs [nm]).any fun f=>decide (f ∈ qH fs (qz fs f)))=false from h]at c
 simp only [go_sem,qa,qb,qc,qd,qe,qf,reduceCtorEq,X9,c]
theorem y_2:xw qg qcv ⟨[(10,B false),(9,S nm),(8,.i τ (fs.map (iFl τ'))),(1,S nm),(2,.p (2,0) 0 0)],[((2,0),1,[.i τ (fs.map (iFl τ'))])]⟩=some (.normal,⟨[(6,.p (6,0) 0 0),(1,S nm),(2,.p (2,0) 0 0)],[((6,0),1,[.n 1]),((2,0),1,[.i τ (fs.map (iFl τ'))])]⟩):=by
 simp only [go_sem,qa,qb,qc,qd,qe,qf,reduceCtorEq,qcv]
theorem y_3:xw qg qcw ⟨[(6,.p (6,0) 0 0),(1,S nm),(2,.p (2,0) 0 0)],[((6,0),1,[.n 1]),((2,0),1,[.i τ (fs.map (iFl τ'))])]⟩=some (.normal,⟨[(7,.p (7,0) 0 0),(1,S nm),(2,.p (2,0) 0 0),(6,.p (6,0) 0 0)],[((7,0),1,[.v .nilFunc]),((6,0),1,[.n 1]),((2,0),1,[.i τ (fs.map (iFl τ'))])]⟩):=by
 have h1:yC (V.v .nilFunc).cells=true:=rfl
 have h2:(V.v .nilFunc).cells.length=1:=rfl
 simp only [go_sem,qa,qb,qc,qd,qe,qf,reduceCtorEq,qcw,h1,h2]
theorem y_4:xw qg qcx ⟨[(7,.p (7,0) 0 0),(1,S nm),(2,.p (2,0) 0 0),(6,.p (6,0) 0 0)],[((7,0),1,[.v .nilFunc]),((6,0),1,[.n 1]),((2,0),1,[.i τ (fs.map (iFl τ'))])]⟩=some (.normal,⟨[(11,.f (.func 18) [] [.p (6,0) 0 0,.p (2,0) 0 0,.p (7,0) 0 0]),(1,S nm),(2,.p (2,0) 0 0),(6,.p (6,0) 0 0),(7,.p (7,0) 0 0)],[((7,0),1,[.f (.func 18) [] [.p (6,0) 0 0,.p (2,0) 0 0,.p (7,0) 0 0]]),((6,0),1,[.n 1]),((2,0),1,[.i τ (fs.map (iFl τ'))])]⟩):=by
 have h2:(V.v .nilFunc).cells.length=1:=rfl
 simp only [go_sem,qa,qb,qc,qd,qe,qf,reduceCtorEq,qcx,h2]
theorem qvn:qm (qV qg 0) ⟨[(11,.f (.func 18) [] [.p (6,0) 0 0,.p (2,0) 0 0,.p (7,0) 0 0]),(1,S nm),(2,.p (2,0) 0 0),(6,.p (6,0) 0 0),(7,.p (7,0) 0 0)],[((7,0),1,[.f (.func 18) [] [.p (6,0) 0 0,.p (2,0) 0 0,.p (7,0) 0 0]]),((6,0),1,[.n 1]),((2,0),1,[.i τ (fs.map (iFl τ'))])]⟩ (.ld 12 false 1 (.t 7))=some ⟨(12,.f (.func 18) [] [.p (6,0) 0 0,.p (2,0) 0 0,.p (7,0) 0 0])::[(11,.f (.func 18) [] [.p (6,0) 0 0,.p (2,0) 0 0,.p (7,0) 0 0]),(1,S nm),(2,.p (2,0) 0 0),(6,.p (6,0) 0 0),(7,.p (7,0) 0 0)],[((7,0),1,[.f (.func 18) [] [.p (6,0) 0 0,.p (2,0) 0 0,.p (7,0) 0 0]]),((6,0),1,[.n 1]),((2,0),1,[.i τ (fs.map (iFl τ'))])]⟩:=by
 simp only [go_sem,qa,qb,qc,qd,qe,qf,reduceCtorEq]
theorem qvo:qm (qV qg 0) ⟨(12,.f (.func 18) [] [.p (6,0) 0 0,.p (2,0) 0 0,.p (7,0) 0 0])::[(11,.f (.func 18) [] [.p (6,0) 0 0,.p (2,0) 0 0,.p (7,0) 0 0]),(1,S nm),(2,.p (2,0) 0 0),(6,.p (6,0) 0 0),(7,.p (7,0) 0 0)],[((7,0),1,[.f (.func 18) [] [.p (6,0) 0 0,.p (2,0) 0 0,.p (7,0) 0 0]]),((6,0),1,[.n 1]),((2,0),1,[.i τ (fs.map (iFl τ'))])]⟩ (.mv 13 (.t 1))=some ⟨(13,S nm)::(12,.f (.func 18) [] [.p (6,0) 0 0,.p (2,0) 0 0,.p (7,0) 0 0])::[(11,.f (.func 18) [] [.p (6,0) 0 0,.p (2,0) 0 0,.p (7,0) 0 0]),(1,S nm),(2,.p (2,0) 0 0),(6,.p (6,0) 0 0),(7,.p (7,0) 0 0)],[((7,0),1,[.f (.func 18) [] [.p (6,0) 0 0,.p (2,0) 0 0,.p (7,0) 0 0]]),((6,0),1,[.n 1]),((2,0),1,[.i τ (fs.map (iFl τ'))])]⟩:=by
 simp only [go_sem,qa,qb,qc,qd,qe,qf,reduceCtorEq]
theorem y_6(l:List Str):xw qg qcy ⟨[(6,.p (6,0) 0 0)],[((6,0),1,[.s (100000,0) 0 l.length]),((100000,0),1,l.map S)]⟩=some (.ret,⟨[(4,.s (100000,0) 0 l.length),(5,B true)],[((6,0),1,[.s (100000,0) 0 l.length]),((100000,0),1,l.map S)]⟩):=by
 simp only [go_sem,qa,qb,qc,qd,qe,qf,reduceCtorEq,qcy]
end
def xu(E:Env):Env:={E with μ:=fun k=>if k=(1,0)then E.μ (6,0)else if k=(2,0)then E.μ (2,0)else if k=(3,0)then E.μ (7,0)else if k=(100000,0)then some (.emp none)else none}
def jH(E:Env):Env:={E with μ:=fun k=>if k=(6,0)then E.μ (1,0)else if k=(100000,0)then E.μ (100000,0)else none}
theorem qe3 {E:Env} {y:Value} {c:Cnt}:(Rel E (.p (6,0) 0 0) y c→Rel (xu E) (.p (1,0) 0 0) y c)∧(Rel E (.p (2,0) 0 0) y c→Rel (xu E) (.p (2,0) 0 0) y c)∧(Rel E (.p (7,0) 0 0) y c→Rel (xu E) (.p (3,0) 0 0) y c):=by
 refine ⟨fun h=> ?_,fun h=> ?_,fun h=> ?_⟩<;>simp only [Rel]at h ⊢ <;>exact h
theorem qiR {E:Env} {ys:List Value} {c:Cnt} (h:qk E [.p (6,0) 0 0,.p (2,0) 0 0,.p (7,0) 0 0] ys c):qk (xu E) [.p (1,0) 0 0,.p (2,0) 0 0,.p (3,0) 0 0] ys c:=by
 simp only [qk]at h ⊢
 obtain ⟨y1,z1,a1,b1,rfl,h1,⟨y2,z2,a2,b2,rfl,h2,⟨y3,z3,a3,b3,rfl,h3,h4,rfl⟩,rfl⟩,rfl⟩:=h
 exact ⟨y1,_,a1,_,rfl,qe3.1 h1,⟨y2,_,a2,_,rfl,qe3.2.1 h2,⟨y3,_,a3,_,rfl,qe3.2.2 h3,h4,rfl⟩,rfl⟩,rfl⟩
theorem qpM {E:Env} {lo len:Nat} {y:Value} {c:Cnt} (h:Rel E (.s (100000,0) lo len) y c):Rel (jH E) (.s (100000,0) lo len) y c:=by
 have e:(jH E).μ (100000,0)=E.μ (100000,0):=rfl
 simp only [Rel]at h ⊢
 rw [e]
 exact h
section
variable (τ:Bool) (vs:List V)
theorem qsS {E E':Env} {x x':V} {ys:List Value} {c:Cnt} (hl:x'.cells.length=x.cells.length) (h:ql E 1 [x] ys c) (hx: ∀ y c,Rel E x y c→Rel E' x' y c):ql E' 1 [x'] ys c:=by
 simp only [ql]at h ⊢
 obtain ⟨y,ys',c1,c2,h1,h2,h3,h4,h5,h6,h7⟩:=h
 exact ⟨y,ys',c1,c2,h1,h2,by rw [hl];exact h3,h4,hx _ _ h5,h6,h7⟩
theorem qcK {E E':Env} {k k':Key} {x x':V} {c:Cnt} (hw:E'.w=E.w) (hk:E'.μ k'=E.μ k) (hl:x'.cells.length=x.cells.length) (hm: ∀ es,x ≠ .w (some true) es) (h:z7 E k (1,[x]) c) (hx: ∀ y c,Rel E x y c→Rel E' x' y c):z7 E' k' (1,[x']) c:=by
 rcases h with ⟨_,_,_,es,_,_,_,h5,_⟩|⟨_,h2,_⟩|⟨b,base,lim,cells,T,fz,c1,h1,h2,h3,h4,h5,h6,rfl⟩
 ·simp only [List.cons.injEq,and_true]at h5;exact absurd h5 (hm es)
 ·cases h2
 ·exact .inr (.inr ⟨b,base,lim,cells,T,fz,c1,by rw [hk];exact h1,by rw [hw];exact h2,h3,h4,h5,qsS hl h6 hx,rfl⟩)
theorem qp9 {E:Env} {c:Cnt} (h:qo E [((7,0),1,[.f (.func 18) [] [.p (6,0) 0 0,.p (2,0) 0 0,.p (7,0) 0 0]]),((6,0),1,[.n 1]),((2,0),1,[.i τ vs])] c):qo (xu E) (loT [] τ vs 18) c:=by
 obtain ⟨a7,r7,h7,⟨a6,r6,h6,⟨a2,r2,h2,h0,rfl⟩,rfl⟩,rfl⟩:=h
 simp only [qo]at h0
 subst h0
 have g1:z7 (xu E) (1,0) (1,[.s (100000,0) 0 0]) a6:=qcK (E:=E) (k:=(6,0)) (x:= .n 1) (E':=xu E) rfl rfl rfl (fun es h=>by cases h) h6 (fun y c h=>by
  simp only [Rel]at h ⊢
  exact ⟨h.2,.inl ⟨none,rfl,trivial,trivial,h.1⟩⟩)
 have g2:z7 (xu E) (2,0) (1,[.i τ vs]) a2:=qcK (E:=E) (k:=(2,0)) (x:= .i τ vs) (E':=xu E) rfl rfl rfl (fun es h=>by cases h) h2 (fun y c h=>h)
 have g3:z7 (xu E) (3,0) (1,[.f (.func 18) [] [.p (1,0) 0 0,.p (2,0) 0 0,.p (3,0) 0 0]]) a7:=qcK (E:=E) (k:=(7,0)) (x:= .f (.func 18) [] [.p (6,0) 0 0,.p (2,0) 0 0,.p (7,0) 0 0]) (E':=xu E) rfl rfl rfl (fun es h=>by cases h) h7 (fun y c h=>by
  simp only [Rel]at h ⊢
  obtain ⟨fs,cs,c1,c2,h1,h2,h3,h4⟩:=h
  exact ⟨fs,cs,c1,c2,h1,by simpa only [qk]using h2,qiR h3,h4⟩)
 have g4:z7 (xu E) (100000,0) (1,[]) c0:= .inr (.inl ⟨⟨none,rfl⟩,rfl,rfl⟩)
 refine ⟨a6,qh a2 (qh a7 (qh c0 c0)),g1,⟨a2,_,g2,⟨a7,_,g3,⟨c0,c0,g4,rfl,rfl⟩,rfl⟩,rfl⟩, ?_⟩
 funext b
 simp only [qh,c0]
 omega
theorem qpL {E:Env} {c:Cnt} {l:List Str} (h:qo E (loT l τ vs 18) c): ∃ c',qo (jH E) [((6,0),1,[.s (100000,0) 0 l.length]),((100000,0),1,l.map S)] c'∧cle c' c:=by
 obtain ⟨a1,r1,h1,⟨a2,r2,h2,⟨a3,r3,h3,⟨a4,r4,h4,h0,rfl⟩,rfl⟩,rfl⟩,rfl⟩:=h
 simp only [qo]at h0
 subst h0
 have g1:z7 (jH E) (6,0) (1,[.s (100000,0) 0 l.length]) a1:=qcK (E:=E) (k:=(1,0)) (x:= .s (100000,0) 0 l.length) (E':=jH E) rfl rfl rfl (fun es h=>by cases h) h1 (fun y c h=>qpM h)
 have g4:z7 (jH E) (100000,0) (1,l.map S) a4:=by
  rcases h4 with ⟨b,ents,clk,es,k1,k2,k3,k4,k5⟩|⟨k1,k2,k3⟩|⟨b,base,lim,cells,T,fz,c1,k1,k2,k3,k4,k5,k6,rfl⟩
  ·cases l with
   |nil=>cases k4
   |cons x r=>simp only [List.map_cons,List.cons.injEq]at k4;cases k4.1
  ·exact .inr (.inl ⟨k1,k2,k3⟩)
  ·refine .inr (.inr ⟨b,base,lim,cells,T,fz,c1,k1,k2,k3,k4,k5, ?_,rfl⟩)
   have hz: ∀ (l:List Str) ys c,ql E 1 (l.map S) ys c→ql (jH E) 1 (l.map S) ys c:=by
    intro l
    induction l with
    |nil=>intro ys c h;simpa only [List.map_nil,ql]using h
    |cons x r ih=>
     intro ys c h
     simp only [List.map_cons,ql]at h ⊢
     obtain ⟨y,ys',c1,c2,h1,h2,h3,h4,h5,h6,h7⟩:=h
     exact ⟨y,ys',c1,c2,h1,h2,h3,h4,by simpa only [S,Rel]using h5,ih _ _ h6,h7⟩
   exact hz l _ _ k6
 refine ⟨qh a1 (qh a4 c0),⟨a1,_,g1,⟨a4,c0,g4,rfl,rfl⟩,rfl⟩,fun b=> ?_⟩
 simp only [qh,c0]
 omega
end
theorem qkD(fs:List Fl) (U:List Str) (hI: ∀ s,∀ x ∈ qz fs s,x ∈ U): ∀ (n i:Nat) (nm:List Str),nm.Nodup→(∀ x ∈ nm,x ∈ U)→(yb fs n i nm).Nodup∧ ∀ x ∈ yb fs n i nm,x ∈ U
 |0,i,nm,h1,h2=>⟨h1,h2⟩
 |n+1,i,nm,h1,h2=>by
  simp only [yb]
  split
  ·exact ⟨h1,h2⟩
  ·rename_i s hs
   have ad:=XV (U:=U) (qz fs s) nm h2 (hI s) h1
   exact qkD fs U hI n _ _ ad.2.1 ad.1
theorem ql4(fs:List Fl) (hfs:fs.length≤Lm) (nm:Str) (h:kW fs nm=false): ∀ (k:Nat) (x:Str),Rch fs nm x→(qH fs [x]).length≤k→Rk (qz fs) k x:=by
 have hU:=jN fs nm hfs
 have hI:=k9 fs nm
 have no: ∀ x y,Rch fs nm x→y ∈ qz fs x→ ¬ Rch fs y x:=by
  intro x y hx hy hyx
  have h1:x ∈ qH fs [nm]:=(QQ fs [nm] (by simp) (zD fs nm) hU hI (by simp [zD]) x).2 ⟨nm,by simp,hx⟩
  have h2:x ∈ qH fs (qz fs x):=(QQ fs (qz fs x) (qcm fs x) (zD fs nm) hU hI (hI x) x).2 ⟨y,hy,hyx⟩
  unfold kW at h
  rw [List.any_eq_false]at h
  exact h x h1 (by simpa using h2)
 have hu: ∀ x,Rch fs nm x→x ∈ zD fs nm:=by
  intro x hx
  cases hx with
  |refl=>simp [zD]
  |step _ hz=>exact hI _ _ hz
 intro k
 induction k with
 |zero=>
  intro x hx hl
  have h1:x ∈ qH fs [x]:=(QQ fs [x] (by simp) (zD fs nm) hU hI (by simpa using hu x hx) x).2 ⟨x,by simp,.refl x⟩
  have:=List.length_pos_of_mem h1
  omega
 |succ k ih=>
  intro x hx hl y hy
  have hxy:Rch fs nm y:= .step hx hy
  refine ih y hxy ?_
  have nd:(qH fs [y]).Nodup:=by
   unfold qH
   exact (qkD fs (zD fs nm) hI _ _ [y] (by simp) (by simpa using hu y hxy)).1
  have hnd:(x::qH fs [y]).Nodup:=by
   refine List.nodup_cons.2 ⟨fun hm=> ?_,nd⟩
   obtain ⟨g,hg,hr⟩:=(QQ fs [y] (by simp) (zD fs nm) hU hI (by simpa using hu y hxy) x).1 hm
   simp only [List.mem_singleton]at hg
   subst hg
   exact no x _ hx hy hr
  have hsub: ∀ z ∈ x::qH fs [y],z ∈ qH fs [x]:=by
   intro z hz
   refine (QQ fs [x] (by simp) (zD fs nm) hU hI (by simpa using hu x hx) z).2 ⟨x,by simp, ?_⟩
   rcases List.mem_cons.1 hz with rfl|hz
   ·exact .refl _
   ·obtain ⟨g,hg,hr⟩:=(QQ fs [y] (by simp) (zD fs nm) hU hI (by simpa using hu y hxy) z).1 hz
    simp only [List.mem_singleton]at hg
    subst hg
    exact Rch.trans (.step (.refl x) hy) hr
  have:=QR hsub hnd
  simp only [List.length_cons]at this
  omega
def yQ(fs:List Fl) (s:Str):Bool:=(zU fs s).isSome
def qbg(fs:List Fl) (s:Str):Str:=match zU fs s with|some x=>x.text|none=>[]
def xk(fs:List Fl) (nm:Str):List Str:=zx (qz fs) (yQ fs) (qH fs [nm]).length nm []
def loV(fs:List Fl) (nm:Str):V:=if kW fs nm=true then .t [.o 1 [],B false]else .t [.o 1 ((xk fs nm).map S),B true]
theorem qd9(fs:List Fl) (hfs:fs.length≤Lm) (nm:Str) (h:kW fs nm=false):Rk (qz fs) (qH fs [nm]).length nm:=
 ql4 fs hfs nm h _ nm (.refl nm) (Nat.le_refl _)
theorem qm6(τ τ':Bool) (fs:List Fl) (hfs:fs.length≤Lm) (s:Str):cr qg QD [.i τ (fs.map (iFl τ')),S s]=some (.t [S (qbg fs s),B (yQ fs s)]):=by
 rw [qeN τ τ' fs s (by unfold Lm at hfs;omega)]
 unfold qbg yQ kZ
 cases zU fs s<;>rfl
def ldQ(E:Env) (c:Cnt) (xs:List V) (vs:List Value) (r:V):Ending→World→Prop:=
 fun e w''=> ∃ y,e= .returned y∧ ∃ E' cr co,E'.w=w''∧Rel E'.cl r y cr∧qk E'.cl xs vs co∧Good E' (qh cr co)∧Adv E c E' (qh cr co)
theorem qiM {E E':Env} {c c':Cnt} {st:St} {a:Act} {xs:List V} {vs:List Value} {x4 x5:V} {T':Mem} {r:V} (hF:FRel 16 E' st a.tmps c') (hres:kq st.σ st.T [.tmp 4,.tmp 5]=some ([x4,x5],T')) (hr:(qx 30 T' (.t [x4,x5])).1=r)
 (hdf:a.defers=[]) (hG:Good E c) (hA:Adv E c E' c') (hxs:qk E.cl xs vs c0):bodyPost Tryz.prog Tryz.f7 (ldQ E c xs vs r) .ret a E'.w:=by
 obtain ⟨ws,d1,d2,k1,k2,k3,k4⟩:=qfU (P:=Tryz.prog) hF.σ qpY hF.T hres
 have hres':(results Tryz.f7 a.tmps).run Tryz.prog E'.w= .ok (if h:ws.toArray.size=1 then ws.toArray[0]else .tuple ws.toArray) E'.w:=by
  unfold results
  rw [Sem.run_bind]
  refine Eq.trans (congrArg (fun r=>Result.andThen r _) (qf0 (l:=(Tryz.f7).results) k1)) ?_
  rfl
 obtain ⟨e1,e2,g1,g2,g3,-⟩:=Yz 30 E' T' _ _ d2 d1 k3 (qjF k2)
 have hle:cle e2 c':=fun b=>by
  have:=k4 b;have:=g3 b;simp only [qh]at*;omega
 have hM:Mono E E' c0→qk E'.cl xs vs c0:=fun m=>y8 hxs m.cl
 refine ⟨hdf,_,hres',_,rfl,E',e2,c0,rfl,by rw [← hr];exact g2, ?_,by rw [Zz];exact hF.g.le hle,by rw [Zz];exact hA.le hle⟩
 refine y8 (E:=E.cl) hxs ?_
 have hA2:Adv E c {E' with μ:=E.μ} c':=⟨hA.sizes,hA.os,hA.tape,hA.output,hA.size,hA.frame,hA.sub,hA.own,hA.imm⟩
 have:=qaN (ci:=c) (cr:=c0) (by rw [Zz];exact hG) hA2 (fun k l h=>h)
 exact this.cl
section
variable (τ τ':Bool) (fs:List Fl) (nm:Str)
theorem qpR(hfs:fs.length≤Lm) (E:Env) (vs:List Value) (hxs:qk E.cl [.i τ (fs.map (iFl τ')),S nm] vs c0) (hG:Good E c0):
 Calls Tryz.prog 7 vs.toArray E.w (ldQ E c0 [.i τ (fs.map (iFl τ')),S nm] vs (loV fs nm)):=by
 have hK:=kg
 have hvl:=yU hxs
 refine calls_of_wp Tryz.func7 qiL ?_
 have hsz:(vs.toArray++Array.replicate (Tryz.f7.ntmps - vs.toArray.size) undef).size=16:=by
  rw [qpT]
  simp only [Array.size_append,List.size_toArray,Array.size_replicate,hvl,List.length_cons,List.length_nil]
 have hGc:Good E.cl c0:=⟨hG.one,hG.imm,hG.sub,hG.bnd,⟨hG.lay.lb,hG.lay.ll⟩⟩
 have hF:FRel 16 E.cl ⟨[(0,.i τ (fs.map (iFl τ'))),(1,S nm)],[]⟩ (vs.toArray++Array.replicate (Tryz.f7.ntmps - vs.toArray.size) undef) c0:=⟨hsz,qf4 (xs:=[.i τ (fs.map (iFl τ')),S nm]) hxs,rfl,hGc⟩
 have hA0:Adv E c0 E.cl c0:=⟨fun _ _ h=>h,rfl,rfl,rfl,Nat.le_refl _,fun _ _ _=>rfl,fun _ _ h=>h,fun _ h=> .inl h,fun _ _ h=> .inl h⟩
 have hp0:=y7 (a:=⟨_,[]⟩) hK qp0 (y_0 τ τ' fs nm) hF
 refine wp_seq (wp_mono hp0 ?_)
 rintro e a0 w0 ⟨rfl,hd0,E0,d0,rfl,hF0,hk0,hA1⟩
 simp only [xOf,Exit.then]
 have hd0':a0.defers=[]:=hd0
 refine wp_seq ?_
 cases hc:kW fs nm with
 |true=>
  refine wp_mono (y7 hK qiO (qvp τ τ' fs nm hfs hc) hF0) ?_
  rintro e a1 w1 ⟨rfl,hd1,E1,d1,rfl,hF1,hk1,hA2⟩
  simp only [xOf,Exit.then]
  have hfin:=qiM (r:= .t [.o 1 [],B false]) (x4:= .n 1) (x5:=B false) (T':=[((2,0),1,[.i τ (fs.map (iFl τ'))])]) hF1 rfl (by simp only [go_sem,qa,qb,qc,qd,qe,qf,reduceCtorEq]) (hd1.trans hd0') hG ((hA0.trans hA1).trans hA2) hxs
  unfold loV
  rw [if_pos hc]
  exact hfin
 |false=>
  refine wp_mono (y7 hK qiO (qvq τ τ' fs nm hfs hc) hF0) ?_
  rintro e a1 w1 ⟨rfl,hd1,E1,d1,rfl,hF1,hk1,hA2⟩
  simp only [xOf,Exit.then]
  refine wp_seq (wp_mono (y7 hK qp3 (y_2 τ τ' fs nm) hF1) ?_)
  rintro e a2 w2 ⟨rfl,hd2,E2,d2,rfl,hF2,hk2,hA3⟩
  simp only [xOf,Exit.then]
  refine wp_seq (wp_mono (y7 hK qp4 (y_3 τ τ' fs nm) hF2) ?_)
  rintro e a3 w3 ⟨rfl,hd3,E3,d3,rfl,hF3,hk3,hA4⟩
  simp only [xOf,Exit.then]
  refine wp_seq (wp_mono (y7 hK qp5 (y_4 τ τ' fs nm) hF3) ?_)
  rintro e a4 w4 ⟨rfl,hd4,E4,d4,rfl,hF4,hk4,hA5⟩
  simp only [xOf,Exit.then]
  have hdd:a4.defers=[]:=(((hd4.trans hd3).trans hd2).trans hd1).trans hd0'
  have hAA:=((((hA0.trans hA1).trans hA2).trans hA3).trans hA4).trans hA5
  clear hF hF0 hF1 hF2 hF3 hA0 hA1 hA2 hA3 hA4 hA5
  rw [qpQ]
  refine wp_seq (wp_region ?_)
  rw [qpZ]
  show wpOps Tryz.prog jI _ [0,1,2] a4 E4.w
  simp only [wpOps,qpN,qpO,qpP]
  refine KL (Yu hK 0) qp1 (qvn τ τ' fs nm) hF4 ?_
  intro z1 E5 d5 hF5 hk5 hp5 hA6
  refine KL (Yu hK 0) qp2 (qvo τ τ' fs nm) hF5 ?_
  intro z2 E6 d6 hF6 hk6 hp6 hA7
  rw [if_pos (qlR qpW _)]
  left
  have h20:=qJ (a:=(a4.put Ka.dst z1).put Kb.dst z2) hF6.σ (show trO (.tmp 12) (.t 12)=some (.t 12)from rfl) (show ev _ (.t 12)=some (.f (.func 18) [] [.p (6,0) 0 0,.p (2,0) 0 0,.p (7,0) 0 0])from rfl)
  have h21:=qJ (a:=(a4.put Ka.dst z1).put Kb.dst z2) hF6.σ (show trO (.tmp 13) (.t 13)=some (.t 13)from rfl) (show ev _ (.t 13)=some (S nm)from rfl)
  have h6:=hF6.σ 6 (.p (6,0) 0 0) rfl
  have hdz:((a4.put Ka.dst z1).put Kb.dst z2).defers=[]:=by rw [ZK,ZK];exact hdd
  have hAz:=(hAA.trans hA6).trans hA7
  generalize (a4.put Ka.dst z1).put Kb.dst z2=az at hF6 h20 h21 h6 hdz ⊢
  clear hF4 hF5 hAA hA6 hA7
  simp only [Rel]at h20
  obtain ⟨fs',cs,e1,e2,hv,hr1,hr2,hcc⟩:=h20
  obtain ⟨rfl,rfl⟩:=cz hcc.symm.symm rfl
  simp only [qk]at hr1
  have hfs':fs'= #[]:=Array.toList_eq_nil_iff.1 hr1.1
  subst hfs'
  have hargs:(clO Qj).args.map az.eval++cs=(az.eval (.tmp 13)::cs.toList).toArray:=by
   rw [qpU]
   apply Array.ext'
   simp
  refine qhe qpX qpV hv Tryz.func18 qe4 qiZ ?_
  rw [hargs]
  have hRA:qk (xu E6) (loA nm) (az.eval (.tmp 13)::cs.toList) c0:=by
   unfold loA
   have:=qiR hr2
   simp only [qk]at this ⊢
   exact ⟨_,_,c0,c0,rfl,h21,this,rfl⟩
  have hG6:Good (xu E6) d6:=⟨hF6.g.one,hF6.g.imm,hF6.g.sub,hF6.g.bnd,⟨hF6.g.lay.lb,hF6.g.lay.ll⟩⟩
  have hU:=jN fs nm hfs
  have hE:=qqd (qz fs) (yQ fs) (qbg fs) τ (fs.map (iFl τ')) (fun s=>qeQ τ τ' fs s (by unfold Lm at hfs;omega)) (qm6 τ τ' fs hfs) hU (k9 fs nm) (fun s=>by have:=X7 fs s;omega)
   (qH fs [nm]).length nm (qd9 fs hfs nm hc) (by simp [zD]) [] ⟨List.nodup_nil,fun z hz=>by cases hz⟩
  refine (hE (xu E6) _ d6 hRA (qp9 τ _ hF6.T) hG6).mono ?_
  rintro e w'' ⟨y,rfl,E7,d7,rfl,hk7,hT7,hg7,hA8⟩
  refine ⟨y,rfl, ?_⟩
  obtain ⟨d8,hT8,hle8⟩:=qpL τ _ hT7
  have hG8:Good (jH E7) d8:=Good.le (c:=d7) ⟨hg7.one,hg7.imm,hg7.sub,hg7.bnd,⟨hg7.lay.lb,hg7.lay.ll⟩⟩ hle8
  have hA9:Adv E c0 (jH E7) d8:=Adv.le (c':=d7) (hAz.trans (E':=E6) (c':=d6) ⟨hA8.sizes,hA8.os,hA8.tape,hA8.output,hA8.size,hA8.frame,hA8.sub,hA8.own,hA8.imm⟩) hle8
  have hF8:FRel 16 (jH E7) ⟨[(6,.p (6,0) 0 0)],[((6,0),1,[.s (100000,0) 0 (xk fs nm).length]),((100000,0),1,(xk fs nm).map S)]⟩ (az.put Qj.dst y).tmps d8:=by
   refine ⟨?_, ?_,hT8,hG8⟩
   ·rw [qiN]
    simpa [Act.put]using hF6.sz
   ·intro t x hx
    simp only [qC]at hx
    split at hx
    case isFalse=>cases hx
    rename_i h
    subst h
    cases hx
    obtain ⟨v6,hv6,hr6⟩:=h6
    refine ⟨v6, ?_, ?_⟩
    ·rw [qiN]
     simp only [Act.put]
     rw [Array.getElem?_setIfInBounds_ne (by decide)]
     exact hv6
    ·have e1:E7.μ (1,0)=(xu E6).μ (1,0):=hk7 (1,0) (by decide)
     have e2:(jH E7).μ (6,0)=E6.μ (6,0):=e1
     simp only [Rel]at hr6 ⊢
     rw [e2]
     exact hr6
  have hp9:=y7 (a:=az.put Qj.dst y) hK qp6 (y_6 (xk fs nm)) hF8
  refine wp_mono hp9 ?_
  rintro e a9 w9 ⟨rfl,hd9,E9,d9,rfl,hF9,hk9,hA10⟩
  refine qiM (x4:= .s (100000,0) 0 (xk fs nm).length) (x5:=B true) (T':=[((6,0),1,[.s (100000,0) 0 (xk fs nm).length]),((100000,0),1,(xk fs nm).map S)]) hF9 rfl ?_ ?_ hG (hA9.trans hA10) hxs
  ·unfold loV
   rw [hc]
   have tk:((xk fs nm).map S).take (xk fs nm).length=(xk fs nm).map S:=List.take_of_length_le (by simp)
   simp only [go_sem,qa,qb,qc,qd,qe,qf,reduceCtorEq,tk,List.length_map,Bool.false_eq_true,if_false]
  ·rw [hd9,ZK];exact hdz
end
end Go.Vm
namespace Go.Vm
open Go.Proofs
theorem qgK {p q:Nat→Option AE} (h: ∀ f e,p f=some e→q f=some e): ∀ (n:Nat),CLe (qV p n) (qV q n)
 |0=>fun f xs r h=>by simp [qV]at h
 |n+1=>by
  have IH:=qgK h n
  intro f xs r hr
  rw [qV]at hr ⊢
  split at hr
  ·rename_i g hg
   rw [h _ _ hg];exact hr
  ·rename_i af haf
   rw [h _ _ haf]
   split at hr
   case isFalse=>cases hr
   rename_i hlen
   simp only
   rw [if_pos hlen]
   cases he:qw (qV p n) n af.body {σ:=xa 0 (za 0 xs).1,T:=(za 0 xs).2} with
   |none=>rw [he]at hr;cases hr
   |some s=>rw [he]at hr;rw [zI IH n n _ _ _ (Nat.le_refl n) he];exact hr
  ·cases hr
theorem qhD {p q:Nat→Option AE} (h: ∀ f e,p f=some e→q f=some e) {f:Nat} {xs:List V} {r:V × List V} (hr:cw p f xs=some r):cw q f xs=some r:=by
 obtain ⟨n,hn⟩:=ZC.1 hr
 exact ZC.2 ⟨n,qgK h n _ _ _ hn⟩
theorem qmI {p q:Nat→Option AE} (h: ∀ f e,p f=some e→q f=some e) {f:Nat} {xs:List V} {r:V} (hr:cr p f xs=some r):cr q f xs=some r:=by
 unfold cr at hr ⊢
 obtain ⟨x,hx,rfl⟩:=Option.map_eq_some_iff.1 hr
 rw [qhD h hx];rfl
def qcf:V→Option Fl
 | .a [.v (.string s),.v (.string t)]=>some ⟨s.data.toList,t.data.toList⟩
 |_=>none
def YA:List V→Option (List Fl)
 |[]=>some []
 |v::vs=>match qcf v,YA vs with
  |some x,some xs=>some (x::xs)
  |_,_=>none
theorem qmN {v:V} {x:Fl} (h:qcf v=some x):v=iFl false x:=by
 unfold qcf at h
 split at h
 ·simp only [Option.some.injEq]at h
  subst h
  rfl
 ·cases h
theorem qhH: ∀ {vs:List V} {xs:List Fl},YA vs=some xs→vs=xs.map (iFl false)
 |[],xs,h=>by simp only [YA,Option.some.injEq]at h;subst h;rfl
 |v::vs,xs,h=>by
  simp only [YA]at h
  split at h
  ·rename_i x ys h1 h2
   simp only [Option.some.injEq]at h
   subst h
   rw [List.map_cons, ← qmN h1, ← qhH h2]
  ·cases h
theorem qhG(τ:Bool): ∀ (xs:List Fl),YA (xs.map (iFl τ))=some xs
 |[]=>rfl
 |x::xs=>by
  have h1:qcf (iFl τ x)=some x:=rfl
  simp only [List.map_cons,YA,h1,qhG τ xs]
noncomputable def loP:List V→Option (V × List V)
 |[.i τ vs,.v (.string s)]=>match YA vs with
  |some fs=>if fs.length≤Lm then some (loV fs s.data.toList,[.i τ vs,.v (.string s)])else none
  |none=>none
 |_=>none
theorem qqa: ∀ args r outs,loP args=some (r,outs)→Je Tryz.prog 7 args r outs:=by
 intro args r outs h
 unfold loP at h
 split at h
 case h_2=>cases h
 rename_i τ vs s
 split at h
 case h_2=>cases h
 rename_i fs hfs
 split at h
 case isFalse=>cases h
 rename_i hl
 simp only [Option.some.injEq,Prod.mk.injEq]at h
 obtain ⟨rfl,rfl⟩:=h
 have hv:=qhH hfs
 subst hv
 intro E xs c hx hg
 have h0:c=c0:=by
  simp only [qk,Rel]at hx
  obtain ⟨y,ys,c1,c2,rfl,⟨rfl,-⟩,⟨y',ys',c3,c4,rfl,⟨rfl,-,rfl⟩,⟨rfl,rfl⟩,rfl⟩,rfl⟩:=hx
  rfl
 subst h0
 rw [qhN Tryz.func7 qiL qpS]
 exact ⟨rfl,qpR τ false fs s.data.toList hl E xs hx hg⟩
noncomputable def ko(n:Nat):Option AE:=if n=Xy then some (.prim loP)else qg n
theorem qsz:qg Xy=none:=by rfl
theorem qj9: ∀ f e,qg f=some e→ko f=some e:=by
 intro f e h
 unfold ko
 split
 ·rename_i hf;subst hf;rw [qsz]at h;cases h
 ·exact h
theorem qpo:QG Tryz.prog ko:=by
 intro f e h
 unfold ko at h
 split at h
 ·rename_i hf
  subst hf
  simp only [Option.some.injEq]at h
  subst h
  exact qqa
 ·exact kg f e h
theorem crB {f:Nat} {xs:List V} {r:V} (h:cr qg f xs=some r):cr ko f xs=some r:=qmI qj9 h
theorem cwB {f:Nat} {xs:List V} {r:V × List V} (h:cw qg f xs=some r):cw ko f xs=some r:=qhD qj9 h
theorem ql2(τ τ':Bool) (fs:List Fl) (hfs:fs.length≤Lm) (nm:Str):cr ko Xy [.i τ (fs.map (iFl τ')),S nm]=some (loV fs nm):=by
 have hp:ko Xy=some (.prim loP):=by unfold ko;rw [if_pos rfl]
 unfold cr
 rw [qhC hp]
 simp only [loP,S,qhG,if_pos hfs]
 rfl
end Go.Vm
namespace Go.Vm
theorem qnz {fs:List Fl} {s:Str} (h:yQ fs s=false):qz fs s=[]:=by
 unfold yQ at h
 unfold qz
 cases hf:zU fs s with
 |none=>rfl
 |some x=>rw [hf]at h;cases h
theorem qtQ(τ τ':Bool) (fs:List Fl) (hfs:fs.length≤Lm) (s:Str):cr qg Jl [.i τ (fs.map (iFl τ')),S s]=some (.t [S (qbg fs s),B (yQ fs s)]):=by
 rw [qgd τ τ' fs s (by unfold Lm at hfs;omega)]
 unfold qbg yQ kZ
 cases zU fs s<;>rfl
theorem qiE(τ τ':Bool) (fs:List Fl) (nm:Str) (ws:List Str) (hws:ws.length≤2^40) (ord:Str→List Str→List Str) (G:List Str→Prop)
 (hE: ∀ x ∈ ws,∀ l,G l→cw qg Jv [.i τ (fs.map (iFl τ')),S x,.o 1 (l.map S)]=some (.o 1 ((ord x l).map S),[.i τ (fs.map (iFl τ')),S x,.d])∧G (ord x l)):
 ∀ (r:List Str) (i:Nat) (l:List Str),ws.drop i=r→i+r.length=ws.length→G l→
  lw qg JX ⟨[(0,.i τ (fs.map (iFl τ'))),(1,S nm),(2,.s (100000,0) 0 (l).length),(9,.s (100000,1) 0 (ws).length),(10,I (i:Int))],[((100000,0),1,(l).map S),((100000,1),1,(ws).map S)]⟩=some (.exit 0,⟨[(1,S nm),(2,.s (100000,0) 0 (r.foldl (fun o x=>ord x o) l).length)],[((100000,0),1,(r.foldl (fun o x=>ord x o) l).map S),((100000,1),1,ws.map S)]⟩)
 |[],i,l,h,hk,hg=>by
  have hlt: ¬ (i:Int) < (ws.length:Int):=by simp only [List.length_nil]at hk;omega
  rw [qn]
  simp only [go_sem,qa,qb,qc,qd,qe,qf,reduceCtorEq,qb0,hlt,List.foldl_nil,List.length_map]
 |x::r,i,l,h,hk,hg=>by
  simp only [List.length_cons]at hk
  have hlt:(i:Int) < (ws.length:Int):=by omega
  have hx:ws[i]? =some x:=by
   have:=congrArg (fun z=>z[0]?) h
   simpa using this
  have hd:ws.drop (i+1)=r:=by
   have:=congrArg (fun z=>z.drop 1) h
   simpa [List.drop_drop,Nat.add_comm]using this
  obtain ⟨he,hg'⟩:=hE x (List.mem_of_getElem? hx) l hg
  have ih:=qiE τ τ' fs nm ws hws ord G hE r (i+1) (ord x l) hd (by omega) hg'
  have g:=q7 (f:=S) hx
  have ix:=xL (k:=(100000,1)) (e:=1) (xs:=ws.map S) (i:=i) (len:=ws.length) (by omega) (by simp)
  have e1:w64 ((i:Int)+1)=((i+1:Nat):Int):=by rw [qj]<;>omega
  have tk:=List.take_of_length_le (l:=l.map S) (i:=l.length) (by simp)
  have tk2:=List.take_of_length_le (l:=(ord x l).map S) (i:=(ord x l).length) (by simp)
  have tkw:=List.take_of_length_le (l:=ws.map S) (i:=ws.length) (by simp)
  rw [List.foldl_cons, ← ih,qn]
  simp only [go_sem,qa,qb,qc,qd,qe,qf,reduceCtorEq,qb0,hlt,he,g,ix,e1,tk,tk2,tkw,List.length_map]
theorem qpG(τ τ':Bool) (fs:List Fl) (hfs:fs.length≤Lm) (root:Str): ∀ (n:Nat) (nm:Str) (l:List Str),Rk (qz fs) n nm→nm ∈ zD fs root→GL (zD fs root) l→
 cw qg Jv [.i τ (fs.map (iFl τ')),S nm,.o 1 (l.map S)]=some (.o 1 ((zx (qz fs) (yQ fs) n nm l).map S),[.i τ (fs.map (iFl τ')),S nm,.d]):=by
 have hU:=jN fs root hfs
 have hI:=k9 fs root
 intro n
 induction n with
 |zero=>intro nm l h;exact h.elim
 |succ n ih=>
  intro nm l hr hu hg
  have hl:=Jz hU hg
  have f:=qtQ τ τ' fs hfs nm
  have tk:=List.take_of_length_le (l:=l.map S) (i:=l.length) (by simp)
  have hs:=qct true l nm (by omega)
  cases hh:yQ fs nm with
  |false=>
   rw [hh]at f
   have e:zx (qz fs) (yQ fs) (n+1) nm l=l:=by
    simp only [zx,hh,qnz hh,List.foldl_nil,Bool.false_eq_true,if_false]
    split<;>rfl
   rw [e]
   rw [qI qfo rfl]
   simp only [go_sem,qa,qb,qc,qd,qe,qf,reduceCtorEq,Zc,qt,f,tk,List.length_map]
  |true=>
   rw [hh]at f
   by_cases hm:nm ∈ l
   ·rw [decide_eq_true hm]at hs
    have e:zx (qz fs) (yQ fs) (n+1) nm l=l:=by simp only [zx];rw [if_pos hm]
    rw [e]
    rw [qI qfo rfl]
    simp only [go_sem,qa,qb,qc,qd,qe,qf,reduceCtorEq,Zc,qt,f,hs,tk,List.length_map]
   ·rw [decide_eq_false hm]at hs
    have i1:=qgg τ τ' fs nm (by unfold Lm at hfs;omega)
    have hin:=X7 fs nm
    have lp:=qiE τ τ' fs nm (qz fs nm) (by omega) (zx (qz fs) (yQ fs) n) (GL (zD fs root))
     (fun x hx l hl=>⟨ih x l (hr x hx) (hI nm x hx) hl,(qaS hI n x l (hr x hx) (hI nm x hx) hl).1⟩) (qz fs nm) 0 l rfl (by omega) hg
    have gl:=(qaS hI (n+1) nm l hr hu hg (has:=yQ fs)).1
    have e:zx (qz fs) (yQ fs) (n+1) nm l=(qz fs nm).foldl (fun o x=>zx (qz fs) (yQ fs) n x o) l++[nm]:=by
     simp only [zx];rw [if_neg hm,if_pos hh]
    rw [e]at gl ⊢
    generalize (qz fs nm).foldl (fun o x=>zx (qz fs) (yQ fs) n x o) l=o at lp gl ⊢
    have hno:nm ∉ o:=by
     intro h
     have:=gl.1
     rw [List.nodup_append]at this
     exact this.2.2 nm h nm (by simp) rfl
    have hol:o.length < 2^36:=by
     have:=Jz hU gl
     rw [List.length_append]at this
     omega
    have ad:=qiD o nm hol
    rw [if_neg hno,show qX o nm=o++[nm]by unfold qX;rw [if_neg hno]]at ad
    have tko:=List.take_of_length_le (l:=o.map S) (i:=o.length) (by simp)
    have tkw:=List.take_of_length_le (l:=(qz fs nm).map S) (i:=(qz fs nm).length) (by simp)
    have tk3:=List.take_of_length_le (l:=(o++[nm]).map S) (i:=o.length+1) (by simp)
    simp only [Int.natCast_zero]at lp
    rw [qI qfo rfl]
    simp only [go_sem,qa,qb,qc,qd,qe,qf,reduceCtorEq,Zc,qt,f,hs,i1,lp,ad,tk,tko,tkw,tk3,List.length_map]
end Go.Vm
namespace Go.Vm
theorem qt8(τ τ':Bool) (fs:List Fl) (hfs:fs.length≤Lm) (nm:Str):cr qg qdS [.i τ (fs.map (iFl τ')),S nm]=some (if kW fs nm=true then .t [.o 1 [],B false]else .t [.o 1 ((xk fs nm).map S),B true]):=by
 have c:=qt5 τ τ' fs hfs nm
 rw [show ((qH fs [nm]).any fun f=>decide (f ∈ qH fs (qz fs f)))=kW fs nm from rfl]at c
 cases hc:kW fs nm with
 |true=>
  rw [hc]at c
  rw [qv qjO rfl]
  simp only [go_sem,qa,qb,qc,qd,qe,qf,reduceCtorEq,Z6,c]
 |false=>
  rw [hc]at c
  have o:=qpG τ τ' fs hfs nm (qH fs [nm]).length nm [] (qd9 fs hfs nm hc) (by simp [zD]) ⟨List.nodup_nil,by simp⟩
  rw [List.map_nil]at o
  have tk:((xk fs nm).map S).take (xk fs nm).length=(xk fs nm).map S:=List.take_of_length_le (by simp)
  rw [show zx (qz fs) (yQ fs) (qH fs [nm]).length nm []=xk fs nm from rfl]at o
  rw [qv qjO rfl]
  simp only [go_sem,qa,qb,qc,qd,qe,qf,reduceCtorEq,Z6,c,o,tk,List.length_map]
theorem qqW(fs:List Fl) (hfs:fs.length≤Lm) (nm:Str) (hc:kW fs nm=false):(xk fs nm).length≤60000000000:=
 Jz (jN fs nm hfs) (qaS (k9 fs nm) (qH fs [nm]).length nm [] (qd9 fs hfs nm hc) (by simp [zD]) ⟨List.nodup_nil,by simp⟩ (has:=yQ fs)).1
theorem qmJ {p:Nat→Option AE} {f:Nat} {xs:List V} (h:cr p f xs=some (B true)): ∃ outs,cw p f xs=some (B true,outs):=by
 unfold cr at h
 obtain ⟨⟨a,b⟩,hx,hy⟩:=Option.map_eq_some_iff.1 h
 simp only at hy
 subst hy
 exact ⟨_,hx⟩
theorem qsk:ko XD=qg XD:=by unfold ko;rw [if_neg (by decide)]
theorem qpI(fs:List Fl) (hw:fs.length≤Lm) (hw': ∀ t ∈ fs,wFl t) (τ:Bool) (vs:List V) (hv:RL bFl fs vs) (s:Str) (hs:s.length≤Lm): ∃ outs,cw ko XD [.i τ vs,S s]=some (B true,outs):=by
 obtain ⟨m,hm⟩:=quD τ vs fs hv hw hw' 1048576
 replace hm:=crB hm
 have tf:=crB (quK τ vs fs hv hw hw')
 have i1:=fun t t'=>ql2 t t' fs hw s
 have s1:=fun t t'=>crB (qt8 t t' fs hw s)
 have ef:=fun t t' u u'=>crB ((qm0 t t' (fs.map (iFl u)) (fs.map (iFl u')) fs fs (qd8 (qgY u) fs) (qd8 (qgY u') fs) hw hw').trans (by rw [decide_eq_true (rfl:fs=fs)]))
 have mf:=cwB (qqy fs (by unfold Lm at hw;omega) 1 (by decide) (by decide))
 have n0: ¬ (1+2*(fs.length:Int)) < 0:=by omega
 have tkf:(fs.map oFl).take fs.length=fs.map oFl:=List.take_of_length_le (by simp)
 have mlf:=qcH fs 1
 have hp:ko XD=some (.fn jQ):=qsk.trans qrv
 have bt:((true != true)=true)=False:=by simp
 have i10:((1:Int) < 0)=False:=by simp
 have b0:eqV 0 (B true) (B true)=some true:=rfl
 have b1:eqV 0 (B false) (B false)=some true:=rfl
 apply qmJ
 rw [qv hp rfl]
 by_cases hb:(1048576:Int) < s.length
 ·simp only [go_sem,qa,qb,qc,qd,qe,qf,reduceCtorEq,jQ,hb]
 by_cases hneg:m < 0
 ·simp only [go_sem,qa,qb,qc,qd,qe,qf,reduceCtorEq,jQ,qbl,hb,hm,hneg]
 unfold loV at i1
 cases hc:kW fs s with
 |true=>
  rw [hc]at i1 s1
  simp only [if_true]at i1 s1
  have mk:=cwB (qjc [] (by decide) 1 (by decide) (by decide))
  have hd:=fun τ=>crB (qh8 τ [] (by decide) 1 (by decide) (by decide))
  simp only [mkL,List.map_nil,List.length_nil,Int.natCast_zero,Int.add_zero]at mk hd
  have e:=fun t t'=>crB ((qhO t t' [] [] (by decide)).trans (by rw [decide_eq_true (rfl:([]:List Str)=[])]))
  simp only [List.map_nil]at e
  simp only [go_sem,qa,qb,qc,qd,qe,qf,reduceCtorEq,jQ,qdu,qdv,qdw,qdx,qdy,qdz,qbl,hb,hm,hneg,tf,i1,s1,e,ef,mf,mk,hd,n0,tkf,mlf,b0,b1,bt,i10,List.length_map]
  try simp
 |false=>
  rw [hc]at i1 s1
  simp only [Bool.false_eq_true,if_false]at i1 s1
  have hl:=qqW fs hw s hc
  generalize xk fs s=ts at*
  have mk:=cwB (qjc ts (by omega) 1 (by decide) (by decide))
  have hd:=fun τ=>crB (qh8 τ ts (by omega) 1 (by decide) (by decide))
  have n1: ¬ (1+(ts.length:Int)) < 0:=by omega
  have tk:(ts.map S).take ts.length=ts.map S:=List.take_of_length_le (by simp)
  have ml:=Ki ts 1
  have tk2:((mkL 1 ts).map S).take ts.length=(mkL 1 ts).map S:=List.take_of_length_le (by simp [Ki])
  have e:=fun t t'=>crB ((qhO t t' ts ts (by omega)).trans (by rw [decide_eq_true (rfl:ts=ts)]))
  simp only [go_sem,qa,qb,qc,qd,qe,qf,reduceCtorEq,jQ,qdu,qdv,qdw,qdx,qdy,qdz,qbl,hb,hm,hneg,tf,i1,s1,e,ef,mf,mk,hd,n0,n1,tk,tkf,tk2,ml,mlf,b0,b1,bt,i10,List.length_map]
  try simp
theorem qpH(fs:List Fl) (hw:wL wFl fs) (τ:Bool) (vs:List V) (hv:RL bFl fs vs) (s:Str) (hs:s.length≤Lm): ∃ outs,cw ko XD [.i τ vs,S s]=some (B true,outs):=
 qpI fs hw.1 hw.2 τ vs hv s hs
end Go.Vm
namespace Go.Vm
section
variable {P:Program}
theorem qsN {tX t0 t1:TypeId} (hu: ∃ fs,P.underlying tX=some (.struct fs)∧fs.toList.map (·.type)=[t0,t1]) (h0:RdC P t0 cS wS) (h1:RdC P t1 cS wS):RdC P tX (cA bFl) wFl:=fun n xs h hb=>by
 obtain ⟨fs,hu,hfs⟩:=hu
 obtain ⟨m,parts,rfl,rfl,hp⟩:=qtZ hu h
 rw [hfs]at hp
 obtain ⟨p0,r0,rfl,s0,hp⟩:=qli hp
 obtain ⟨p1,r1,rfl,s1,hp⟩:=qli hp
 obtain rfl:=qtW hp
 simp only [List.flatten_cons,List.flatten_nil,List.append_nil,qel]at hb ⊢
 obtain ⟨b0,x0,c0,w0⟩:=h0 m p0 s0 (by omega)
 obtain ⟨b1,x1,c1,w1⟩:=h1 m p1 s1 (by omega)
 obtain rfl:=c0
 obtain rfl:=c1
 exact ⟨by omega,⟨x0,x1⟩,rfl,w0,w1⟩
end
end Go.Vm
namespace Go.Proofs.YtnicgnmcacbplaaGreat
open Go.Vm Go.RowKit Go.ChangeShapes
theorem Tryz.own:ownKnob Tryz.prog.godebug=none:=by kernel_rfl
theorem qme:laidOutB Tryz.prog=true:=by kernel_rfl
def St:List TypeId:=[9,22,36]
theorem qgC: ∀ t ∈ St,YM Tryz.prog St t=true:=by
 have h:St.all (YM Tryz.prog St)=true:=by kernel_rfl
 exact fun t ht=>List.all_eq_true.1 h t ht
mutual
theorem qha {H:Type}: ∀ (d:DataW H),yg d≤Rows.uptoBulk d
 | .lit (.string b)=>by simp [yg,Rows.uptoBulk]
 | .lit (.bool b)=>by simp [yg,Rows.uptoBulk]
 | .lit (.int k b)=>by simp [yg,Rows.uptoBulk]
 | .lit (.float k b)=>by simp [yg,Rows.uptoBulk]
 | .lit .nil=>by simp [yg,Rows.uptoBulk]
 | .nil=>by simp [yg,Rows.uptoBulk]
 | .ptr d=>by simp only [yg,Rows.uptoBulk];have:=qha d;omega
 | .slice es sp=>by simp only [yg,Rows.uptoBulk];have:=qat es;have:=qat sp;omega
 | .agg ps=>by simp only [yg,Rows.uptoBulk];have:=qat ps;omega
 | .iface t d=>by simp only [yg,Rows.uptoBulk];omega
 | .map es=>by simp only [yg,Rows.uptoBulk];omega
 | .held h=>by simp [yg,Rows.uptoBulk]
theorem qat {H:Type}: ∀ (ds:List (DataW H)),kD ds≤Rows.uptoBulkAll ds
 |[]=>by simp [kD,Rows.uptoBulkAll]
 |d::ds=>by simp only [kD,Rows.uptoBulkAll];have:=qha d;have:=qat ds;omega
end
theorem qt1 {H:Type} {ds:List (DataW H)} (h:Rows.uptoSmall H ds=true):kD ds≤1048576:=Nat.le_trans (qat ds) (of_decide_eq_true h)
end Go.Proofs.YtnicgnmcacbplaaGreat
