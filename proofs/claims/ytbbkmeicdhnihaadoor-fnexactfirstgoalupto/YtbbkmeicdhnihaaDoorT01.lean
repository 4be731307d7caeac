import Derived.Test.YtbbkmeicdhnihaaDoorT00
import Derived.Deep.AppendSrc
import Derived.Laws.Tables
import Derived.Laws.MakeOwn
import Derived.Laws.BytesString
import Derived.Laws.StructEq
import Derived.MapKept
import Derived.LoopN
import Derived.Orders
set_option autoImplicit false
set_option linter.unusedSectionVars false
set_option linter.unusedVariables false
set_option linter.unusedSimpArgs false
namespace Go.Vm
variable [Lay]
section
variable {P:Program} {N:Nat} {E:Env} {c:Cnt} {st st':St} {a:Act} {d:Nat} {call:qS}
theorem qgd(op:BinOp) (t:TypeId) (k k':IntKind) (x y:Int):binOp op t (.int k x) (.int k' y)=binOp op 0 (.int k x) (.int k' y):=by
 cases op<;>rfl
theorem qge(op:BinOp) (t:TypeId) (x y:ByteArray):binOp op t (.string x) (.string y)=binOp op 0 (.string x) (.string y):=by
 cases op<;>rfl
theorem x7 {x:Value} (h:zM x=false):Rel E (.v x) x c0:=by simp [Rel,h]
theorem qbj {α:Type} {s:Sem α} {r:α} (h:s.val? =some r) (w:World):s.run P w= .ok r w:=by rw [qbC h];rfl
def qwK:Sem Value→Bool
 | .pure v=> !zM v
 |_=>true
theorem qcd {op:BinOp} {x y r:Value} (h:(binOp op 0 x y).val? =some r) (hi:(∃ k n k' m,x= .int k n∧y= .int k' m)∨(∃ s u,x= .string s∧y= .string u)):zM r=false:=by
 have hv:=qbC h
 rcases hi with ⟨k,n,k',m,rfl,rfl⟩|⟨s,u,rfl,rfl⟩
 ·cases op<;>simp only [binOp]at hv<;>
   (first
    |(split at hv<;>first|(cases hv;done)|skip)|skip)<;>
   (simp only [Op.intArith,Op.intDiv,Op.intBits,Op.intCmp,Op.shift]at hv)<;>
   (repeat' (split at hv))<;>
   (first|(cases hv;rfl)|(simp only [Sem.pure.injEq]at hv;subst hv;rfl)|(exfalso;revert hv;simp [stuck,runtimePanic,program,goPanic,unsupported,bind,Sem.bind];done)|skip)
 ·cases op<;>simp only [binOp,Op.stringOp]at hv<;>(repeat' (split at hv))<;>
   (first|(cases hv;rfl)|(exfalso;revert hv;simp [stuck,unsupported];done)|skip)
theorem qak {op:BinOp} {t:TypeId} {x y:Operand} {u v:Value} (hu:zM u=false) (hn:u ≠ .nilIface) (w:World):(eqGuard op t x y u v).run P w= .ok () w:=by
 cases u<;>(first|exact absurd rfl hn|(simp [zM]at hu;done)|skip)<;>cases op<;>(first|rfl|(cases v<;>rfl))
theorem qkP {x y:Operand} {hx hy x' y':AO} {op:BinOp} {t:TypeId} (h1:trO x hx=some x') (h2:trO y hy=some y')
 (hs:qh call st (.bin d op x' y')=some st') (h:FRel N E st a.tmps c) (hd:d < N):
 qE N E st st' (some d) (Sem.run P (do pure (.value (← (do eqGuard op t x y (a.eval x) (a.eval y);binOp op t (a.eval x) (a.eval y))))) E.w):=by
 simp only [qh]at hs
 split at hs
 case h_2=>cases hs
 rename_i xv yv hxv hyv
 have hrx:=qB h.σ h1 hxv
 have hry:=qB h.σ h2 hyv
 rw [Option.map_eq_some_iff]at hs
 obtain ⟨z,hz,rfl⟩:=hs
 unfold q6 at hz
 split at hz
 ·rename_i k n k' m
  rw [Option.map_eq_some_iff]at hz
  obtain ⟨r,hr,rfl⟩:=hz
  simp only [Rel]at hrx hry
  rw [hrx.1,hry.1]
  simp only [Sem.run_bind,qak (P:=P) (u:=Value.int k n) rfl (by simp),Result.andThen_ok,qgd op t,qbj hr,Sem.run_pure]
  exact ze h hd (x7 (qcd hr (.inl ⟨_,_,_,_,rfl,rfl⟩)))
 ·rename_i s u
  rw [Option.map_eq_some_iff]at hz
  obtain ⟨r,hr,rfl⟩:=hz
  simp only [Rel]at hrx hry
  rw [hrx.1,hry.1]
  simp only [Sem.run_bind,qak (P:=P) (u:=Value.string s) rfl (by simp),Result.andThen_ok,qge op t,qbj hr,Sem.run_pure]
  exact ze h hd (x7 (qcd hr (.inr ⟨_,_,rfl,rfl⟩)))
 ·cases hz
theorem qlV {op:UnOp} {x r:Value} (h:(Op.unary op x).val? =some r):zM r=false:=by
 have hv:=qbC h
 unfold Op.unary at hv
 split at hv<;>(try simp only [Op.intArith,Op.intBits]at hv)<;>first
  |(cases hv;rfl)
  |(simp only [pure,Sem.pure.injEq]at hv;subst hv;rfl)
  |(exfalso;revert hv;simp [stuck,unsupported];done)
theorem qlg {x:Operand} {hx x':AO} {op:UnOp} (h1:trO x hx=some x')
 (hs:qh call st (.un d op x')=some st') (h:FRel N E st a.tmps c) (hd:d < N):
 qE N E st st' (some d) (Sem.run P (do pure (.value (← Op.unary op (a.eval x)))) E.w):=by
 simp only [qh]at hs
 split at hs
 case h_2=>cases hs
 rename_i xv hxv
 have hrx:=qB h.σ h1 hxv
 rw [Option.map_eq_some_iff]at hs
 obtain ⟨z,hz,rfl⟩:=hs
 simp only [Rel]at hrx
 rw [hrx.1]
 simp only [Sem.run_bind,qbj hz,Result.andThen_ok,Sem.run_pure]
 exact ze h hd (x7 (qlV hz))
theorem qkR {x:Operand} {hx x':AO} {i:Nat} (h1:trO x hx=some x')
 (hs:qh call st (.ext d x' i)=some st') (h:FRel N E st a.tmps c) (hd:d < N):
 qE N E st st' (some d) (Sem.run P (do pure (.value (← Instr.extract (a.eval x) i))) E.w):=by
 simp only [qh]at hs
 split at hs
 case h_2=>cases hs
 rename_i vs hxv
 have hrx:=qB h.σ h1 hxv
 rw [Option.map_eq_some_iff]at hs
 obtain ⟨z,hz,rfl⟩:=hs
 simp only [Rel]at hrx
 obtain ⟨ws,he,hL⟩:=hrx
 obtain ⟨y,c1,c2,hy,hr,hc,-⟩:=K0 hL hz
 have h0:c1=c0:=funext fun b=>by have:=congrFun hc b;simp only [c0,qg]at this ⊢;omega
 subst h0
 rw [he]
 have hy':ws[i]? =some y:=by simpa using hy
 simp only [Instr.extract,hy',Sem.run_bind,Sem.run_pure,Result.andThen_ok]
 exact ze h hd hr
theorem qkU {fn:Fn} {first caps:List Operand} {hf hc f' c':List AO} (h1:xM first hf=some f') (h2:xM caps hc=some c')
 (hs:qh call st (.fun d fn f' c')=some st') (h:FRel N E st a.tmps c) (hd:d < N):
 qE N E st st' (some d) (Sem.run P (do pure (.value (← Instr.makeFunc fn (first.toArray.map a.eval) (caps.toArray.map a.eval)))) E.w):=by
 simp only [qh]at hs
 split at hs
 case h_2=>cases hs
 rename_i x y hx hy
 simp only [Option.some.injEq]at hs;subst hs
 have r1:=ZL h.σ h1 hx
 have r2:=ZL h.σ h2 hy
 simp only [Instr.makeFunc,Sem.run_bind,Sem.run_pure,Result.andThen_ok]
 refine ze h hd ?_
 simp only [Rel]
 exact ⟨_,_,c0,c0,rfl,by simpa using r1,by simpa using r2,rfl⟩
theorem qkT {x:Operand} {hx x':AO} {s:TypeId} {f:Nat} {fl:Field} {agg:Bool} {n:Nat} (h1:trO x hx=some x') (hf:ZM P s f=some fl) (ht:ke P fl.type=some (agg,n))
 (hs:qh call st (.fld d agg n x' fl.offset)=some st') (h:FRel N E st a.tmps c) (hd:d < N):
 qE N E st st' (some d) (Sem.run P (do pure (.value (← Instr.field s (a.eval x) f))) E.w):=by
 simp only [qh]at hs
 split at hs
 case h_2=>cases hs
 rename_i cs hxv
 have hrx:=qB h.σ h1 hxv
 rw [Option.map_eq_some_iff]at hs
 obtain ⟨z,hz,rfl⟩:=hs
 have hl:=qba hrx (by simp)
 simp only [Rel]at hrx
 obtain ⟨vs,he,hL⟩:=hrx
 have hlen:=yr hL
 simp only [Array.length_toList]at hlen
 unfold ZM at hf
 split at hf
 case h_2=>cases hf
 rename_i fs hu
 unfold ke at ht
 split at ht
 case h_2=>cases ht
 rename_i dd i hud hi
 simp only [Option.some.injEq,Prod.mk.injEq]at ht
 obtain ⟨rfl,rfl⟩:=ht
 simp only [he,Instr.field,Sem.run_bind,zx hu,Result.andThen_ok,hf,asAgg,Sem.run_pure,part,XI hud]
 unfold qT at hz
 cases hag:jU dd with
 |true=>
  rw [hag,if_pos rfl]at hz
  simp only [if_true,Sem.run_bind,jC hi,Result.andThen_ok,Sem.run_pure]
  have key: ∃ z',z= .a z'∧fl.offset+i.size≤cs.length∧z'=(cs.drop fl.offset).take i.size:=by
   by_cases hh:fl.offset=0∧(V.a cs).cells.length=i.size∧(V.a cs).isA=true
   ·rw [if_pos hh]at hz
    simp only [Option.some.injEq]at hz;subst hz
    have h2:cs.length=i.size:=hh.2.1
    exact ⟨cs,rfl,by omega,by rw [hh.1,List.drop_zero,List.take_of_length_le (by omega)]⟩
   ·rw [if_neg hh]at hz
    by_cases hle:fl.offset+i.size≤(V.a cs).cells.length
    ·rw [if_pos hle]at hz
     simp only [Option.some.injEq]at hz;subst hz
     exact ⟨_,rfl,hle,rfl⟩
    ·rw [if_neg hle]at hz;cases hz
  obtain ⟨z',rfl,hle,rfl⟩:=key
  obtain ⟨d0,d1,d2,g0,g1,g2,hc⟩:=XC hL fl.offset i.size hle
  have h0:d1=c0:=funext fun b=>by have:=congrFun hc b;simp only [c0,qg]at this ⊢;omega
  subst h0
  have hr:=XE g1
  have e:vs.extract fl.offset (fl.offset+i.size)=((vs.toList.drop fl.offset).take i.size).toArray:=by
   apply Array.ext'
   simp [List.take_drop]
  rw [e]
  exact ze h hd hr
 |false=>
  rw [hag,if_neg (by simp)]at hz
  obtain ⟨y,c1,c2,hy,hr,hc,-⟩:=K0 hL hz
  have h0:c1=c0:=funext fun b=>by have:=congrFun hc b;simp only [c0,qg]at this ⊢;omega
  subst h0
  have hy':vs[fl.offset]? =some y:=by simpa using hy
  simp only [Bool.false_eq_true,if_false,hy',Sem.run_pure,Result.andThen_ok]
  exact ze h hd hr
theorem qk0 {x:Operand} {hx x':AO} {t ty e:TypeId} (h1:trO x hx=some x') (hu:P.underlying t=some (.slice e))
 (hs:qh call st (.len d x')=some st') (h:FRel N E st a.tmps c) (hd:d < N):
 qE N E st st' (some d) (Sem.run P (do pure (.value (← Builtin.len_ #[t] ty #[a.eval x]))) E.w):=by
 simp only [qh]at hs
 split at hs
 case h_2=>cases hs
 rename_i xv hxv
 have hrx:=qB h.σ h1 hxv
 rw [Option.map_eq_some_iff]at hs
 obtain ⟨n,hn,rfl⟩:=hs
 have key:Sem.run P (do pure (.value (← Builtin.len_ #[t] ty #[a.eval x])):Sem Next) E.w= .ok (.value (.int .i64 n)) E.w:=by
  unfold jy at hn
  split at hn<;>first|(simp only [Option.some.injEq]at hn;subst hn)|cases hn
  ·simp only [Rel]at hrx
   obtain ⟨-,⟨A0,-,-,rfl,he⟩|⟨b,base,e',lim,cap,A,-,-,-,-,-,he⟩⟩:=hrx<;>simp [Builtin.len_,he,zx hu,goInt]
  ·simp only [Rel]at hrx
   obtain ⟨-,A,cap,he,-⟩:=hrx
   simp [Builtin.len_,he,zx hu,goInt]
  ·simp only [Rel]at hrx
   simp [Builtin.len_,hrx.1,zx hu,goInt]
 rw [key]
 exact ze h hd (x7 rfl)
theorem qlc {x:Operand} {hx x':AO} {t ty:TypeId} (h1:trO x hx=some x') (hu:P.underlying t=some .string)
 (hs:qh call st (.slen d x')=some st') (h:FRel N E st a.tmps c) (hd:d < N):
 qE N E st st' (some d) (Sem.run P (do pure (.value (← Builtin.len_ #[t] ty #[a.eval x]))) E.w):=by
 simp only [qh]at hs
 split at hs
 case h_2=>cases hs
 rename_i s hxv
 have hrx:=qB h.σ h1 hxv
 simp only [Option.some.injEq]at hs;subst hs
 simp only [Rel]at hrx
 have key:Sem.run P (do pure (.value (← Builtin.len_ #[t] ty #[a.eval x])):Sem Next) E.w= .ok (.value (.int .i64 s.size)) E.w:=by
  simp [Builtin.len_,hrx.1,zx hu,goInt]
 rw [key]
 exact ze h hd (x7 rfl)
theorem qkW {x:Operand} {hx x':AO} {src dst:TypeId} {k k0:IntKind} (h1:trO x hx=some x') (hu:P.underlying dst=some (.int k)) (hv:P.underlying src=some (.int k0))
 (hs:qh call st (.int d k x')=some st') (h:FRel N E st a.tmps c) (hd:d < N):
 qE N E st st' (some d) (Sem.run P (do pure (.value (← convert src dst (a.eval x)))) E.w):=by
 simp only [qh]at hs
 split at hs
 case h_2=>cases hs
 rename_i k1 n hxv
 have hrx:=qB h.σ h1 hxv
 simp only [Option.some.injEq]at hs;subst hs
 simp only [Rel]at hrx
 have key:Sem.run P (do pure (.value (← convert src dst (a.eval x))):Sem Next) E.w= .ok (.value (.int k (k.wrap n))) E.w:=by
  simp [convert,hrx.1,zx hu,zx hv,Conv.intToInt]
 rw [key]
 exact ze h hd (x7 rfl)
theorem qkX {x i:Operand} {hx hi x' i':AO} {t:TypeId} (h1:trO x hx=some x') (h2:trO i hi=some i') (hu:P.underlying t=some .string)
 (hs:qh call st (.ix d x' i')=some st') (h:FRel N E st a.tmps c) (hd:d < N):
 qE N E st st' (some d) (Sem.run P (do pure (.value (← Instr.index t (a.eval x) (a.eval i)))) E.w):=by
 simp only [qh]at hs
 split at hs
 case h_2=>cases hs
 rename_i s k n hxv hiv
 have hrx:=qB h.σ h1 hxv
 have hri:=qB h.σ h2 hiv
 rw [Option.map_eq_some_iff]at hs
 obtain ⟨j,hj,rfl⟩:=hs
 simp only [Rel]at hrx hri
 unfold zI at hj
 split at hj
 case isFalse=>cases hj
 rename_i hb
 simp only [Option.some.injEq]at hj;subst hj
 have hlt:n.toNat < s.size:=by omega
 have hb2:s[n.toNat]? =some s[n.toNat]:=by simp [hlt]
 have hb3:s.data[n.toNat]?.getD 0=s[n.toNat]:=by
  rw [Array.getElem?_eq_getElem (by exact hlt)];rfl
 have key:Sem.run P (do pure (.value (← Instr.index t (a.eval x) (a.eval i))):Sem Next) E.w= .ok (.value (.int .u8 s[n.toNat].toNat)) E.w:=by
  simp [Instr.index,hrx.1,hri.1,asIntOf,zx hu,hb.1,hb2]
 rw [key]
 refine ze h hd ?_
 rw [hb3]
 exact x7 rfl
theorem Kh {σ:Sl} {o:Option Operand} {ho o':Option AO} {z:Option V} {n d0:Nat} (hσ:zo E σ a.tmps)
 (ht:(o=none∧o'=none)∨ ∃ x h y,o=some x∧trO x h=some y∧o'=some y) (hz:evO σ o'=some z) (hb:yZ d0 z=some n):
 (o=none∧n=d0)∨ ∃ x k,o=some x∧a.eval x= .int k (n:Int):=by
 rcases ht with ⟨rfl,rfl⟩|⟨x,h,y,rfl,ht,rfl⟩
 ·simp only [evO,Option.some.injEq]at hz;subst hz
  simp only [yZ,Option.some.injEq]at hb;exact .inl ⟨rfl,hb.symm⟩
 ·simp only [evO,Option.map_eq_some_iff]at hz
  obtain ⟨v,hv,rfl⟩:=hz
  have hr:=qB hσ ht hv
  unfold yZ at hb
  split at hb
  ·rename_i hc;cases hc
  ·rename_i k i hc
   simp only [Option.some.injEq]at hc;subst hc
   split at hb
   ·rename_i hi
    simp only [Option.some.injEq]at hb;subst hb
    simp only [Rel]at hr
    exact .inr ⟨x,k,rfl,by rw [hr.1,Int.toNat_of_nonneg hi]⟩
   ·cases hb
  ·cases hb
theorem Jj {x:Value} {k:IntKind} {n y:Nat} (code:BoundsCode) (hx:x= .int k (n:Int)) (hn:n≤y) (w:World):(Instr.sliceBound x y code).run P w= .ok n w:=by
 subst hx
 simp only [Instr.sliceBound,asIntOf,Sem.run_bind,Sem.run_pure,Result.andThen_ok]
 rw [if_pos ⟨by omega,by omega⟩];simp
theorem qfa {lo hi:Option Operand} {l h len cap d0:Nat} {isS:Bool} (hl:(lo=none∧l=0)∨ ∃ x k,lo=some x∧a.eval x= .int k (l:Int))
 (hh:(hi=none∧h=len)∨ ∃ x k,hi=some x∧a.eval x= .int k (h:Int)) (h1:l≤h) (h2:h≤cap) (w:World):
 (Instr.sliceBounds isS len cap (lo.map a.eval) (hi.map a.eval) none).run P w= .ok (l,h,cap) w:=by
 simp only [Instr.sliceBounds]
 rcases hl with ⟨rfl,rfl⟩|⟨x,k,rfl,hx⟩<;>rcases hh with ⟨rfl,rfl⟩|⟨y,k',rfl,hy⟩<;>simp only [Option.map_none,Option.map_some,Sem.run_bind,Sem.run_pure,Result.andThen_ok]
 ·rw [Jj _ hy h2];simp
 ·rw [Jj _ hx h1];simp
 ·rw [Jj _ hy h2];simp only [Result.andThen_ok];rw [Jj _ hx h1];simp
theorem qlb {x:Operand} {hx x':AO} {t et:TypeId} {ei:TypeInfo} {lo hi:Option Operand} {lo' hi':Option AO} (h1:trO x hx=some x')
 (hlo:(lo=none∧lo'=none)∨ ∃ x h y,lo=some x∧trO x h=some y∧lo'=some y) (hhi:(hi=none∧hi'=none)∨ ∃ x h y,hi=some x∧trO x h=some y∧hi'=some y)
 (ht:slT P t=some (et,ei))
 (hs:qh call st (.sl d ei.size x' lo' hi')=some st') (h:FRel N E st a.tmps c) (hd:d < N):
 qE N E st st' (some d) (Sem.run P (do pure (.value (← Instr.sliceAt t (a.eval x) (lo.map a.eval) (hi.map a.eval) none))) E.w):=by
 simp only [qh]at hs
 split at hs
 case h_2=>cases hs
 rename_i xv lv hv hxv hlv hhv
 have hrx:=qB h.σ h1 hxv
 rw [Option.map_eq_some_iff]at hs
 obtain ⟨z,hz,rfl⟩:=hs
 unfold Qb at hz
 split at hz
 case h_1=>cases hz
 rename_i n hn
 split at hz
 case h_2=>cases hz
 rename_i l hh hbl hbh
 split at hz
 case isFalse=>cases hz
 rename_i hle
 have hl2:=Kh (a:=a) (ho:=none) h.σ hlo hlv hbl
 have hh2:=Kh (a:=a) (ho:=none) h.σ hhi hhv hbh
 unfold slT at ht
 split at ht
 case h_2=>cases ht
 rename_i e hu
 rw [Option.map_eq_some_iff]at ht
 obtain ⟨ei',hei,heq⟩:=ht
 simp only [Prod.mk.injEq]at heq
 obtain ⟨rfl,rfl⟩:=heq
 have hrun: ∀ A cap,a.eval x= .slice A n cap→n≤cap→Sem.run P (do pure (.value (← Instr.sliceAt t (a.eval x) (lo.map a.eval) (hi.map a.eval) none)):Sem Next) E.w=
  .ok (.value (.slice (if cap=l then A else A.map (·.add (l*ei'.size))) (hh - l) (cap - l))) E.w:=by
  intro A cap he hcap
  have hb:=qfa (P:=P) (a:=a) (d0:=0) (isS:=true) (len:=n) (cap:=cap) hl2 hh2 hle.1 (by omega) E.w
  simp only [Instr.sliceAt,Sem.run_bind,zx hu,Result.andThen_ok,Instr.slice,he,hb,jC hei,Sem.run_pure]
 split at hz
 ·rename_i k l0 len
  simp only [jy,Option.some.injEq]at hn;subst hn
  simp only [Rel]at hrx
  split at hz
  case h_2=>cases hz
  rename_i ob hg
  split at hz
  case isFalse=>cases hz
  rename_i hoe
  simp only [Option.some.injEq]at hz;subst hz
  obtain ⟨-,⟨A0,hμ,rfl,rfl,he⟩|⟨b,base,e',lim,cap,A,hμ,hcap,hroom,hpos,hA,he⟩⟩:=hrx
  ·rw [hrun A0 0 he (Nat.le_refl _)]
   refine ze h hd ?_
   simp only [Rel]
   have hl0:l=0:=by omega
   have hh0:hh=0:=by omega
   subst hl0;subst hh0
   exact ⟨by trivial,.inl ⟨A0,hμ,by omega,by omega,by simp⟩⟩
  ·obtain ⟨c1,c2,ho,-,-⟩:=zW h.T hg
   have hee:e'=ei'.size:=by
    rcases ho with ⟨_,_,_,_,q1,-⟩|⟨⟨A1,q1⟩,-⟩|⟨b2,base2,lim2,cells,T,fz,c3,q1,-⟩
    ·rw [q1]at hμ;cases hμ
    ·rw [q1]at hμ;cases hμ
    ·rw [q1]at hμ;cases hμ;exact hoe
   rw [hrun _ _ he hcap]
   refine ze h hd ?_
   simp only [Rel]
   refine ⟨by trivial,.inr ⟨b,base,e',lim,cap - l,if cap=l then A else A.add (l*ei'.size),hμ,by omega, ?_,fun h=>by have:=hpos (by omega);omega, ?_,by split<;>rfl⟩⟩
   ·rw [show l0+l+(cap - l)=l0+cap by omega];exact hroom
   ·by_cases hc:cap=l
    ·exact .inl (by omega)
    ·right
     rw [if_neg hc]
     rcases hA with hA|hA
     ·omega
     ·rw [hA,xP,hee,Nat.add_mul];simp only [Nat.add_assoc]
 ·rename_i τ xs
  split at hz
  case isFalse=>cases hz
  rename_i hok
  simp only [Option.some.injEq]at hz;subst hz
  simp only [jy,Option.some.injEq]at hn;subst hn
  simp only [Rel]at hrx
  obtain ⟨-,A,cap,he,hcap,hR⟩:=hrx
  rw [hrun _ _ he hcap]
  refine ze h hd ?_
  simp only [Rel]
  have hlen:((xs.drop l).take (hh - l)).length=hh - l:=by simp;omega
  refine ⟨by trivial,_,_,by rw [hlen],by rw [hlen];omega, ?_⟩
  by_cases hc:hh=l
  ·left;apply List.length_eq_zero_iff.1;omega
  ·rcases hR with rfl|⟨b,base,e',cells,T,fz,rfl,hI,hw,hR⟩
   ·simp only [List.length_nil]at hle;omega
   ·right
    have hee:e'=ei'.size:=by
     cases xs with
     |nil=>simp only [List.length_nil]at hle;omega
     |cons x0 xs0=>
      simp only [ql]at hR
      obtain ⟨y,t,c1,c2,-,-,hl0,-⟩:=hR
      simp only [Xk,beq_iff_eq]at hok
      omega
    refine ⟨b,base+l*e',e',cells,T,fz, ?_,hI,hw, ?_⟩
    ·rw [if_neg (by omega)];simp [xP,hee]
    ·obtain ⟨q1,q2,-,h3,hq⟩:=x6 l hR
     obtain ⟨q3,q4,h5,-,hq'⟩:=x6 (hh - l) h3
     have h0:q3=c0:=funext fun z=>by
      have:=congrFun hq z;have:=congrFun hq' z;simp only [c0,qg]at*;omega
     subst h0
     rw [hlen]
     have hm:l*e'+(hh - l)*e'≤xs.length*e':=by rw [← Nat.add_mul];exact Nat.mul_le_mul_right _ (by omega)
     rwa [kG hm]at h5
 ·simp only [Option.some.injEq]at hz;subst hz
  have hn0:n=0:=(Option.some.inj hn).symm
  simp only [Rel]at hrx
  rw [hrun none 0 (by rw [hrx.1,hn0]) (by omega)]
  refine ze h hd ?_
  have hl0:l=0:=by omega
  have hh0:hh=0:=by omega
  subst hl0;subst hh0
  simp only [Rel]
  exact ⟨by simp,by trivial⟩
 ·cases hz
theorem qld {x:Operand} {hx x':AO} {t:TypeId} {lo hi:Option Operand} {lo' hi':Option AO} (h1:trO x hx=some x')
 (hlo:(lo=none∧lo'=none)∨ ∃ x h y,lo=some x∧trO x h=some y∧lo'=some y) (hhi:(hi=none∧hi'=none)∨ ∃ x h y,hi=some x∧trO x h=some y∧hi'=some y)
 (hu:P.underlying t=some .string)
 (hs:qh call st (.ssl d x' lo' hi')=some st') (h:FRel N E st a.tmps c) (hd:d < N):
 qE N E st st' (some d) (Sem.run P (do pure (.value (← Instr.sliceAt t (a.eval x) (lo.map a.eval) (hi.map a.eval) none))) E.w):=by
 simp only [qh]at hs
 split at hs
 case h_2=>cases hs
 rename_i s lv hv hxv hlv hhv
 have hrx:=qB h.σ h1 hxv
 split at hs
 case h_2=>cases hs
 rename_i l hh hbl hbh
 split at hs
 case isFalse=>cases hs
 rename_i hle
 simp only [Option.some.injEq]at hs;subst hs
 have hl2:=Kh (a:=a) (ho:=none) h.σ hlo hlv hbl
 have hh2:=Kh (a:=a) (ho:=none) h.σ hhi hhv hbh
 simp only [Rel]at hrx
 have hb:=qfa (P:=P) (a:=a) (d0:=0) (isS:=false) (len:=s.size) (cap:=s.size) hl2 hh2 hle.1 (by omega) E.w
 have hrun:Sem.run P (do pure (.value (← Instr.sliceAt t (a.eval x) (lo.map a.eval) (hi.map a.eval) none)):Sem Next) E.w= .ok (.value (.string (s.extract l hh))) E.w:=by
  simp only [Instr.sliceAt,Sem.run_bind,zx hu,Result.andThen_ok,Instr.slice,hrx.1,Option.isSome_none,Bool.false_eq_true,if_false,hb,Sem.run_pure]
 rw [hrun]
 exact ze h hd (x7 rfl)
end
end Go.Vm
namespace Go.Vm
variable [Lay]
theorem qdm(n:Nat): ∀ (r c:Nat),c≤n+(n+768) / 4→Builtin.growBy n r c≤n+(n+768) / 4
 |0,c,h=>h
 |r+1,c,h=>by
  simp only [Builtin.growBy]
  split
  ·exact h
  ·exact qdm n r _ (by omega)
theorem qi2 {n old:Nat} (h:old < n):Builtin.nextslicecap n old≤2*n+192:=by
 unfold Builtin.nextslicecap
 split
 ·omega
 ·split
  ·omega
  ·have:=qdm n 4 old (by omega);omega
theorem qjc {l:List Value} (h:zO l): ∀ u ∈ l,u.oneCell'=true:=fun u hu=>by have:=h u hu;cases u<;>simp_all [Value.oneCell,Value.oneCell']
theorem qa8 {E:Env} {e:Nat}: ∀ {xs:List V} {ys:List Value} {c:Cnt},ql E e xs ys c→zO ys
 |[],ys,c,h=>by simp only [ql]at h;rw [h.1];intro z hz;cases hz
 |x::xs,ys,c,h=>by
  simp only [ql]at h
  obtain ⟨y,t,c1,c2,rfl,-,-,ho,-,h2,-⟩:=h
  intro z hz
  rcases List.mem_append.1 hz with hz|hz
  ·exact ho z hz
  ·exact qa8 h2 z hz
section
variable {P:Program} {N:Nat} {E:Env} {c:Cnt} {st st':St} {a:Act} {d:Nat} {call:qS}
theorem cz {x y z:Cnt} (h:x=qg y z) (hx:x=c0):y=c0∧z=c0:=by
 subst hx
 exact ⟨funext fun b=>by have:=congrFun h b;simp only [c0,qg]at this ⊢;omega,funext fun b=>by have:=congrFun h b;simp only [c0,qg]at this ⊢;omega⟩
theorem qcX {T:Mem} {x:V} {v:Value} {e:Nat} {ys:List V} {sh:Bool} (hT:qn E T c) (hx:Rel E x v c0) (he:xV T e x=some ys) (hz:ya ys=true)
 (hl:ys.all (fun y=>y.cells.length==e)=true):
 ∃ news,ql E e ys news c0∧((v= .slice none 0 0∧ys=[])∨ ∃ A cap,v= .slice (some A) ys.length cap∧ ∀ j u,news[j]? =some u→E.w.cell? (A.add j)=some u)∨(ys=[]∧ ∃ A cap,v= .slice A 0 cap∧ql E e ys [] c0∧news=[]):=by
 unfold xV at he
 split at he
 ·rename_i k lo len
  split at he
  case h_2=>cases he
  rename_i ob hg
  split at he
  case isFalse=>cases he
  rename_i hh
  simp only [Option.some.injEq]at he;subst he
  simp only [Rel]at hx
  obtain ⟨-,⟨A0,hμ,rfl,rfl,rfl⟩|⟨b,base,e',lim,cap,A,hμ,hcap,hroom,hpos,hA,rfl⟩⟩:=hx
  ·exact ⟨[],.inr ⟨by simp,A0,0,rfl,by simp [ql],rfl⟩⟩
  ·obtain ⟨c1,c2,ho,-,-⟩:=zW hT hg
   rcases ho with ⟨_,_,_,_,q1,-⟩|⟨⟨A0,q1⟩,-⟩|⟨b2,base2,lim2,cells,ty,fz,c3,q1,hw,hsz,hf,hs,hr,-⟩
   ·rw [q1]at hμ;cases hμ
   ·rw [q1]at hμ;cases hμ
   ·rw [q1]at hμ;cases hμ
    obtain ⟨f1,f2,h1,h2,hq⟩:=x6 lo hr
    obtain ⟨f3,f4,h3,h4,hq'⟩:=x6 len h2
    have h0:=qeU h3 hz
    subst h0
    have hm:lo*ob.1+len*ob.1≤ob.2.length*ob.1:=by rw [← Nat.add_mul];exact Nat.mul_le_mul_right _ hh.2
    rw [kG hm,hh.1]at h3
    have hlen:((ob.2.drop lo).take len).length=len:=by simp;omega
    rcases hA with hA|hA
    ·have h00:len=0:=by omega
     subst h00
     exact ⟨[],.inr ⟨by simp,some A,cap,by simp,by simp [ql],rfl⟩⟩
    ·refine ⟨_,.inl ⟨h3,.inr ⟨A,cap,by rw [hlen],fun j u hu=> ?_⟩⟩⟩
     rw [hA,xP,Qz hw,hh.1]
     exact Qa hu
 ·rename_i τ xs
  simp only [Option.some.injEq]at he;subst he
  simp only [Rel]at hx
  obtain ⟨-,A,cap,rfl,hcap,hR⟩:=hx
  rcases hR with rfl|⟨b,base,e',cells,ty,fz,rfl,hI,hw,hR⟩
  ·exact ⟨[],.inr ⟨rfl,A,cap,by simp,by simp [ql],rfl⟩⟩
  ·cases xs with
   |nil=>exact ⟨[],.inr ⟨rfl,some ⟨b,base,none⟩,cap,by simp,by simp [ql],rfl⟩⟩
   |cons x0 xs0=>
    have hee:e'=e:=by
     have hR':=hR
     simp only [ql]at hR'
     obtain ⟨y,t,c1,c2,-,-,hl0,-⟩:=hR'
     simp only [List.all_cons,Bool.and_eq_true,beq_iff_eq]at hl
     omega
    subst hee
    exact ⟨_,.inl ⟨zZ hR (xY E c0),.inr ⟨_,cap,rfl,fun j u hu=>by rw [xP,Qz hw];exact Qa hu⟩⟩⟩
 ·simp only [Option.some.injEq]at he;subst he
  simp only [Rel]at hx
  exact ⟨[],.inl ⟨by simp [ql],.inl ⟨hx.1,rfl⟩⟩⟩
 ·cases he
theorem Q1 {v:Value} {e:Nat} {ys:List V} {tx e':TypeId} (hk:P.underlying tx=some (.slice e')) {news:List Value} {cc:Cnt} (hR:ql E e ys news cc)
 (hv:(v= .slice none 0 0∧ys=[])∨(∃ A cap,v= .slice (some A) ys.length cap∧ ∀ j u,news[j]? =some u→E.w.cell? (A.add j)=some u)∨(ys=[]∧ ∃ A cap,v= .slice A 0 cap)):
 Src P e tx v ys.length news E.w:=by
 have hl:=jc hR
 have ho:=qjc (qa8 hR)
 rcases hv with ⟨rfl,rfl⟩|⟨A,cap,rfl,h⟩|⟨rfl,A,cap,rfl⟩
 ·simp only [List.length_nil,Nat.zero_mul,List.length_eq_zero_iff]at hl;subst hl;exact Src.ofNil E.w hk 0
 ·exact Src.ofSlice E.w hk A _ _ news hl h ho
 ·simp only [List.length_nil,Nat.zero_mul,List.length_eq_zero_iff]at hl;subst hl
  cases A with
  |none=>exact Src.ofNil E.w hk cap
  |some A=>exact Src.ofSlice E.w hk A 0 cap [] (by simp) (fun j u h=>by simp at h) (fun u h=>by cases h)
theorem qdw(d:Nat) (xs ys:List V):qz d (xs++ys)=qz d xs++qz d ys:=by induction xs<;>simp_all [qz]
theorem qgU {T:Mem} {x:V} {v:Value} {e:Nat} {ys:List V} {tx e':TypeId} (hk:P.underlying tx=some (.slice e')) (hT:qn E T c) (hx:Rel E x v c0) (he:xV T e x=some ys) (hz:ya ys=true)
 (hl:ys.all (fun y=>y.cells.length==e)=true): ∃ news,ql E e ys news c0∧Src P e tx v ys.length news E.w:=by
 obtain ⟨news,⟨h1,h2⟩|⟨h1,A,cap,h2,h3,h4⟩⟩:=qcX (sh:=true) hT hx he hz hl
 ·rcases h2 with h2|h2
  ·exact ⟨news,h1,Q1 hk h1 (.inl h2)⟩
  ·exact ⟨news,h1,Q1 hk h1 (.inr (.inl h2))⟩
 ·exact ⟨[],h3,Q1 hk h3 (.inr (.inr ⟨h1,A,cap,h2⟩))⟩
theorem qgT {T T':Mem} {x:V} {v:Value} {e:Nat} {ys:List V} {tx e':TypeId} (hk:P.underlying tx=some (.slice e')) (hT:qn E T c) (hx:Rel E x v c0) (he:kN T e x=some (ys,T')):
 ∃ news cy cT,ql E e ys news cy∧Src P e tx v ys.length news E.w∧qn E T' cT∧cle (qg cy cT) c:=by
 unfold kN at he
 split at he
 ·simp only [Option.some.injEq,Prod.mk.injEq]at he
  obtain ⟨rfl,rfl⟩:=he
  simp only [Rel]at hx
  exact ⟨[],c0,c,by simp [ql],Q1 hk (cc:=c0) (E:=E) (by simp [ql]) (.inl ⟨hx.1,rfl⟩),hT,by rw [qV];exact qH _⟩
 ·rename_i k lo len
  split at he
  case h_2=>cases he
  rename_i ob hg
  split at he
  case isFalse=>cases he
  rename_i hh
  simp only [Option.some.injEq,Prod.mk.injEq]at he
  obtain ⟨rfl,rfl⟩:=he
  obtain ⟨e1,e2,ho,hrest,rfl⟩:=zW hT hg
  simp only [Rel]at hx
  obtain ⟨-,⟨A0,hμ,rfl,rfl,rfl⟩|⟨b,base,e',lim,cap,A,hμ,hcap,hroom,hpos,hA,rfl⟩⟩:=hx
  ·exact ⟨[],c0,e2,by simp [ql],Q1 hk (cc:=c0) (E:=E) (by simp [ql]) (.inr (.inr ⟨by simp,A0,0,rfl⟩)),hrest,by rw [qV];exact yx _ _⟩
  ·rcases ho with ⟨_,_,_,_,q1,-⟩|⟨⟨A0,q1⟩,-⟩|⟨b2,base2,lim2,cells,ty,fz,c3,q1,hw,hsz,hf,hs,hr,rfl⟩
   ·rw [q1]at hμ;cases hμ
   ·rw [q1]at hμ;cases hμ
   ·rw [q1]at hμ;cases hμ
    obtain ⟨f1,f2,h1,h2,rfl⟩:=x6 lo hr
    obtain ⟨f3,f4,h3,h4,rfl⟩:=x6 len h2
    have hm:lo*ob.1+len*ob.1≤ob.2.length*ob.1:=by rw [← Nat.add_mul];exact Nat.mul_le_mul_right _ hh.2
    rw [kG hm,hh.1]at h3
    have hlen:((ob.2.drop lo).take len).length=len:=by simp;omega
    have hcle:cle (qg f3 e2) (qg (qg (qv b) (qg f1 (qg f3 f4))) e2):=fun u=>by simp only [qg];omega
    rcases hA with hA|hA
    ·have h00:len=0:=by omega
     subst h00
     exact ⟨[],c0,e2,by simp [ql],Q1 hk (cc:=c0) (E:=E) (by simp [ql]) (.inr (.inr ⟨by simp,some A,cap,by simp⟩)),hrest,by rw [qV];exact yx _ _⟩
    ·refine ⟨_,f3,e2,h3,Q1 hk h3 (.inr (.inl ⟨A,cap,by rw [hlen],fun j u hu=> ?_⟩)),hrest,hcle⟩
     rw [hA,xP,Qz hw,hh.1]
     exact Qa hu
 ·cases he
theorem Grew.drew {w:World} {o:Obj}:Grew w o (w.drew.alloc o):=⟨rfl,rfl,rfl,rfl⟩
theorem qkO {x y:Operand} {hx hy x' y':AO} {t tx ty et ex:TypeId} {ei:TypeInfo} {z:Value} (h1:trO x hx=some x') (h2:trO y hy=some y')
 (ht:P.underlying t=some (.slice et)) (hi:P.info? et=some ei) (hzero:ei.zero=some z) (hk:P.underlying tx=some (.slice ex)) (hb:ei.bytes≤1048576) (hzs:z.cells.size=ei.size)
 (hs:qh call st (.app d ei.size ei.bytes x' y')=some st') (h:FRel N E st a.tmps c) (hd:d < N):
 zp N E c st' a (some d) (Sem.run P (do pure (.value (← Builtin.append_ #[t,tx] ty #[a.eval x,a.eval y]))) E.w):=by
 simp only [qh]at hs
 split at hs
 case h_2=>cases hs
 rename_i xv yv hxv hyv
 have hrx:=qB h.σ h1 hxv
 have hry:=qB h.σ h2 hyv
 split at hs
 case h_2=>cases hs
 rename_i ys Ty hys
 split at hs
 case h_2=>cases hs
 rename_i xs T' hxs
 split at hs
 case isFalse=>cases hs
 rename_i hcond
 simp only [Bool.and_eq_true,decide_eq_true_eq]at hcond
 obtain ⟨⟨hall,hbytes⟩,hlim⟩:=hcond
 simp only [Option.some.injEq]at hs;subst hs
 have hall':ys.all (fun y=>y.cells.length==ei.size)=true:=by
  rw [List.all_eq_true]at hall ⊢
  intro u hu;have:=hall u hu;simp only [Bool.and_eq_true]at this;exact this.2
 have hy: ∃ news cy cY,ql E ei.size ys news cy∧Src P ei.size tx (a.eval y) ys.length news E.w∧qn E Ty cY∧cle (qg cy cY) c:=by
  unfold ZH at hys
  split at hys
  case h_2=>cases hys
  rename_i ys' hel
  split at hys
  ·rename_i hz
   simp only [Option.some.injEq,Prod.mk.injEq]at hys
   obtain ⟨rfl,rfl⟩:=hys
   obtain ⟨news,hnR,hsrc⟩:=qgU (P:=P) hk h.T hry hel hz hall'
   exact ⟨news,c0,c,hnR,hsrc,h.T,by rw [qV];exact qH _⟩
  ·exact qgT (P:=P) hk h.T hry hys
 obtain ⟨news,cy,cY,hnR,hsrc,hTY,hcleY⟩:=hy
 have hnl:=jc hnR
 have hx: ∃ cx cr,qn E T' cr∧cle (qg cx cr) cY∧
  ((∃ A0,a.eval x= .slice A0 0 0∧xs=[]∧cx=c0)∨
   ∃ b base lim cap A cells tyb fz cxs,a.eval x= .slice (some A) xs.length cap∧xs.length≤cap∧base+cap*ei.size≤lim∧0 < cap∧A=⟨b,base,none⟩∧
    E.w.heap[b]? =some (.cells cells tyb fz)∧cells.size=lim∧jA fz cells.size∧ql E ei.size xs (seg cells base (xs.length*ei.size)) cxs∧cx=qg (qv b) cxs):=by
  unfold kN at hxs
  split at hxs
  ·simp only [Option.some.injEq,Prod.mk.injEq]at hxs
   obtain ⟨rfl,rfl⟩:=hxs
   simp only [Rel]at hrx
   exact ⟨c0,cY,hTY,by rw [qV];exact qH _,.inl ⟨none,hrx.1,rfl,rfl⟩⟩
  ·rename_i k lo len
   split at hxs
   case h_2=>cases hxs
   rename_i ob hg
   split at hxs
   case isFalse=>cases hxs
   rename_i hh
   simp only [Option.some.injEq,Prod.mk.injEq]at hxs
   obtain ⟨rfl,rfl⟩:=hxs
   obtain ⟨e1,e2,ho,hrest,rfl⟩:=zW hTY hg
   simp only [Rel]at hrx
   obtain ⟨-,⟨A0,hμ,rfl,rfl,he⟩|⟨b,base,e',lim,cap,A,hμ,hcap,hroom,hpos,hA,he⟩⟩:=hrx
   ·exact ⟨c0,e2,hrest,by rw [qV];exact yx _ _,.inl ⟨A0,he,by simp,rfl⟩⟩
   by_cases hc0:cap=0
   ·have hl0:len=0:=by omega
    subst hc0;subst hl0
    exact ⟨c0,e2,hrest,by rw [qV];exact yx _ _,.inl ⟨some A,he,by simp,rfl⟩⟩
   replace hA:=hA.resolve_left hc0
   ·rcases ho with ⟨_,_,_,_,q1,-⟩|⟨⟨A0,q1⟩,-⟩|⟨b2,base2,lim2,cells,tyb,fz,c3,q1,hw,hsz,hf,hsp,hr,rfl⟩
    ·rw [q1]at hμ;cases hμ
    ·rw [q1]at hμ;cases hμ
    ·rw [q1]at hμ;cases hμ
     obtain ⟨f1,f2,g1,g2,rfl⟩:=x6 lo hr
     obtain ⟨f3,f4,g3,g4,rfl⟩:=x6 len g2
     have hm:lo*ob.1+len*ob.1≤ob.2.length*ob.1:=by rw [← Nat.add_mul];exact Nat.mul_le_mul_right _ hh.2
     rw [kG hm]at g3
     have hlen:((ob.2.drop lo).take len).length=len:=by simp;omega
     refine ⟨qg (qv b) f3,e2,hrest, ?_,.inr ⟨b,base+lo*ob.1,lim,cap,A,cells,tyb,fz,f3,by rw [hlen];exact he,by rw [hlen];exact hcap, ?_,by omega,hA,hw,hsz,hf, ?_,rfl⟩⟩
     ·intro u;simp only [qg];omega
     ·rw [← hh.1];have:=Nat.add_mul lo cap ob.1;omega
     ·rw [hlen, ← hh.1];exact g3
  ·cases hxs
 obtain ⟨cx,cr,hT',hcle,hx⟩:=hx
 obtain ⟨c1,hσ1,hT1,hle1⟩:=Qe (st:={st with T:=T'}) d h.σ hT'
 have hg:Good E (qg (qg cx cy) cr):=h.g.le fun u=>by have:=hcle u;have:=hcleY u;simp only [qg]at*;omega
 have hnR1:=K3 (d:=d) hnR
 have hcc:cle (qg (qg cx cy) c1) c:=fun u=>by have:=hcle u;have:=hle1 u;have:=hcleY u;simp only [qg]at*;omega
 have hgrow: ∀ (A:Option Addr) (cap:Nat) (olds:List Value) (cxs:Cnt),a.eval x= .slice A xs.length cap→cap < xs.length+ys.length→ql E ei.size xs olds cxs→cle cxs cx→
  (Builtin.firstCells ei.size xs.length (.slice A xs.length cap)).run P E.w.drew= .ok olds.toArray E.w.drew→
  zp N E c {σ:=(d,.s (d,0) 0 (xs.length+ys.length))::(q9 d {st with T:=T'}).σ,T:=((d,0),ei.size,qz d (xs++ys))::(q9 d {st with T:=T'}).T} a (some d)
   (Sem.run P (do pure (.value (← Builtin.append_ #[t,tx] ty #[a.eval x,a.eval y]))) E.w):=by
  intro A cap olds cxs he hcap hR hcxs hfirst
  have hnc:=qi2 hcap
  have hrun:=run_append_grow_src (P:=P) E.w t tx ty et ei z ht hi hzero A xs.length cap olds hfirst (a.eval y) ys.length news hsrc hcap
   (by simp only [lim]at hlim;omega)
   (by
    simp only [lim]at hbytes
    have h1:Builtin.nextslicecap (xs.length+ys.length) cap*ei.bytes≤(2*(xs.length+ys.length)+192)*ei.bytes:=Nat.mul_le_mul_right _ hnc
    have h2:(2*(xs.length+ys.length)+192)*ei.bytes=2*((xs.length+ys.length)*ei.bytes)+192*ei.bytes:=by rw [Nat.add_mul,Nat.mul_assoc]
    omega)
  rw [he]
  simp only [Sem.run_bind,hrun,Result.andThen_ok,Sem.run_pure]
  have hge:=grownCap_ge E.w (xs.length+ys.length) cap et
  have hol:=jc hR
  have hRR:=QT (K3 (d:=d) hR) hnR1
  rw [← qdw]at hRR
  have hseg:seg ((olds++news).toArray++Builtin.zeroCells z.cells (grownCap E.w (xs.length+ys.length) cap et - (xs.length+ys.length))) 0 ((qz d (xs++ys)).length*ei.size)=olds++news:=by
   have hl:(olds++news).length=(qz d (xs++ys)).length*ei.size:=by rw [kU,List.length_append,List.length_append,hol,hnl,Nat.add_mul]
   simp only [seg,List.drop_zero,Array.toList_append, ← hl,List.take_left]
  rw [← hseg]at hRR
  have hfit:(qz d (xs++ys)).length*ei.size≤((olds++news).toArray++Builtin.zeroCells z.cells (grownCap E.w (xs.length+ys.length) cap et - (xs.length+ys.length))).size:=by
   simp only [Array.size_append,List.size_toArray,List.length_append,hol,hnl,kU,Nat.add_mul];omega
  obtain ⟨E',c',hw,hks,hμ,hF,hA,hc⟩:=qap (d:=d) (tmps:=a.tmps) (ty:=et) (fz:=(0,0)) (E:=E.drop d) h.sz hσ1 hT1 (kz E d) hfit hRR
   ((hg.drop d).le fun u=>by have:=hcxs u;have:=hle1 u;simp only [qg]at*;omega) (.inr (Nat.le_refl _)) Grew.drew
  refine ⟨E',c',hw,jx hks, ?_,ZG (c1:=qg (qg cxs cy) c1) ⟨hA.sizes,hA.os,hA.tape,hA.output,hA.size,hA.frame,hA.sub,hA.own,hA.imm⟩ fun u=>by have:=hcc u;have:=hcxs u;simp only [qg]at*;omega⟩
  refine hF.put (x:= .s (d,0) 0 (xs.length+ys.length)) ?_ hd
  simp only [Rel]
  refine ⟨by trivial,.inr ⟨_,0,ei.size,_,grownCap E.w (xs.length+ys.length) cap et,_,hμ,hge, ?_,fun _=>by omega,.inr (by simp [Env.drop]),rfl⟩⟩
  simp only [Array.size_append,List.size_toArray,List.length_append,hol,hnl,Builtin.zeroCells,Array.size_map,Array.size_range,hzs]
  rw [← Nat.add_mul, ← Nat.add_mul,Nat.zero_add,Nat.zero_add,show xs.length+ys.length+(grownCap E.w (xs.length+ys.length) cap et - (xs.length+ys.length))=grownCap E.w (xs.length+ys.length) cap et by omega]
  exact Nat.le_refl _
 rcases hx with ⟨A0,he,rfl,rfl⟩|⟨b,base,lim0,cap,A,cells,tyb,fz,cxs,he,hcap,hroom,hpos,hA,hw,hsz,hf,hr,rfl⟩
 ·
  by_cases hn:ys=[]
  ·subst hn
   have hrun:Sem.run P (Builtin.append_ #[t,tx] ty #[a.eval x,a.eval y]) E.w= .ok (.slice A0 0 0) E.w:=by
    have hnews:news=[]:=by simpa using hnl
    have hl:=hsrc.len E.w
    have hc:=hsrc.cells
    rw [hnews]at hc
    simp only [List.length_nil]at hl hc
    rw [he]
    cases A0<;>simp [Builtin.append_,zx ht,zx hk,sizeOf,typeInfo,hi,hl,hc,storeCells]
   simp only [Sem.run_bind,hrun,Result.andThen_ok,Sem.run_pure]
   have hn:=j6 (d:=d) (j:=0) (E:=E.drop d) (fun i _=>kz E d i) (.emp A0)
   refine ⟨(E.drop d).name (d,0) (.emp A0),c1,rfl,jx hn.hout,⟨by simpa [Act.put]using h.sz, ?_, ?_, ?_⟩, ?_⟩
   ·refine QX (xq hσ1 (hn.mono _)) ?_ (by rw [h.sz];exact hd)
    simp only [Rel];exact ⟨by trivial,.inl ⟨A0,by simp [Env.name],by trivial,by simp,by trivial⟩⟩
   ·exact ⟨c0,c1,.inr (.inl ⟨⟨A0,by simp [Env.name]⟩,by simp [qz],rfl⟩),zH hT1 (hn.mono _),(qV _).symm⟩
   ·exact jw (E:=E.drop d) rfl rfl (fun u=>by have:=hcc u;simp only [qg,c0]at this;omega) (h.g.drop d)
   ·exact kM (E:=E) rfl rfl (fun u=>by have:=hcc u;simp only [qg,c0]at this;omega)
  ·have hpos:0 < ys.length:=List.length_pos_iff.2 hn
   refine hgrow A0 0 [] c0 he (by simpa using hpos) (by simp [ql]) (Kk _) ?_
   cases A0 with
   |none=>exact run_firstCells_none E.w.drew ei.size 0 0 0
   |some A1=>exact run_firstCells_some E.w.drew ei.size 0 A1 0 0 [] (by simp) (fun j v h=>by simp at h)
 ·by_cases hc:xs.length+ys.length≤cap
  ·
   have hxl:xs.length*ei.size+ys.length*ei.size≤cap*ei.size:=by rw [← Nat.add_mul];exact Nat.mul_le_mul_right _ hc
   have hstore: ∃ w' cells',(storeCells (A.add (xs.length*ei.size)) news).run P E.w= .ok () w'∧Wrote E.w b cells' w'∧cells'.toList=zg cells.toList (base+xs.length*ei.size) news:=by
    ·rw [hA,xP]
     have:=qbi (P:=P) (b:=b) (o:=base+xs.length*ei.size) news 0 E.w cells hw hf (by rw [hnl];omega) (qa8 hnR)
     simpa using this
   obtain ⟨w',cells',hrs,hW,hc'⟩:=hstore
   have hrun:Sem.run P (Builtin.append_ #[t,tx] ty #[a.eval x,a.eval y]) E.w= .ok (.slice (some A) (xs.length+ys.length) cap) w':=by
    rw [he]
    simp [Builtin.append_,zx ht,zx hk,sizeOf,typeInfo,hi,hsrc.len,hc,hsrc.cells,hrs]
   simp only [Sem.run_bind,hrun,Result.andThen_ok,Sem.run_pure]
   have hg1:Good (E.drop d) (qg (qg (qv b) (qg cxs cy)) c1):=(h.g.drop d).le fun u=>by have:=hcc u;simp only [qg]at*;omega
   obtain ⟨hmono,hσ',hgood,hadv⟩:=qaq (N:=N) (T':=[]) hσ1 hg1 hW
   have hn:=j6 (d:=d) (j:=0) (E:={E.drop d with w:=w'}) (fun i _=>kz E d i) (.at b base ei.size lim0)
   have hcl:cells.toList.length=cells.size:=Array.length_toList
   have hnewcells:cells'.size=cells.size:=by
    rw [← Array.length_toList,hc',Jk (by rw [hnl,hcl];omega),hcl]
   have hRR:=QT (zZ (K3 (d:=d) hr) (hmono cxs fun u=>by simp only [qg];omega)) (zZ hnR1 (hmono cy fun u=>by simp only [qg];omega))
   rw [← qdw]at hRR
   have hseg:seg cells base (xs.length*ei.size)++news=seg cells' base ((qz d (xs++ys)).length*ei.size):=by
    have hlen:(qz d (xs++ys)).length*ei.size=xs.length*ei.size+ys.length*ei.size:=by rw [kU,List.length_append,Nat.add_mul]
    have q:=qfm (cells:=cells) (cells':=cells') (base:=base) (n:=xs.length*ei.size+ys.length*ei.size) (o:=xs.length*ei.size) (vs:=news) hc' (by omega) (by omega)
    rw [hlen,q]
    have hsl:(seg cells base (xs.length*ei.size+ys.length*ei.size)).length=xs.length*ei.size+ys.length*ei.size:=XJ (by omega)
    have e1:(seg cells base (xs.length*ei.size+ys.length*ei.size)).take (xs.length*ei.size)=seg cells base (xs.length*ei.size):=by
     rw [qfl];congr 1;omega
    simp only [zg,e1]
    rw [List.drop_eq_nil_of_le (by omega),List.append_nil]
   rw [hseg]at hRR
   refine ⟨{E.drop d with w:=w'}.name (d,0) (.at b base ei.size lim0),qg (qg (qv b) (qg cxs cy)) c1,rfl,jx hn.hout,⟨by simpa [Act.put]using h.sz, ?_, ?_, ?_⟩, ?_⟩
   ·refine QX (xq hσ' (hn.mono _)) ?_ (by rw [h.sz];exact hd)
    simp only [Rel]
    exact ⟨by trivial,.inr ⟨b,base,ei.size,lim0,cap,A,by simp [Env.name],hc,by simpa using hroom,fun _=>hpos,by simpa using Or.inr hA,rfl⟩⟩
   ·refine ⟨qg (qv b) (qg cxs cy),c1,.inr (.inr ⟨b,base,lim0,cells',tyb,fz,qg cxs cy,by simp [Env.name],(hW.self _ _ _ hw).1,by omega,by rw [hnewcells];exact hf, ?_,zZ hRR (hn.mono _),rfl⟩),zH (zH hT1 (hmono c1 (yx _ _))) (hn.mono _),rfl⟩
    show base+(qz d (xs++ys)).length*ei.size≤lim0
    rw [kU,List.length_append,Nat.add_mul];omega
   ·exact jw (E:={E.drop d with w:=w'}) rfl rfl (qH _) hgood
   ·have hadv':Adv E (qg (qg (qv b) (qg cxs cy)) c1) ({E.drop d with w:=w'}.name (d,0) (.at b base ei.size lim0)) (qg (qg (qv b) (qg cxs cy)) c1):=
     ⟨hadv.sizes,hadv.os,hadv.tape,hadv.output,hadv.size,hadv.frame,hadv.sub,hadv.own,hadv.imm⟩
    exact ZG hadv' fun u=>by have:=hcc u;simp only [qg]at*;omega
  ·refine hgrow (some A) cap _ cxs he (by omega) hr (yx _ _) ?_
   have hsl:(seg cells base (xs.length*ei.size)).length=xs.length*ei.size:=by
    apply XJ
    have:xs.length*ei.size≤cap*ei.size:=Nat.mul_le_mul_right _ hcap
    omega
   ·exact run_firstCells_some E.w.drew ei.size xs.length A xs.length cap _ hsl (fun j v hv=>by
     rw [hA,xP]
     have:=Qz (o:=base+j) hw
     have h3:E.w.drew.cell? ⟨b,base+j,none⟩=E.w.cell? ⟨b,base+j,none⟩:=rfl
     rw [h3,this];exact Qa hv)
end
end Go.Vm
namespace Go.Vm
variable [Lay]
theorem qdd(off:Nat): ∀ (l:List Value) (k:Nat) (cs:Array Value),off+k+l.length≤cs.size→
 ((l.zipIdx k).foldl (fun cs (x:Value × Nat)=>cs.setIfInBounds (off+x.2) x.1) cs).toList=zg cs.toList (off+k) l
 |[],k,cs,h=>by simp [zg]
 |v::l,k,cs,h=>by
  simp only [List.length_cons]at h
  simp only [List.zipIdx_cons,List.foldl_cons]
  rw [qdd off l (k+1) _ (by simp only [Array.size_setIfInBounds];omega),Array.toList_setIfInBounds, ← Nat.add_assoc,qfv (l:=cs.toList) (o:=off+k) (by rw [Array.length_toList];omega)]
theorem qc9(off:Nat) (v:Value) (cs:Array Value) (h:off+v.cells.size≤cs.size):
 (v.cells.zipIdx.foldl (fun cs (x:Value × Nat)=>cs.setIfInBounds (off+x.2) x.1) cs).toList=zg cs.toList off v.cells.toList:=by
 have:=qdd off v.cells.toList 0 cs (by rw [Array.length_toList];omega)
 rw [Nat.add_zero]at this
 rw [← this]
 congr 1
 rw [← Array.foldl_toList,Array.toList_zipIdx]
theorem qc8(size:Nat): ∀ (vs:List Value) (k:Nat) (cs:Array Value),(∀ v ∈ vs,v.cells.size=size)→(k+vs.length)*size≤cs.size→
 ∃ res,Instr.fill (fun i=>some (i*size,size)) cs ((List.range' k vs.length).zip vs)=some res∧
  res.toList=cs.toList.take (k*size)++vs.flatMap (fun v=>v.cells.toList)++cs.toList.drop ((k+vs.length)*size)
 |[],k,cs,h,hs=>⟨cs,by simp [Instr.fill],by simp⟩
 |v::vs,k,cs,h,hs=>by
  have hv:=h v (List.mem_cons_self)
  simp only [List.length_cons]at hs
  have hks:k*size+size≤cs.size:=by
   have:(k+1)*size≤(k+(vs.length+1))*size:=Nat.mul_le_mul_right _ (by omega)
   rw [Nat.add_mul,Nat.one_mul]at this;omega
  have hf:=qc9 (k*size) v cs (by omega)
  obtain ⟨res,h1,h2⟩:=qc8 size vs (k+1) (v.cells.zipIdx.foldl (fun cs (x:Value × Nat)=>cs.setIfInBounds (k*size+x.2) x.1) cs) (fun u hu=>h u (List.mem_cons_of_mem _ hu)) (by
   have hA: ∀ A:Array Value,A.size=A.toList.length:=fun A=>(Array.length_toList).symm
   have e1:=hA v.cells
   have e2:=hA cs
   have q1:(zg cs.toList (k*size) v.cells.toList).length=cs.toList.length:=Jk (by omega)
   have q3:(v.cells.zipIdx.foldl (fun cs (x:Value × Nat)=>cs.setIfInBounds (k*size+x.2) x.1) cs).size=cs.size:=by rw [hA,hf,q1];exact e2.symm
   rw [q3,show k+1+vs.length=k+(vs.length+1)by omega];exact hs)
  refine ⟨res, ?_, ?_⟩
  ·simp only [List.length_cons,List.range'_succ,List.zip_cons_cons,Instr.fill]
   rw [if_neg (by simp [hv];omega)]
   exact h1
  ·rw [h2,hf]
   have hvl:v.cells.toList.length=size:=by rw [Array.length_toList];exact hv
   have hcl:cs.toList.length=cs.size:=Array.length_toList
   have e1:(zg cs.toList (k*size) v.cells.toList).take ((k+1)*size)=cs.toList.take (k*size)++v.cells.toList:=by
    have hl:(cs.toList.take (k*size)++v.cells.toList).length=(k+1)*size:=by
     rw [List.length_append,List.length_take,hvl,Nat.add_mul,Nat.one_mul];omega
    unfold zg
    rw [← hl,List.take_left]
   have e2:(zg cs.toList (k*size) v.cells.toList).drop ((k+1+vs.length)*size)=cs.toList.drop ((k+(vs.length+1))*size):=by
    have hl:(cs.toList.take (k*size)++v.cells.toList).length=k*size+size:=by
     rw [List.length_append,List.length_take,hvl];omega
    have hx:(k+1+vs.length)*size=(k*size+size)+vs.length*size:=by rw [Nat.add_mul,Nat.add_mul,Nat.one_mul]
    unfold zg
    rw [hx, ← hl,List.drop_length_add_append,List.drop_drop,hvl]
    congr 1
    rw [show k+(vs.length+1)=k+1+vs.length by omega,hx]
   rw [e1,e2];simp
theorem qeT {E:Env} {e:Nat}: ∀ {ys:List V} {vs:List Value},qk E ys vs c0→ys.all (fun y=>zB y.cells&&y.cells.length==e)=true→
 ql E e ys (vs.flatMap fun v=>v.cells.toList) c0∧ ∀ v ∈ vs,v.cells.size=e
 |[],vs,h,ha=>by simp only [qk]at h;rw [h.1];exact ⟨by simp [ql],fun v hv=>by cases hv⟩
 |y::ys,vs,h,ha=>by
  simp only [qk]at h
  obtain ⟨v,t,d1,d2,rfl,h1,h2,hc⟩:=h
  obtain ⟨rfl,rfl⟩:=cz hc.symm.symm rfl
  simp only [List.all_cons,Bool.and_eq_true,beq_iff_eq]at ha
  obtain ⟨hs,ho⟩:=K9 h1 ha.1.1
  obtain ⟨h3,h4⟩:=qeT h2 (by rw [List.all_eq_true]at*;simpa using ha.2)
  refine ⟨?_,fun u hu=> ?_⟩
  ·simp only [List.flatMap_cons,ql]
   exact ⟨v,_,c0,c0,rfl,by omega,ha.1.2,ho,h1,h3,rfl⟩
  ·rcases List.mem_cons.1 hu with rfl|hu
   ·omega
   ·exact h4 u hu
theorem qdN(zero:Array Value): ∀ l:Nat,(List.range (l*zero.size)).map (fun j=>zero[j % zero.size]!)=(List.replicate l zero.toList).flatten
 |0=>by simp
 |l+1=>by
  rw [Nat.add_mul,Nat.one_mul,List.range_add,List.map_append,qdN zero l,List.replicate_succ',List.flatten_append,List.map_map]
  congr 1
  simp only [List.flatten_cons,List.flatten_nil,List.append_nil]
  apply List.ext_getElem?
  intro j
  simp only [List.getElem?_map,List.getElem?_range,Function.comp_def]
  by_cases hj:j < zero.size
  ·simp [hj,List.getElem?_range,Nat.mod_eq_of_lt hj]
  ·simp [hj]
section
variable {P:Program} {N:Nat} {E:Env} {c:Cnt} {st st':St} {a:Act} {d:Nat} {call:qS}
theorem qdf {E:Env} {o:Obj} {w':World} {c:Cnt} (hg:Good E c) (hw:Grew E.w o w'):
 Mono E {E with w:=w'} c∧Good {E with w:=w'} c∧Adv E c {E with w:=w'} c:=by
 have hold: ∀ b,b < E.w.heap.size→w'.heap[b]? =E.w.heap[b]? :=fun b hb=>by rw [hw.heap,Array.getElem?_push,if_neg (by omega)]
 have hsize:w'.heap.size=E.w.heap.size+1:=by rw [hw.heap];simp
 refine ⟨⟨fun τ b hb=>⟨hb,hold b (hg.imm τ b hb).2⟩,fun b hb=>hold b (hg.bnd b hb),fun k l h=>h⟩,
  ⟨hg.one,fun τ b hb=>⟨(hg.imm τ b hb).1, ?_⟩,hg.sub,fun b hb=> ?_,hg.lay.next (fun b hb=>hb) (fun b hb=>hold b (hg.imm false b hb).2)⟩,
  ⟨fun b n hn=> ?_,hw.os,hw.tape,hw.output, ?_,fun b hb _=>hold b hb,fun _ _ h=>h,fun b hb=> .inl hb,fun τ b hb=> .inl hb⟩⟩
 ·show b < w'.heap.size
  have:=(hg.imm τ b hb).2;omega
 ·show b < w'.heap.size
  have:=hg.bnd b hb;omega
 ·rw [Ki (hold b (J3 hn))];exact hn
 ·show E.w.heap.size≤w'.heap.size
  omega
theorem qfj {e:Nat} {ys:List V} {cells:Array Value} {ty:TypeId} {len cap:Nat} {w':World}
 (hR:ql E e ys (seg cells 0 (ys.length*e)) c0) (hle:ys.length*e≤cells.size) {fz:Nat × Nat} (hfz:jA fz cells.size) (hG:Grew E.w (.cells cells ty fz) w')
 (hlen:len=ys.length) (hcap:len≤cap) (hroom:cap*e≤cells.size) (h:FRel N E st a.tmps c) (hd:d < N):
 zp N E c {σ:=(d,.s (d,0) 0 len)::(q9 d st).σ,T:=((d,0),e,qz d ys)::(q9 d st).T} a (some d) (.ok (.value (.slice (some ⟨E.w.heap.size,0,none⟩) len cap)) w'):=by
 obtain ⟨c1,hσ1,hT1,hle1⟩:=Qe d h.σ h.T
 by_cases h0:cap=0
 ·have hl0:len=0:=by omega
  have hys:ys=[]:=List.length_eq_zero_iff.1 (by omega)
  subst h0;subst hys;subst hl0
  obtain ⟨m1,g1,a1⟩:=qdf (E:=E.drop d) ((h.g.drop d).le hle1) hG
  have hn:=j6 (d:=d) (j:=0) (E:={E.drop d with w:=w'}) (fun i _=>kz E d i) (.emp (some ⟨E.w.heap.size,0,none⟩))
  refine ⟨{E.drop d with w:=w'}.name (d,0) (.emp (some ⟨E.w.heap.size,0,none⟩)),c1,rfl,jx hn.hout,⟨by simpa [Act.put]using h.sz, ?_, ?_, ?_⟩, ?_⟩
  ·refine QX (xq (xq hσ1 (m1.le (Kk _))) (hn.mono _)) ?_ (by rw [h.sz];exact hd)
   simp only [Rel];exact ⟨by trivial,.inl ⟨some ⟨E.w.heap.size,0,none⟩,by simp [Env.name],by trivial,by trivial,by trivial⟩⟩
  ·exact ⟨c0,c1,.inr (.inl ⟨⟨some ⟨E.w.heap.size,0,none⟩,by simp [Env.name]⟩,by simp [qz],rfl⟩),zH (zH hT1 m1) (hn.mono _),(qV _).symm⟩
  ·exact jw (E:={E.drop d with w:=w'}) rfl rfl (qH _) g1
  ·have a2:Adv E c1 ({E.drop d with w:=w'}.name (d,0) (.emp (some ⟨E.w.heap.size,0,none⟩))) c1:=
    ⟨a1.sizes,a1.os,a1.tape,a1.output,a1.size,a1.frame,a1.sub,a1.own,a1.imm⟩
   exact ZG a2 hle1
 obtain ⟨E',c',hw,hks,hμ,hF,hA,hc⟩:=qap (d:=d) (xs:=qz d ys) (tmps:=a.tmps) (E:=E.drop d) h.sz hσ1 hT1 (kz E d) (by rw [kU];exact hle) (by rw [kU];exact K3 (d:=d) hR)
  ((h.g.drop d).le (by rw [qV];exact hle1)) hfz hG
 refine ⟨E',c',hw,jx hks, ?_,ZG (c1:=qg c0 c1) ⟨hA.sizes,hA.os,hA.tape,hA.output,hA.size,hA.frame,hA.sub,hA.own,hA.imm⟩ (by rw [qV];exact hle1)⟩
 refine hF.put (x:= .s (d,0) 0 len) ?_ hd
 simp only [Rel]
 exact ⟨by trivial,.inr ⟨_,0,e,_,cap,_,hμ,hcap,by simpa using hroom,fun _=>by omega,.inr (by simp [Env.drop]),rfl⟩⟩
theorem qk6 {parts:List Operand} {hp p':List AO} {t et:TypeId} {ei:TypeInfo} {z:Value} (h1:xM parts hp=some p')
 (ht:P.underlying t=some (.slice et)) (hi:P.info? et=some ei) (hzero:ei.zero=some z) (hzs:z.cells.size=ei.size) (hlim:parts.length*ei.size≤2 ^ 24)
 (hs:qh call st (.mks d ei.size p')=some st') (h:FRel N E st a.tmps c) (hd:d < N):
 zp N E c st' a (some d) (Sem.run P (do pure (.value (← Instr.buildSlice t parts.length ((List.range' 0 parts.length).zip (parts.map a.eval)).toArray))) E.w):=by
 simp only [qh]at hs
 split at hs
 case h_2=>cases hs
 rename_i ys hys
 split at hs
 case isFalse=>cases hs
 rename_i hall
 simp only [Option.some.injEq]at hs;subst hs
 have hL:=ZL h.σ h1 hys
 have hl:=yr hL
 simp only [List.length_map]at hl
 obtain ⟨hR,hsz⟩:=qeT hL hall
 have hRl:=jc hR
 let start:Array Value:=(Array.range (parts.length*ei.size)).map fun j=>(if parts.length*ei.size=0 then #[]else z.cells)[j % (if parts.length*ei.size=0 then #[]else z.cells).size]!
 have hst:start.size=parts.length*ei.size:=by simp [start]
 obtain ⟨res,hf,hres⟩:=qc8 ei.size (parts.map a.eval) 0 start hsz (by simp [hst])
 simp only [List.length_map,Nat.zero_add,Nat.zero_mul,List.take_zero,List.nil_append]at hf hres
 rw [List.drop_eq_nil_of_le (by rw [Array.length_toList,hst];exact Nat.le_refl _),List.append_nil]at hres
 have hrun:Sem.run P (Instr.buildSlice t parts.length ((List.range' 0 parts.length).zip (parts.map a.eval)).toArray) E.w=
  .ok (.slice (some ⟨E.w.heap.size,0,none⟩) parts.length parts.length) {E.w with heap:=E.w.heap.push (.cells res et)}:=by
  simp only [Instr.buildSlice,Sem.run_bind,zx ht,jC hi,Result.andThen_ok]
  rw [if_neg (by omega)]
  simp only [zeroValue,Sem.run_bind,Z2 hi,hzero,Result.andThen_ok,Sem.run_pure]
  by_cases h0:parts.length*ei.size=0
  ·simp only [start,if_pos h0]at hf
   simp only [h0,if_true,Sem.run_bind,Sem.run_pure,Result.andThen_ok]at hf ⊢
   rw [hf];rfl
  ·simp only [start,if_neg h0]at hf
   simp only [h0,if_false,Sem.run_bind,Z2 hi,hzero,Sem.run_pure,Result.andThen_ok]
   rw [hf];rfl
 simp only [Sem.run_bind,hrun,Result.andThen_ok,Sem.run_pure]
 have hrs:res.size=ys.length*ei.size:=by rw [← Array.length_toList,hres,hRl]
 have hseg:seg res 0 (ys.length*ei.size)=(parts.map a.eval).flatMap fun v=>v.cells.toList:=by rw [← hrs,qbk,hres]
 rw [hl]
 exact qfj (fz:=(0,0)) (by rw [hseg];exact hR) (by omega) (.inr (Nat.le_refl _)) ⟨rfl,rfl,rfl,rfl⟩ rfl (Nat.le_refl _) (by omega) h hd
end
end Go.Vm
namespace Go.Vm
variable [Lay]
section
variable {P:Program} {N:Nat} {E:Env} {c:Cnt} {st st':St} {a:Act} {d:Nat} {call:qS}
def qaU(P:Program) (t:TypeId):Option (List (Nat × Nat)):=
 match P.underlying t with
 |some (.struct fields)=>fields.toList.mapM (fun f=>(P.info? f.type).map fun i=>(f.offset,i.size))
 |_=>none
def trB(places:List (Nat × Nat)):List (Nat × Operand)→List AO→Option (List (Nat × Nat × AO))
 |[],[]=>some []
 |(i,x)::r,h::hs=>match places[i]?,trO x h,trB places r hs with
  |some p,some y,some ys=>some ((p.1,p.2,y)::ys)
  |_,_,_=>none
 |_,_=>none
theorem qkp {cs ys:List V} {zs vs:List Value} {off:Nat} (h:qk E cs zs c0) (hy:qk E ys vs c0) (hle:off+ys.length≤cs.length):
 qk E (cs.take off++ys++cs.drop (off+ys.length)) (zg zs off vs) c0:=by
 have hl:=yr hy
 obtain ⟨f0,f1,f2,g0,g1,g2,hq⟩:=XC h off ys.length hle
 have z0:f0=c0:=funext fun b=>by have:=congrFun hq b;simp only [c0,qg]at this ⊢;omega
 have z2:f2=c0:=funext fun b=>by have:=congrFun hq b;simp only [c0,qg]at this ⊢;omega
 subst z0;subst z2
 unfold zg
 rw [hl]
 exact x5 (x5 g0 hy) g2
theorem qc7 {places:List (Nat × Nat)} (hσ:zo E st.σ a.tmps): ∀ {parts:List (Nat × Operand)} {hp:List AO} {p':List (Nat × Nat × AO)} {cs cs':List V} {cells:Array Value},
 trB places parts hp=some p'→ku st.σ cs p'=some cs'→qk E cs cells.toList c0→
 ∃ cells',Instr.fill (places.toArray[·]?) cells (parts.map fun x=>(x.1,a.eval x.2))=some cells'∧qk E cs' cells'.toList c0
 |[],[],p',cs,cs',cells,h,hb,hr=>by
  simp only [trB,Option.some.injEq]at h;subst h
  simp only [ku,Option.some.injEq]at hb;subst hb
  exact ⟨cells,rfl,hr⟩
 |[],_::_,p',cs,cs',cells,h,hb,hr=>by simp [trB]at h
 |_::_,[],p',cs,cs',cells,h,hb,hr=>by simp [trB]at h
 |(i,x)::r,h'::hs,p',cs,cs',cells,h,hb,hr=>by
  simp only [trB]at h
  split at h
  case h_2=>cases h
  rename_i p y ys h1 h2 h3
  simp only [Option.some.injEq]at h;subst h
  simp only [ku]at hb
  split at hb
  case h_2=>cases hb
  rename_i z hz
  split at hb
  case isFalse=>cases hb
  rename_i hc
  obtain ⟨hnd,hlen,hle⟩:=hc
  have hx:=qB hσ h2 hz
  have hsz:=qba hx (by rintro rfl;simp [V.dead]at hnd)
  have hcl:=yr hr
  rw [Array.length_toList]at hcl
  have hfs:=qc9 p.1 (a.eval x) cells (by omega)
  have hsp:=qkp (off:=p.1) hr (ZX hx hsz) (by omega)
  rw [hlen, ← hfs]at hsp
  obtain ⟨cells',h4,h5⟩:=qc7 hσ h3 hb hsp
  refine ⟨cells', ?_,h5⟩
  have hpl:places.toArray[i]? =some p:=by simpa using h1
  simp only [List.map_cons,Instr.fill,hpl]
  rw [if_neg (by simp;omega)]
  exact h4
theorem qkQ {parts:Array (Nat × Operand)} {hp:List AO} {p':List (Nat × Nat × AO)} {t:TypeId} {places:List (Nat × Nat)} {it:TypeInfo} {z:Value} {hz zv:V}
 (hi:P.info? t=some it) (hzero:it.zero=some z) (hcv:cVL z.cells.toList hz.cells=some zv.cells) (hpl:qaU P t=some places) (h1:trB places parts.toList hp=some p')
 (hs:qh call st (.build d zv p')=some st') (h:FRel N E st a.tmps c) (hd:d < N):
 qE N E st st' (some d) (Sem.run P (do pure (.value (← Instr.build t (parts.map fun (i,x)=>(i,a.eval x))))) E.w):=by
 simp only [qh,Option.map_eq_some_iff]at hs
 obtain ⟨cs',hb,rfl⟩:=hs
 obtain ⟨cells',hf,hr⟩:=qc7 h.σ h1 hb (qa2 hcv)
 unfold qaU at hpl
 split at hpl
 case h_2=>cases hpl
 rename_i fields hu
 have hbuilt:P.built t (parts.map fun (i,x)=>(i,a.eval x)).toList=some cells':=by
  simp only [Program.built,hi,hu,hzero,hpl,Array.toList_map]
  exact hf
 simp only [Sem.run_bind,run_build E.w t _ _ hbuilt,Result.andThen_ok,Sem.run_pure]
 refine ze h hd ?_
 have:=XE hr
 simpa using this
theorem qeS {z:V} {zv:Value} {e:Nat} (hz:Rel E z zv c0) (hs:zv.cells.size=e) (hl:z.cells.length=e) (ho:zO zv.cells.toList):
 ∀ l:Nat,ql E e (List.replicate l z) (List.replicate l zv.cells.toList).flatten c0
 |0=>by simp [ql]
 |l+1=>by
  simp only [List.replicate_succ,List.flatten_cons,ql]
  exact ⟨zv,_,c0,c0,rfl,hs,hl,ho,hz,qeS hz hs hl ho l,rfl⟩
mutual
theorem qdA(d:Nat): ∀ x:V,clB x=true→qA d x=x
 | .v _,_=>rfl
 | .q ..,_=>rfl
 | .i ..,_=>rfl
 | .o ..,_=>rfl
 | .b _,_=>rfl
 | .f fn first caps,h=>by
   simp only [clB,Bool.and_eq_true]at h
   simp only [qA,KG d first h.1,KG d caps h.2]
 | .p ..,h=>by simp [clB]at h
 | .s ..,h=>by simp [clB]at h
 | .n _,_=>rfl
 | .w ..,_=>rfl
 | .m _,h=>by simp [clB]at h
 | .a _,h=>by simp [clB]at h
 | .t _,h=>by simp [clB]at h
 | .d,h=>by simp [clB]at h
theorem KG(d:Nat): ∀ xs:List V,yI xs=true→qz d xs=xs
 |[],_=>rfl
 |x::xs,h=>by
  simp only [yI,Bool.and_eq_true]at h
  simp only [qz,qdA d x h.1,KG d xs h.2]
end
theorem qhu {z:V} (h:clE z=true):qA d z=z:=by
 cases z<;>first|exact qdA d _ h|(simp only [clE]at h;simp only [qA,KG d _ h])
theorem qdx {z:V} (hz:clE z=true): ∀ l:Nat,qz d (List.replicate l z)=List.replicate l z
 |0=>rfl
 |l+1=>by
  have hk:qA d z=z:=qhu hz
  simp only [List.replicate_succ,qz,hk,qdx hz l]
theorem qk4 {x y:Operand} {hx hy x' y':AO} {t et:TypeId} {ei:TypeInfo} {z:Value} {hz zv:V} (h1:trO x hx=some x') (h2:trO y hy=some y')
 (ht:P.underlying t=some (.slice et)) (hi:P.info? et=some ei) (hzero:ei.zero=some z) (hcv:cV z hz=some zv) (hzs:z.cells.size=ei.size)
 (hs:qh call st (.mk d ei.size zv ei.bytes x' y')=some st') (h:FRel N E st a.tmps c) (hd:d < N):
 zp N E c st' a (some d) (Sem.run P (do pure (.value (← Instr.makeSlice t (a.eval x) (a.eval y)))) E.w):=by
 simp only [qh]at hs
 split at hs
 case h_2=>cases hs
 rename_i kl l kc cp hl hc
 have hrl:=qB h.σ h1 hl
 have hrc:=qB h.σ h2 hc
 simp only [Rel]at hrl hrc
 split at hs
 case isFalse=>cases hs
 rename_i hcond
 obtain ⟨h0,heq,hbytes,hlim,hlen,hone,hcl⟩:=hcond
 simp only [Option.some.injEq]at hs;subst hs
 subst heq
 simp only [lim]at hbytes hlim
 have hb2:(ei.bytes:Int)*l≤281474976710656:=by rw [Int.mul_comm];omega
 have hrun:=run_make (P:=P) (w:=E.w) t et ei z ht hi hzero kl kc l l h0 (Int.le_refl _) hb2 (by omega)
 rw [hrl.1,hrc.1]
 simp only [Sem.run_bind,hrun,Result.andThen_ok,Sem.run_pure]
 have hz:=qa9 (E:=E) hcv
 obtain ⟨hzl,hzo⟩:=K9 hz hone
 have hR:=qeS hz hzs hlen hzo l.toNat
 have hcells:(madeCells z.cells (l.toNat*ei.size)).toList=(List.replicate l.toNat z.cells.toList).flatten:=by
  rw [← hzs,madeCells, ← qdN]
  simp
 have hsz:(madeCells z.cells (l.toNat*ei.size)).size=l.toNat*ei.size:=size_madeCells _ _
 have hseg:seg (madeCells z.cells (l.toNat*ei.size)) 0 ((List.replicate l.toNat zv).length*ei.size)=(List.replicate l.toNat z.cells.toList).flatten:=by
  rw [List.length_replicate, ← hcells]
  have:=qbk (madeCells z.cells (l.toNat*ei.size))
  rwa [hsz]at this
 have:=qfj (len:=l.toNat) (cap:=l.toNat) (st:=st) (a:=a) (d:=d) (fz:=(0,0)) (ty:=et) (w':=E.w.alloc (.cells (madeCells z.cells (l.toNat*ei.size)) et)) (by rw [hseg];exact hR) (by rw [List.length_replicate,hsz];exact Nat.le_refl _) (.inr (Nat.le_refl _)) ⟨rfl,rfl,rfl,rfl⟩ (by simp) (Nat.le_refl _) (by rw [hsz];exact Nat.le_refl _) h hd
 rw [qdx hcl]at this
 exact this
end
end Go.Vm
namespace Go.Vm
variable [Lay]
section
variable {P:Program} {N:Nat} {E:Env} {c:Cnt} {st st':St} {a:Act} {d:Nat} {call:qS}
def QY(P:Program) (t:TypeId):Option Nat:=
 match P.underlying t with
 |some (.int _)=>some 1
 |some .string=>some 2
 |some .bool=>some 3
 |_=>none
def Xf(P:Program):Nat→List Field→Option Nat
 |_,[]=>some 0
 |i,f::fs=>if f.name ≠ "_" ∧f.offset=i then (match QY P f.type,Xf P (i+1) fs with
  |some k,some c=>some (k+4*c)
  |_,_=>none)else none
def eqK(P:Program) (t:TypeId):Option Nat:=
 match P.underlying t with
 |some .bool=>some 0
 |some (.pointer _)=>some 1
 |some (.slice _)=>some 2
 |some (.func ..)=>some 3
 |some (.struct fs)=>if P.stoodInHeld t=false∧P.eqGuardType P.depth t=false then (Xf P 0 fs.toList).map (· +4)else none
 |_=>none
def kA(neg:Bool):BinOp:=if neg then .neq else .eql
theorem qg2(t:TypeId) (x y:Value):Op.equal t x y=Op.equalIn (9999+1) t x y:=rfl
theorem qkI {t:TypeId} {x y:Value} {r neg:Bool} {w:World} (h:(Op.equal t x y).run P w= .ok r w)
 (h1:binOp .eql t x y=(do pure (.bool (← Op.equal t x y)))) (h2:binOp .neq t x y=(do pure (.bool (!(← Op.equal t x y))))):
 (binOp (kA neg) t x y).run P w= .ok (.bool (r != neg)) w:=by
 cases neg
 ·simp only [kA,Bool.false_eq_true,if_false,h1,Sem.run_bind,h,Result.andThen_ok,Sem.run_pure];cases r<;>rfl
 ·simp only [kA,if_true,h2,Sem.run_bind,h,Result.andThen_ok,Sem.run_pure];cases r<;>rfl
theorem qfk {t:TypeId} {k:Nat} (h:QY P t=some k) (us:Array Value) (i:Nat) (u:Value) (hu:us[i]? =some u) (w:World):(part t us i).run P w= .ok u w:=by
 unfold QY at h
 have ha:(isAgg t).run P w= .ok false w:=by
  split at h<;>(first|(cases h;done)|skip)<;>rename_i hk<;>simp [isAgg,zx hk]
 unfold part
 simp only [Sem.run_bind,ha,Result.andThen_ok,Bool.false_eq_true,if_false,hu,Sem.run_pure]
theorem qfb(us vs:Array Value) (w:World): ∀ (fs:List Field) (i c:Nat) (xs ys:List V) (cx cy:Cnt) (r:Bool),Xf P i fs=some c→eqA c xs ys=some r→
 qk E xs (us.toList.drop i) cx→qk E ys (vs.toList.drop i) cy→(Op.eqFields 9999 us vs fs).run P w= .ok r w
 |[],i,c,xs,ys,cx,cy,r,hf,he,hx,hy=>by
  simp only [Xf,Option.some.injEq]at hf
  subst hf
  unfold eqA at he
  split at he<;>(first|(cases he;done)|skip)
  ·simp only [if_true,Option.some.injEq]at he;subst he;simp [Op.eqFields]
  all_goals (rw [if_neg (by omega)]at he;cases he)
 |f::fs,i,c,xs,ys,cx,cy,r,hf,he,hx,hy=>by
  simp only [Xf]at hf
  split at hf
  case isFalse=>cases hf
  rename_i hno
  obtain ⟨hn,ho⟩:=hno
  split at hf
  case h_2=>cases hf
  rename_i kf cf hs hf'
  simp only [Option.some.injEq]at hf
  subst hf
  have hk3:kf=1∨kf=2∨kf=3:=by
   unfold QY at hs
   split at hs<;>(first|(cases hs;done)|skip)<;>simp only [Option.some.injEq]at hs<;>omega
  have hdiv:(kf+4*cf) / 4=cf:=by omega
  have hmod:(kf+4*cf) % 4=kf:=by omega
  have go: ∀ (x y:V) (xs' ys':List V) (q r':Bool),xs=x::xs'→ys=y::ys'→eqA cf xs' ys'=some r'→r=(q&&r')→
   (∀ u v c1 c3,Rel E x u c1→Rel E y v c3→(Op.equalIn 9999 f.type u v).run P w= .ok q w)→(Op.eqFields 9999 us vs (f::fs)).run P w= .ok r w:=by
   intro x y xs' ys' q r' hxs hys hr hrr hq
   subst hxs;subst hys
   simp only [qk]at hx hy
   obtain ⟨u,us',c1,c2,hxe,hx1,hx2,-⟩:=hx
   obtain ⟨v,vs',c3,c4,hye,hy1,hy2,-⟩:=hy
   have hu:us[i]? =some u:=by
    have:=congrArg (fun z=>z[0]?) hxe
    simpa using this
   have hv:vs[i]? =some v:=by
    have:=congrArg (fun z=>z[0]?) hye
    simpa using this
   have hdu:us.toList.drop (i+1)=us':=by
    have:=congrArg (fun z=>z.drop 1) hxe
    simpa [List.drop_drop,Nat.add_comm]using this
   have hdv:vs.toList.drop (i+1)=vs':=by
    have:=congrArg (fun z=>z.drop 1) hye
    simpa [List.drop_drop,Nat.add_comm]using this
   have p1:=qfk (P:=P) hs us i u hu w
   have p2:=qfk (P:=P) hs vs i v hv w
   have ih:=qfb us vs w fs (i+1) cf xs' ys' c2 c4 r' hf' hr (by rw [hdu];exact hx2) (by rw [hdv];exact hy2)
   have hqq:=hq u v c1 c3 hx1 hy1
   simp only [Op.eqFields,if_pos hn,ho,Sem.run_bind,p1,p2,Result.andThen_ok,hqq,Sem.run_ite]
   subst hrr
   cases q
   ·simp
   ·simp [ih]
  unfold eqA at he
  split at he
  ·rw [if_neg (by omega)]at he;cases he
  ·rename_i k a xs' k' b ys'
   rw [hdiv,hmod]at he
   split at he
   case isFalse=>cases he
   rename_i hk
   obtain ⟨h1,rfl⟩:=hk
   subst h1
   rw [Option.map_eq_some_iff]at he
   obtain ⟨r',hr,hrr⟩:=he
   obtain ⟨k0,hu0⟩: ∃ k0,P.underlying f.type=some (.int k0):=by
    unfold QY at hs
    split at hs<;>(first|(cases hs;done)|skip)<;>simp only [Option.some.injEq]at hs<;>first|omega|exact ⟨_,by assumption⟩
   refine go _ _ xs' ys' (a==b) r' rfl rfl hr hrr.symm fun u v c1 c3 h1 h2=> ?_
   simp only [Rel]at h1 h2
   rw [h1.1,h2.1]
   exact run_equalIn_int w 9998 f.type k k0 a b hu0
  ·rename_i a xs' b ys'
   rw [hdiv,hmod]at he
   split at he
   case isFalse=>cases he
   rename_i h1
   subst h1
   rw [Option.map_eq_some_iff]at he
   obtain ⟨r',hr,hrr⟩:=he
   have hu0:P.underlying f.type=some .string:=by
    unfold QY at hs
    split at hs<;>(first|(cases hs;done)|skip)<;>simp only [Option.some.injEq]at hs<;>first|omega|assumption
   refine go _ _ xs' ys' (a==b) r' rfl rfl hr hrr.symm fun u v c1 c3 h1 h2=> ?_
   simp only [Rel]at h1 h2
   rw [h1.1,h2.1,beq_toListBytes]
   exact run_equalIn_string w 9998 f.type a b hu0
  ·rename_i a xs' b ys'
   rw [hdiv,hmod]at he
   split at he
   case isFalse=>cases he
   rename_i h1
   subst h1
   rw [Option.map_eq_some_iff]at he
   obtain ⟨r',hr,hrr⟩:=he
   have hu0:P.underlying f.type=some .bool:=by
    unfold QY at hs
    split at hs<;>(first|(cases hs;done)|skip)<;>simp only [Option.some.injEq]at hs<;>first|omega|assumption
   refine go _ _ xs' ys' (a==b) r' rfl rfl hr hrr.symm fun u v c1 c3 h1 h2=> ?_
   simp only [Rel]at h1 h2
   rw [h1.1,h2.1]
   exact run_equalIn_bool' w 9998 f.type a b hu0
  ·cases he
theorem qkK {t:TypeId} {k:Nat} (hk:eqK P t=some (k+4)) {xs ys:List V} {x y:Value} {cx cy:Cnt} {r:Bool} (hx:Rel E (.a xs) x cx) (hy:Rel E (.a ys) y cy) (he:eqA k xs ys=some r) (neg:Bool) (w:World) (ox oy:Operand):
 (binOp (kA neg) t x y).run P w= .ok (.bool (r != neg)) w∧(eqGuard (kA neg) t ox oy x y).run P w= .ok () w:=by
 unfold eqK at hk
 split at hk<;>(first|(simp at hk;done)|skip)
 rename_i fs hu
 split at hk
 case isFalse=>cases hk
 rename_i hg
 rw [Option.map_eq_some_iff]at hk
 obtain ⟨c,hc,hck⟩:=hk
 obtain rfl:c=k:=by omega
 simp only [Rel]at hx hy
 obtain ⟨us,rfl,hx⟩:=hx
 obtain ⟨vs,rfl,hy⟩:=hy
 have hfo:P.fieldsOf t=fs:=by simp [Program.fieldsOf,hu]
 have h1:=run_equalIn_struct (P:=P) w 9999 t us vs (by rw [hfo];exact hu) hg.1
 have h2:=qfb (P:=P) (E:=E) us vs w fs.toList 0 c xs ys cx cy r hc he (by simpa using hx) (by simpa using hy)
 rw [hfo,h2]at h1
 refine ⟨?_,run_eqGuard_agg w (kA neg) t ox oy us vs hg.2⟩
 cases neg
 ·simp only [kA,Bool.false_eq_true,if_false]
  rw [run_eql_struct,h1];simp [Result.andThen]
 ·simp only [kA,if_true]
  rw [run_neq_struct,h1];simp [Result.andThen]
theorem qkJ {t:TypeId} {k:Nat} (hk:eqK P t=some k) {xv yv:V} {x y:Value} {r:Bool} (hk4:k < 4) (hx:Rel E xv x c0) (hy:Rel E yv y c0) (he:eqV k xv yv=some r) (neg:Bool) (w:World):
 (binOp (kA neg) t x y).run P w= .ok (.bool (r != neg)) w∧zM x=false∧x ≠ .nilIface:=by
 unfold eqK at hk
 split at hk
 case h_5=>split at hk<;>(first|(cases hk;done)|skip);rw [Option.map_eq_some_iff]at hk;obtain ⟨_,_,h⟩:=hk;omega
 all_goals (first|(cases hk;done)|(rename_i hu;simp only [Option.some.injEq]at hk;subst hk;unfold eqV at he))
 all_goals
  split at he<;>(first|(cases he;done)|(exfalso;omega)|skip)<;>simp only [Option.some.injEq]at he<;>subst he<;>simp only [Rel]at hx hy
 all_goals (try (exfalso;omega))
 all_goals
  (first
   |obtain ⟨rfl,-⟩:=hx
   |(obtain ⟨-,A,cap,rfl,-,hA⟩:=hx
     have hA:=hA.resolve_left (by simp)
     obtain ⟨b,base,e,cells,T,fz,rfl,-⟩:=hA)
   |(obtain ⟨-,hA⟩:=hx
     have hA:=hA.resolve_left (by rintro ⟨A,-,-,h,-⟩;cases h)
     obtain ⟨b,base,e,lim,cap,A,-,-,-,-,-,rfl⟩:=hA)
   |obtain ⟨-,b,base,e,lim,-,rfl⟩:=hx
   |obtain ⟨-,b,base,e,cells,T,fz,-,-,rfl,-⟩:=hx
   |obtain ⟨fs,cs,c1,c2,rfl,-⟩:=hx)<;>
  (first
   |obtain ⟨rfl,-⟩:=hy
   |(obtain ⟨-,A,cap,rfl,-,hA⟩:=hy
     have hA:=hA.resolve_left (by simp)
     obtain ⟨b,base,e,cells,T,fz,rfl,-⟩:=hA)
   |(obtain ⟨-,hA⟩:=hy
     have hA:=hA.resolve_left (by rintro ⟨A,-,-,h,-⟩;cases h)
     obtain ⟨b,base,e,lim,cap,A,-,-,-,-,-,rfl⟩:=hA)
   |obtain ⟨-,b,base,e,lim,-,rfl⟩:=hy
   |obtain ⟨-,b,base,e,cells,T,fz,-,-,rfl,-⟩:=hy
   |obtain ⟨fs,cs,c1,c2,rfl,-⟩:=hy)
 all_goals
  exact ⟨qkI (by rw [qg2,Op.equalIn];simp [zx hu]) rfl rfl,rfl,by simp⟩
theorem qfg {x y:Operand} {hx hy x' y':AO} {t:TypeId} {k:Nat} {neg:Bool} (h1:trO x hx=some x') (h2:trO y hy=some y') (hk:eqK P t=some k)
 (hs:qh call st (.eqs d k neg x' y')=some st') (h:FRel N E st a.tmps c) (hd:d < N):
 qE N E st st' (some d) (Sem.run P (do pure (.value (← (do eqGuard (kA neg) t x y (a.eval x) (a.eval y);binOp (kA neg) t (a.eval x) (a.eval y))))) E.w):=by
 simp only [qh]at hs
 split at hs
 case h_2=>cases hs
 rename_i xv yv hxv hyv
 have hrx:=qB h.σ h1 hxv
 have hry:=qB h.σ h2 hyv
 rw [Option.map_eq_some_iff]at hs
 obtain ⟨r,hr,rfl⟩:=hs
 by_cases hk4:k < 4
 ·obtain ⟨hrun,hag,hn⟩:=qkJ hk hk4 hrx hry hr neg E.w
  simp only [Sem.run_bind,qak hag hn,Result.andThen_ok,hrun,Sem.run_pure]
  exact ze h hd (x7 rfl)
 ·obtain ⟨k',rfl⟩: ∃ k',k=k'+4:=⟨k - 4,by omega⟩
  unfold eqV at hr
  split at hr<;>(first|(omega;done)|(cases hr;done)|skip)
  rename_i k'' xs ys heq
  obtain rfl:k'=k'':=by omega
  obtain ⟨hrun,hg⟩:=qkK hk hrx hry hr neg E.w x y
  simp only [Sem.run_bind,hg,Result.andThen_ok,hrun,Sem.run_pure]
  exact ze h hd (x7 rfl)
theorem qfh {x y:Operand} {hx hy x' y':AO} {t:Array TypeId} {ty:TypeId} {mx:Bool} (h1:trO x hx=some x') (h2:trO y hy=some y')
 (hs:qh call st (.mx d mx [x',y'])=some st') (h:FRel N E st a.tmps c) (hd:d < N):
 qE N E st st' (some d) (Sem.run P (do pure (.value (← (if mx then Builtin.max_ t ty #[a.eval x,a.eval y]else Builtin.min_ t ty #[a.eval x,a.eval y])))) E.w):=by
 simp only [qh]at hs
 split at hs
 case h_2=>cases hs
 rename_i k n k' m hL
 simp only [evL]at hL
 cases hxv:ev st.σ x' with
 |none=>rw [hxv]at hL;cases hL
 |some xv=>
 cases hyv:ev st.σ y' with
 |none=>rw [hxv,hyv]at hL;cases hL
 |some yv=>
 rw [hxv,hyv]at hL
 simp only [Option.some.injEq,List.cons.injEq,and_true]at hL
 obtain ⟨rfl,rfl⟩:=hL
 have hrx:=qB h.σ h1 hxv
 have hry:=qB h.σ h2 hyv
 simp only [Option.some.injEq]at hs;subst hs
 simp only [Rel]at hrx hry
 have key:Sem.run P (do pure (.value (← (if mx then Builtin.max_ t ty #[a.eval x,a.eval y]else Builtin.min_ t ty #[a.eval x,a.eval y]))):Sem Next) E.w=
  .ok (.value (.int k (if mx then (if m > n then m else n)else (if m < n then m else n)))) E.w:=by
  rw [hrx.1,hry.1]
  cases mx<;>simp [Builtin.max_,Builtin.min_,Builtin.max2,Builtin.min2,List.foldlM]
 rw [key]
 exact ze h hd (x7 rfl)
theorem qco: ∀ {xs:List V} {l:List UInt8} {ys:List Value},ql E 1 xs ys c0→xD xs=some l→ ∃ ns:List Int,ys=ns.map (Value.int .u8)∧l=ns.map fun n=>UInt8.ofNat n.toNat
 |[],l,ys,h,hb=>by
  simp only [ql]at h;simp only [xD,Option.some.injEq]at hb;subst hb
  exact ⟨[],by simpa using h.1,rfl⟩
 |x::xs,l,ys,h,hb=>by
  unfold xD at hb
  split at hb
  ·rename_i e;cases e
  ·rename_i n r e
   simp only [List.cons.injEq]at e
   obtain ⟨rfl,rfl⟩:=e
   split at hb
   ·rename_i l' hl
    simp only [Option.some.injEq]at hb;subst hb
    simp only [ql]at h
    obtain ⟨y,ys',c1,c2,rfl,-,-,-,hy,hr,hc⟩:=h
    have z2:c2=c0:=funext fun b=>by have:=congrFun hc b;simp only [c0,qg]at this ⊢;omega
    subst z2
    simp only [Rel]at hy
    obtain ⟨ns,rfl,rfl⟩:=qco hr hl
    exact ⟨n::ns,by rw [hy.1];rfl,rfl⟩
   ·cases hb
  ·cases hb
theorem qka(ns:List Int): ∀ s:ByteArray,ns.foldl (fun r n=>r.push (UInt8.ofNat n.toNat)) s=⟨s.data++(ns.map fun n=>UInt8.ofNat n.toNat).toArray⟩:=by
 induction ns with
 |nil=>intro s;simp
 |cons n ns ih=>
  intro s
  rw [List.foldl_cons,ih]
  congr 1
  simp [ByteArray.push]
theorem qlf {x:Operand} {hx x':AO} {src dst e:TypeId} (h1:trO x hx=some x') (hu:P.underlying dst=some .string) (hv:P.underlying src=some (.slice e)) (he:P.underlying e=some (.int .u8))
 (hs:qh call st (.str d x')=some st') (h:FRel N E st a.tmps c) (hd:d < N):
 qE N E st st' (some d) (Sem.run P (do pure (.value (← convert src dst (a.eval x)))) E.w):=by
 simp only [qh]at hs
 split at hs
 case h_2=>cases hs
 rename_i xv hxv
 have hrx:=qB h.σ h1 hxv
 split at hs
 case h_2=>cases hs
 rename_i xs hxs
 rw [Option.map_eq_some_iff]at hs
 obtain ⟨l,hl,rfl⟩:=hs
 have hz:ya xs=true:=by
  clear hxs
  induction xs generalizing l with
  |nil=>rfl
  |cons y ys ih=>
   unfold xD at hl
   split at hl
   ·rename_i e;cases e
   ·rename_i n r e
    simp only [List.cons.injEq]at e
    obtain ⟨rfl,rfl⟩:=e
    split at hl
    ·rename_i l' hl'
     simp only [ya,qZ,ih _ hl',Bool.and_self]
    ·cases hl
   ·cases hl
 have hall:xs.all (fun y=>y.cells.length==1)=true:=by
  clear hxs hz
  induction xs generalizing l with
  |nil=>rfl
  |cons y ys ih=>
   unfold xD at hl
   split at hl
   ·rename_i e;cases e
   ·rename_i n r e
    simp only [List.cons.injEq]at e
    obtain ⟨rfl,rfl⟩:=e
    split at hl
    ·rename_i l' hl'
     rw [List.all_cons,ih _ hl'];rfl
    ·cases hl
   ·cases hl
 obtain ⟨news,hr⟩:=qcX (sh:=true) h.T hrx hxs hz hall
 have hfin: ∀ (ns:List Int),l=ns.map (fun n=>UInt8.ofNat n.toNat)→(Conv.bytesToString (a.eval x)).run P E.w= .ok (.string (ns.foldl (fun r n=>r.push (UInt8.ofNat n.toNat)) ByteArray.empty)) E.w→
  (∃ A n c,a.eval x= .slice A n c)→
  qE N E st (st.put d (.v (.string ⟨l.toArray⟩))) (some d) (Sem.run P (do pure (.value (← convert src dst (a.eval x)))) E.w):=by
  rintro ns hl hrun ⟨A,n,cp,he1⟩
  have hconv:(convert src dst (a.eval x)).run P E.w= .ok (.string (ns.foldl (fun r n=>r.push (UInt8.ofNat n.toNat)) ByteArray.empty)) E.w:=by
   rw [he1]at hrun ⊢
   simp [convert,zx hu,zx hv,zx he,hrun]
  simp only [Sem.run_bind,hconv,Result.andThen_ok,Sem.run_pure]
  refine ze h hd ?_
  rw [qka,hl]
  have:(⟨ByteArray.empty.data++(ns.map fun n=>UInt8.ofNat n.toNat).toArray⟩:ByteArray)=⟨(ns.map fun n=>UInt8.ofNat n.toNat).toArray⟩:=by
   congr 1
   show (#[]:Array UInt8)++_=_
   simp
  rw [this]
  exact x7 rfl
 have hsome: ∀ A cap,ql E 1 xs news c0→a.eval x= .slice (some A) xs.length cap→(∀ j u,news[j]? =some u→E.w.cell? (A.add j)=some u)→
  qE N E st (st.put d (.v (.string ⟨l.toArray⟩))) (some d) (Sem.run P (do pure (.value (← convert src dst (a.eval x)))) E.w):=by
  intro A cap hR hv1 hcell
  obtain ⟨ns,hns,hl2⟩:=qco hR hl
  have hlen:=jc hR
  have hload:=run_loadCells_list (P:=P) E.w A news hcell
  rw [hlen,Nat.mul_one]at hload
  rw [hns]at hload
  exact hfin ns hl2 (by rw [hv1];exact run_bytesToString E.w A xs.length cap ns hload) ⟨_,_,_,hv1⟩
 have hnil:xs=[]→ ∀ A cap,a.eval x= .slice A 0 cap→qE N E st (st.put d (.v (.string ⟨l.toArray⟩))) (some d) (Sem.run P (do pure (.value (← convert src dst (a.eval x)))) E.w):=by
  intro h0 A cap hv1
  subst h0
  simp only [xD,Option.some.injEq]at hl
  cases A with
  |none=>exact hfin [] (by simp [← hl]) (by rw [hv1];rfl) ⟨_,_,_,hv1⟩
  |some A=>exact hfin [] (by simp [← hl]) (by rw [hv1];exact run_bytesToString E.w A 0 cap [] rfl) ⟨_,_,_,hv1⟩
 rcases hr with ⟨hR,⟨h1,h2⟩|⟨A,cap,h1,h2⟩⟩|⟨h0,A,cap,h1,-,-⟩
 ·exact hnil h2 none 0 h1
 ·exact hsome A cap hR h1 h2
 ·exact hnil h0 A cap h1
end
end Go.Vm
namespace Go.Vm
variable [Lay]
open Go.MapKept (IsKey run_checkKey run_findKey run_keyThatStays run_getObj_map run_setObj_map)
theorem qaD: ∀ (es:List (Int × Int)) (i j:Nat) (a b:Int),es[j]? =some (a,b)→(zS i es)[j]? =some {key:= .int .i64 a,val:= .int .i64 b,born:=i+j}
 |[],_,_,_,_,h=>by simp at h
 |(x,y)::r,i,0,a,b,h=>by
  simp only [List.getElem?_cons_zero,Option.some.injEq,Prod.mk.injEq]at h
  obtain ⟨rfl,rfl⟩:=h
  rfl
 |(x,y)::r,i,j+1,a,b,h=>by
  simp only [List.getElem?_cons_succ]at h
  simp only [zS,List.getElem?_cons_succ,qaD r (i+1) j a b h]
  rw [show i+1+j=i+(j+1)by omega]
theorem qdc(k:Int): ∀ (es:List (Int × Int)) (i s:Nat),Instr.findNow (.int .i64) (.int .i64 k) (zS s es) i=some ((zf k es).map fun v=>(i+zc k es,.int .i64 v))
 |[],i,s=>rfl
 |(a,b)::r,i,s=>by
  by_cases h:a=k
  ·subst h
   simp [zS,Instr.findNow,Instr.sameNow,zf,zc]
  ·have h':(k==a)=false:=by simpa using fun e=>h e.symm
   simp only [zS,Instr.findNow,Instr.sameNow,if_true,h',zf,zc,if_neg h,qdc k r (i+1) (s+1)]
   cases zf k r with
   |none=>rfl
   |some v=>simp only [Option.map_some];rw [show i+1+zc k r=i+(zc k r+1)by omega]
theorem qaV(k:Int): ∀ (es:List (Int × Int)) (v:Int),zf k es=some v→es[zc k es]? =some (k,v)
 |[],v,h=>by simp [zf]at h
 |(a,b)::r,v,h=>by
  simp only [zf,zc]at h ⊢
  split at h
  ·rename_i hk;subst hk;simp only [Option.some.injEq]at h;subst h;simp
  ·rename_i hk
   rw [if_neg hk]
   simpa using qaV k r v h
theorem qel(k:Int): ∀ (es:List (Int × Int)),zf k es=none→zc k es=es.length
 |[],h=>rfl
 |(a,b)::r,h=>by
  simp only [zf,zc]at h ⊢
  split at h
  ·cases h
  ·rename_i hk
   rw [if_neg hk,qel k r h,List.length_cons]
theorem qeq(k v:Int): ∀ (es:List (Int × Int)) (s:Nat) (u:Int),zf k es=some u→zS s (zU k v es)=(zS s es).modify (zc k es) (fun e=>{e with key:= .int .i64 k,val:= .int .i64 v})
 |[],s,u,h=>by simp [zf]at h
 |(a,b)::r,s,u,h=>by
  simp only [zf,zc,zU]at h ⊢
  split at h
  ·rename_i hk;subst hk
   simp [zS]
  ·rename_i hk
   simp only [if_neg hk,zS,List.modify_succ_cons,qeq k v r (s+1) u h]
theorem qep(k v:Int): ∀ (es:List (Int × Int)) (s:Nat),zf k es=none→zS s (zU k v es)=zS s es++[{key:= .int .i64 k,val:= .int .i64 v,born:=s+es.length}]
 |[],s,h=>by simp [zS,zU]
 |(a,b)::r,s,h=>by
  simp only [zf,zU]at h ⊢
  split at h
  ·cases h
  ·rename_i hk
   simp only [if_neg hk,zS,qep k v r (s+1) h,List.cons_append,List.length_cons]
   rw [show s+1+r.length=s+(r.length+1)by omega]
theorem qa0(k v:Int): ∀ (es:List (Int × Int)),(zU k v es).length=if (zf k es).isSome then es.length else es.length+1
 |[]=>rfl
 |(a,b)::r=>by
  simp only [zU,zf]
  split
  ·simp
  ·simp only [List.length_cons,qa0 k v r]
   split<;>rfl
theorem qdL(v:Int): ∀ (es:List (Int × Int)) (s j:Nat),zS s (es.modify j fun e=>(e.1,v))=(zS s es).modify j (fun e=>{e with val:= .int .i64 v})
 |[],s,j=>by cases j<;>rfl
 |(a,b)::r,s,0=>by simp [zS]
 |(a,b)::r,s,j+1=>by simp only [List.modify_succ_cons,zS,qdL v r (s+1) j]
theorem qcg: ∀ (es:List (Int × Int)) (s j:Nat),j < es.length→(zS s es).findIdx? (fun e=>(e.born:Int)==((s+j:Nat):Int))=some j
 |[],s,j,h=>by simp at h
 |(a,b)::r,s,0,h=>by simp [zS,List.findIdx?_cons]
 |(a,b)::r,s,j+1,h=>by
  have h1:((s:Int)==((s+(j+1):Nat):Int))=false:=by simp;omega
  have:=qcg r (s+1) j (by simpa using h)
  rw [show s+1+j=s+(j+1)by omega]at this
  simp only [zS,List.findIdx?_cons,h1,this]
  rfl
section
variable {P:Program} {N:Nat} {E:Env} {c:Cnt} {st st':St} {a:Act} {d:Nat} {call:qS}
theorem qk5 {t:TypeId} (hs:qh call st (.mkm d)=some st') (h:FRel N E st a.tmps c) (hd:d < N):
 zp N E c st' a (some d) (Sem.run P (do pure (.value (← Instr.makeMap t none))) E.w):=by
 simp only [qh,Option.some.injEq]at hs;subst hs
 obtain ⟨c1,hσ1,hT1,hle1⟩:=Qe d h.σ h.T
 have hG:Grew E.w (.map #[] 0) {E.w with heap:=E.w.heap.push (.map #[] 0)}:=⟨rfl,rfl,rfl,rfl⟩
 obtain ⟨m1,g1,a1⟩:=qdf (E:=E.drop d) ((h.g.drop d).le hle1) hG
 have hn:=j6 (d:=d) (j:=0) (E:={E.drop d with w:={E.w with heap:=E.w.heap.push (.map #[] 0)}}) (fun i _=>kz E d i) (.mp E.w.heap.size)
 have hz:c1 E.w.heap.size=0:=by
  cases hc:c1 E.w.heap.size with
  |zero=>rfl
  |succ n=>have:=h.g.bnd E.w.heap.size (by have:=hle1 E.w.heap.size;omega);omega
 simp only [Instr.makeMap,Sem.run_bind,run_newObj,Result.andThen_ok,Sem.run_pure]
 refine ⟨{E.drop d with w:={E.w with heap:=E.w.heap.push (.map #[] 0)}}.name (d,0) (.mp E.w.heap.size),qg (qv E.w.heap.size) c1,rfl,jx hn.hout,⟨by simpa [Act.put]using h.sz, ?_, ?_, ?_⟩, ?_⟩
 ·refine QX (xq (xq hσ1 (m1.le (Kk _))) (hn.mono _)) ?_ (by rw [h.sz];exact hd)
  simp only [Rel];exact ⟨by trivial,E.w.heap.size,by simp [Env.name],by trivial⟩
 ·exact ⟨qv E.w.heap.size,c1,.inl ⟨E.w.heap.size,#[],0,[],by simp [Env.name],by show (E.w.heap.push (Obj.map #[] 0))[E.w.heap.size]? =_;simp,⟨rfl,rfl⟩,rfl,rfl⟩,zH (zH hT1 m1) (hn.mono _),rfl⟩
 ·refine ⟨fun b=> ?_,fun τ b hb=> ?_,g1.sub,fun b hb=> ?_,g1.lay.same rfl rfl⟩
  ·simp only [qg,qv]
   have:=g1.one b
   split
   ·rename_i hb;subst hb;omega
   ·omega
  ·have:=h.g.imm τ b hb
   have q:=hle1 b
   simp only [qg,qv]
   rw [if_neg (by omega)]
   refine ⟨by omega, ?_⟩
   show b < (E.w.heap.push (.map #[] 0)).size
   rw [Array.size_push];omega
  ·simp only [qg,qv]at hb
   show b < (E.w.heap.push (.map #[] 0)).size
   rw [Array.size_push]
   split at hb
   ·omega
   ·have:=h.g.bnd b (by have:=hle1 b;omega);omega
 ·have hA:Adv E c ({E.drop d with w:={E.w with heap:=E.w.heap.push (.map #[] 0)}}.name (d,0) (.mp E.w.heap.size)) c1:=
   ZG (c1:=c1) ⟨a1.sizes,a1.os,a1.tape,a1.output,a1.size,a1.frame,a1.sub,a1.own,a1.imm⟩ hle1
  refine ⟨hA.sizes,hA.os,hA.tape,hA.output,hA.size,hA.frame,hA.sub,fun b hb=> ?_,hA.imm⟩
  simp only [qg,qv]at hb
  split at hb
  ·exact .inr (by omega)
  ·exact hA.own b (by omega)
theorem qgV {T:Mem} {x:V} {y:Value} {es:List (Int × Int)} (hT:qn E T c) (hx:Rel E x y c0) (he:yp T x=some es):
 ∃ b ents clk,y= .map (some b)∧E.w.heap[b]? =some (.map ents clk)∧yY es ents clk:=by
 unfold yp at he
 split at he
 ·simp only [Option.some.injEq]at he;subst he
  simp only [Rel]at hx
  obtain ⟨b,ents,clk,h1,h2,h3,-⟩:=hx
  exact ⟨b,ents,clk,h1,h2,h3⟩
 ·split at he
  ·rename_i hg
   simp only [Option.some.injEq]at he;subst he
   simp only [Rel]at hx
   obtain ⟨-,b,hμ,rfl⟩:=hx
   obtain ⟨c1,c2,ho,-,-⟩:=zW hT hg
   rcases ho with ⟨b',ents,clk,es',h1,h2,h3,h4,-⟩|⟨⟨A0,h1⟩,-⟩|⟨b',base,lim,cells,Tt,fz,c3,h1,-⟩
   ·rw [h1]at hμ;cases hμ
    simp only [List.cons.injEq,V.w.injEq,and_true]at h4
    obtain ⟨-,rfl⟩:=h4
    exact ⟨b,ents,clk,rfl,h2,h3⟩
   ·rw [h1]at hμ;cases hμ
   ·rw [h1]at hμ;cases hμ
  ·cases he
 ·cases he
theorem qbg {t kt et:TypeId} {ents:Array MapEntry} {clk:Nat} {es:List (Int × Int)} {k:Int} {w:World} (hk:P.underlying kt=some (.int .i64)) (hM:yY es ents clk):
 (Instr.findKey kt (.int .i64 k) ents.toList).run P w= .ok ((zf k es).map fun v=>(zc k es,.int .i64 v)) w:=by
 refine run_findKey hk ?_
 rw [hM.1,qdc]
 simp
theorem QJ(k:Int):IsKey (.int .i64) (.int .i64 k):=rfl
theorem qk3 {m k:Operand} {hm hk m' k':AO} {t kt et:TypeId} (ht:P.underlying t=some (.map kt et)) (hkt:P.underlying kt=some (.int .i64)) {i:TypeInfo} (hi:P.info? et=some i) (hz:i.zero=some (.int .i64 0))
 (h1:trO m hm=some m') (h2:trO k hk=some k') (hs:qh call st (.mget d m' k')=some st') (h:FRel N E st a.tmps c) (hd:d < N):
 qE N E st st' (some d) (Sem.run P (do pure (.value (← Instr.lookup t (a.eval m) (a.eval k) false))) E.w):=by
 simp only [qh]at hs
 split at hs
 case h_2=>cases hs
 rename_i mv kv hmv hkv
 rw [Option.map_eq_some_iff]at hs
 obtain ⟨es,he,rfl⟩:=hs
 obtain ⟨b,ents,clk,hy,hw,hM⟩:=qgV h.T (qB h.σ h1 hmv) he
 have hkr:=qB h.σ h2 hkv
 simp only [Rel]at hkr
 rw [hy,hkr.1]
 have hf:=qbg (P:=P) (w:=E.w) (t:=t) (et:=et) (k:=kv) hkt hM
 have hrun:Sem.run P (Instr.lookup t (.map (some b)) (.int .i64 kv) false) E.w= .ok (.int .i64 ((zf kv es).getD 0)) E.w:=by
  simp only [Instr.lookup,Sem.run_bind,zx ht,Result.andThen_ok,run_getObj_map hw,Sem.run_pure,run_checkKey hkt (QJ kv),hf]
  cases zf kv es with
  |none=>simp [zeroValue,Z2 hi,hz,Sem.run_bind,Sem.run_pure,Result.andThen_ok]
  |some v=>simp [Sem.run_bind,Sem.run_pure,Result.andThen_ok]
 simp only [Sem.run_bind,hrun,Result.andThen_ok,Sem.run_pure]
 exact ze h hd (by simp [Rel,zM])
theorem qaZ {x:V} {y:Value} {es es':List (Int × Int)} {T':Mem} (h:FRel N E st a.tmps c) (hx:Rel E x y c0) (he:yp st.T x=some es) (hset:kd st.T x es'=some T'):
 ∃ b ents clk,y= .map (some b)∧E.w.heap[b]? =some (.map ents clk)∧yY es ents clk∧ ∀ ents' clk' w',yY es' ents' clk'→w'={E.w with heap:=E.w.heap.setIfInBounds b (.map ents' clk')}→
  ∃ E' c',E'.w=w'∧E'.μ=E.μ∧FRel N E' {st with T:=T'} a.tmps c'∧Adv E c E' c':=by
 unfold kd at hset
 split at hset
 case h_2=>cases hset
 rename_i k
 split at hset
 case h_2=>cases hset
 rename_i ob hg
 simp only [Option.some.injEq]at hset;subst hset
 simp only [Rel]at hx
 obtain ⟨-,b,hμ,rfl⟩:=hx
 obtain ⟨c1,c2,ho,hrest,rfl⟩:=zW h.T hg
 rcases ho with ⟨b',ents,clk,es0,q1,q2,q3,q4,rfl⟩|⟨⟨A0,q1⟩,-⟩|⟨b',base,lim,cells,Tt,fz,c3,q1,-⟩
 case inr.inl=>rw [q1]at hμ;cases hμ
 case inr.inr=>rw [q1]at hμ;cases hμ
 rw [q1]at hμ;cases hμ
 have hes:es=es0:=by
  simp only [yp,hg]at he
  obtain ⟨e0,xs0⟩:=ob
  simp only at q4;subst q4
  simpa using he.symm
 subst hes
 refine ⟨b,ents,clk,rfl,q2,q3, ?_⟩
 rintro ents' clk' w' hM' rfl
 have hlt:b < E.w.heap.size:=(Array.getElem?_eq_some_iff.1 q2).1
 have hW:Wrote E.w b #[] {E.w with heap:=E.w.heap.setIfInBounds b (.map ents' clk')}:=by
  refine ⟨rfl,rfl,rfl,by simp,fun b2 hb2=>by simp [Ne.symm hb2],fun cells T fz hc=> ?_⟩
  rw [q2]at hc;cases hc
 obtain ⟨hmono,hσ',hgood,hadv⟩:=qaq (N:=N) (T':=[]) (c1:=c0) (c2:=c2) h.σ h.g hW
 refine ⟨{E with w:={E.w with heap:=E.w.heap.setIfInBounds b (.map ents' clk')}},qg (qv b) c2,rfl,rfl,⟨h.sz,hσ', ?_,hgood⟩,hadv⟩
 exact ⟨qv b,c2,.inl ⟨b,ents',clk',es',q1,by simp [hlt],hM',rfl,rfl⟩,zH hrest (hmono c2 (yx _ _)),rfl⟩
theorem yY.put {es:List (Int × Int)} {ents:Array MapEntry} {clk:Nat} (hM:yY es ents clk) (k v:Int):
 (∀ u,zf k es=some u→yY (zU k v es) (ents.modify (zc k es) fun e=>{e with key:= .int .i64 k,val:= .int .i64 v}) clk)∧
 (zf k es=none→yY (zU k v es) (ents.push {key:= .int .i64 k,val:= .int .i64 v,born:=clk}) (clk+1)):=by
 refine ⟨fun u hu=>⟨?_, ?_⟩,fun hu=>⟨?_, ?_⟩⟩
 ·rw [Array.toList_modify,hM.1,qeq k v es 0 u hu]
 ·rw [qa0,hu];exact hM.2
 ·rw [Array.toList_push,hM.1,qep k v es 0 hu,hM.2,Nat.zero_add]
 ·rw [qa0,hu,hM.2];rfl
theorem qkM {t kt et:TypeId} (ht:P.underlying t=some (.map kt et)) (hkt:P.underlying kt=some (.int .i64)) {w:World} {b:Nat} {ents:Array MapEntry} {clk:Nat} {es:List (Int × Int)}
 (hw:w.heap[b]? =some (.map ents clk)) (hM:yY es ents clk) (k v:Int):
 ∃ ents' clk',yY (zU k v es) ents' clk'∧(Instr.mapUpdate t (.map (some b)) (.int .i64 k) (.int .i64 v)).run P w= .ok () {w with heap:=w.heap.setIfInBounds b (.map ents' clk')}:=by
 have hf:=qbg (P:=P) (w:=w) (t:=t) (et:=et) (k:=k) hkt hM
 cases hg:zf k es with
 |none=>
  refine ⟨_,_,(hM.put k v).2 hg, ?_⟩
  rw [hg]at hf
  simp only [Option.map_none]at hf
  simp only [Instr.mapUpdate,Sem.run_bind,zx ht,Result.andThen_ok,run_getObj_map hw,Sem.run_pure,run_checkKey hkt (QJ k),hf,run_setObj_map _ hw]
 |some u=>
  refine ⟨_,_,(hM.put k v).1 u hg, ?_⟩
  rw [hg]at hf
  simp only [Option.map_some]at hf
  have hkey:((ents[zc k es]?).map (·.key)).getD (.int .i64 k)= .int .i64 k:=by
   have:=qaD es 0 (zc k es) k u (qaV k es u hg)
   rw [← hM.1,Array.getElem?_toList]at this
   rw [this];rfl
  simp only [Instr.mapUpdate,Sem.run_bind,zx ht,Result.andThen_ok,run_getObj_map hw,Sem.run_pure,run_checkKey hkt (QJ k),hf,hkey,run_keyThatStays (QJ k),run_setObj_map _ hw]
theorem qk7 {m k v:Operand} {hm hk hv m' k' v':AO} {t kt et:TypeId} (ht:P.underlying t=some (.map kt et)) (hkt:P.underlying kt=some (.int .i64))
 (h1:trO m hm=some m') (h2:trO k hk=some k') (h3:trO v hv=some v') (hs:qh call st (.mset m' k' v')=some st') (h:FRel N E st a.tmps c):
 zp N E c st' a none (Sem.run P (do Instr.mapUpdate t (a.eval m) (a.eval k) (a.eval v);pure .skip) E.w):=by
 simp only [qh]at hs
 split at hs
 case h_2=>cases hs
 rename_i mv kv vv hmv hkv hvv
 split at hs
 case h_2=>cases hs
 rename_i es he
 rw [Option.map_eq_some_iff]at hs
 obtain ⟨T',hset,rfl⟩:=hs
 have hkr:=qB h.σ h2 hkv
 have hvr:=qB h.σ h3 hvv
 simp only [Rel]at hkr hvr
 obtain ⟨b,ents,clk,hy,hw,hM,hgo⟩:=qaZ h (qB h.σ h1 hmv) he hset
 obtain ⟨ents',clk',hM',hrun⟩:=qkM ht hkt hw hM kv vv
 obtain ⟨E',c',hw',hμ,hF,hA⟩:=hgo ents' clk' _ hM' rfl
 rw [hy,hkr.1,hvr.1]
 simp only [Sem.run_bind,hrun,Result.andThen_ok,Sem.run_pure]
 exact ⟨E',c',hw',fun k _=>by rw [hμ],by simpa [Act.put]using hF,hA⟩
theorem qk1 {m k:Operand} {hm hk m' k':AO} {t kt et:TypeId} (ht:P.underlying t=some (.map kt et)) (hkt:P.underlying kt=some (.int .i64)) {i:TypeInfo} (hi:P.info? et=some i) (hz:i.zero=some (.int .i64 0))
 (h1:trO m hm=some m') (h2:trO k hk=some k') (hs:qh call st (.men d m' k')=some st') (h:FRel N E st a.tmps c) (hd:d < N):
 zp N E c st' a (some d) (Sem.run P (do pure (.value (← Instr.mapEntry t (a.eval m) (a.eval k)))) E.w):=by
 simp only [qh]at hs
 split at hs
 case h_2=>cases hs
 rename_i mv kv hmv hkv
 split at hs
 case h_2=>cases hs
 rename_i es he
 rw [Option.map_eq_some_iff]at hs
 obtain ⟨T',hset,rfl⟩:=hs
 have hkr:=qB h.σ h2 hkv
 simp only [Rel]at hkr
 obtain ⟨b,ents,clk,hy,hw,hM,hgo⟩:=qaZ h (qB h.σ h1 hmv) he hset
 have hf:=qbg (P:=P) (w:=E.w) (t:=t) (et:=et) (k:=kv) hkt hM
 rw [hy,hkr.1]
 have hlast: ∀ E' c',FRel N E' {st with T:=T'} a.tmps c'→FRel N E' {σ:=(d,.t [.v (.int .i64 ((zf kv es).getD 0)),.v (.int .i64 (zc kv es))])::st.σ,T:=T'} (a.tmps.setIfInBounds d (.tuple #[.int .i64 ((zf kv es).getD 0),.int .i64 (zc kv es)])) c':=by
  intro E' c' hF
  have:=hF.put (d:=d) (x:= .t [.v (.int .i64 ((zf kv es).getD 0)),.v (.int .i64 (zc kv es))]) (y:= .tuple #[.int .i64 ((zf kv es).getD 0),.int .i64 (zc kv es)]) (by
   simp only [Rel]
   refine ⟨_,rfl, ?_⟩
   simp only [qk]
   exact ⟨_,_,c0,c0,rfl,by simp [Rel,zM],⟨_,_,c0,c0,rfl,by simp [Rel,zM],⟨rfl,rfl⟩,rfl⟩,rfl⟩) hd
  exact this
 cases hg:zf kv es with
 |none=>
  rw [hg]at hf hset hlast hgo
  simp only [Option.map_none,Option.getD_none]at hf hset hlast hgo ⊢
  obtain ⟨E',c',hw',hμ,hF,hA⟩:=hgo _ _ _ ((hM.put kv 0).2 hg) rfl
  have hclk:(clk:Int)=(zc kv es:Int):=by rw [qel kv es hg,hM.2]
  simp only [Instr.mapEntry,Sem.run_bind,zx ht,Result.andThen_ok,run_getObj_map hw,Sem.run_pure,run_checkKey hkt (QJ kv),hf,run_setObj_map _ hw,zeroValue,Z2 hi,hz]
  refine ⟨E',c',hw',fun k _=>by rw [hμ], ?_,hA⟩
  have:=hlast E' c' hF
  simpa only [Act.put,goInt,hclk]using this
 |some u=>
  rw [hg]at hf hset hlast hgo
  simp only [Option.map_some,Option.getD_some]at hf hset hlast hgo ⊢
  have hent:=qaD es 0 (zc kv es) kv u (qaV kv es u hg)
  rw [← hM.1,Array.getElem?_toList]at hent
  have hkey:((ents[zc kv es]?).map (·.key)).getD (.int .i64 kv)= .int .i64 kv:=by rw [hent];rfl
  have hborn:(((ents[zc kv es]?).map (·.born)).getD 0)=zc kv es:=by rw [hent];simp
  have hM2:yY (zU kv u es) (ents.modify (zc kv es) fun e=>{e with key:= .int .i64 kv}) clk:=by
   refine ⟨?_,((hM.put kv u).1 u hg).2⟩
   rw [← ((hM.put kv u).1 u hg).1,Array.toList_modify,Array.toList_modify]
   apply List.ext_getElem?
   intro j
   by_cases hj:zc kv es=j
   ·subst hj
    rw [← Array.getElem?_toList]at hent
    simp [List.getElem?_modify,hent]
   ·simp [List.getElem?_modify,hj]
  obtain ⟨E',c',hw',hμ,hF,hA⟩:=hgo _ _ _ hM2 rfl
  simp only [Instr.mapEntry,Sem.run_bind,zx ht,Result.andThen_ok,run_getObj_map hw,Sem.run_pure,run_checkKey hkt (QJ kv),hf,hkey,hborn,run_keyThatStays (QJ kv),run_setObj_map _ hw]
  refine ⟨E',c',hw',fun k _=>by rw [hμ], ?_,hA⟩
  have:=hlast E' c' hF
  simpa [Act.put,goInt,hent]using this
theorem qk2 {m k v:Operand} {hm hk hv m' k' v':AO} {t:TypeId}
 (h1:trO m hm=some m') (h2:trO k hk=some k') (h3:trO v hv=some v') (hs:qh call st (.mes m' k' v')=some st') (h:FRel N E st a.tmps c):
 zp N E c st' a none (Sem.run P (do Instr.entryStore t (a.eval m) (a.eval k) (a.eval v);pure .skip) E.w):=by
 simp only [qh]at hs
 split at hs
 case h_2=>cases hs
 rename_i mv kv vv hmv hkv hvv
 split at hs
 case h_2=>cases hs
 rename_i es he
 split at hs
 case h_2=>cases hs
 rename_i i hi
 rw [Option.map_eq_some_iff]at hs
 obtain ⟨T',hset,rfl⟩:=hs
 have hkr:=qB h.σ h2 hkv
 have hvr:=qB h.σ h3 hvv
 simp only [Rel]at hkr hvr
 obtain ⟨b,ents,clk,hy,hw,hM,hgo⟩:=qaZ h (qB h.σ h1 hmv) he hset
 unfold zI at hi
 split at hi
 case isFalse=>cases hi
 rename_i hb
 simp only [Option.some.injEq]at hi
 have hik:kv=((0+i:Nat):Int):=by omega
 have hM':yY (es.modify i fun e=>(e.1,vv)) (ents.modify i fun e=>{e with val:= .int .i64 vv}) clk:=
  ⟨by rw [Array.toList_modify,hM.1,qdL],by rw [List.length_modify];exact hM.2⟩
 obtain ⟨E',c',hw',hμ,hF,hA⟩:=hgo _ _ _ hM' rfl
 have hfi:ents.findIdx? (fun e=>(e.born:Int)==kv)=some i:=by
  have:=qcg es 0 i (by omega)
  rw [← hM.1, ← hik]at this
  have e:ents=(zS 0 es).toArray:=by rw [← hM.1]
  rw [hM.1]at this
  rw [e];simpa using this
 rw [hy,hkr.1,hvr.1]
 have hrun:(Instr.entryStore t (.map (some b)) (.int .i64 kv) (.int .i64 vv)).run P E.w= .ok () {E.w with heap:=E.w.heap.setIfInBounds b (.map (ents.modify i fun e=>{e with val:= .int .i64 vv}) clk)}:=by
  simp only [Instr.entryStore,Sem.run_bind,Result.andThen_ok,run_getObj_map hw,Sem.run_pure,asInt,asIntOf,hfi,run_setObj_map _ hw]
 simp only [Sem.run_bind,hrun,Result.andThen_ok,Sem.run_pure]
 exact ⟨E',c',hw',fun k _=>by rw [hμ],by simpa [Act.put]using hF,hA⟩
end
end Go.Vm
namespace Go.Vm
variable [Lay]
def Com(P:Program) (N:Nat) (E:Env) (c:Cnt) (st':St) (a:Act) (dst:Option Tmp):Result Next→Prop
 | .ok (.enter f args) w'=>w'=E.w∧Calls P f args E.w (fun e w''=> ∃ y E' c',e= .returned y∧E'.w=w''∧xx dst E E'∧FRel N E' st' (a.put dst y).tmps c'∧Adv E c E' c')
 |r=>zp N E c st' a dst r
theorem zp.com {P:Program} {N:Nat} {E:Env} {c:Cnt} {st':St} {a:Act} {dst:Option Tmp} {r:Result Next} (h:zp N E c st' a dst r):Com P N E c st' a dst r:=by
 unfold Com
 split
 ·simp only [zp]at h
 ·exact h
section
variable (P:Program) (N:Nat) (o:Oper)
def okD(d:Nat):Bool:=decide (o.dst=some d∧d < N)
def jf(d:Nat) (h:AO):Option AI:=
 match o.op with
 | .move x| .assign x=>(trO x h).map (.mv d)
 |_=>none
def Yt(d:Nat) (h1 h2 h3:AO):Option AI:=
 match o.op with
 | .pick c x y=>match trO c h1,trO x h2,trO y h3 with
   |some c',some x',some y'=>some (.pick d c' x' y')
   |_,_,_=>none
 |_=>none
def Yq(d:Nat) (h:AO):Option AI:=
 match o.op,h with
 | .alloc t,.c z=>match YB P t with
   |some v=>(cV v z).map fun x=> .new d (.c x)
   |none=>none
 | .box t x,h=>(trO x h).map (.new d)
 |_,_=>none
def Yf(d:Nat) (h:AO):Option AI:=
 match o.op with
 | .load t p=>xp (trO p h) (ke P t) fun p' q=> .ld d q.1 q.2 p'
 |_=>none
def Yg(d:Nat) (h:AO):Option AI:=
 match o.op with
 | .load t p=>xp (trO p h) (ke P t) fun p' q=> .ldq d q.1 q.2 p'
 |_=>none
def Yx(h1 h2:AO):Option AI:=
 match o.op with
 | .store t p x=>match trO p h1,trO x h2,(P.info? t).map (·.size)with
   |some p',some x',some n=>some (.st n p' x')
   |_,_,_=>none
 |_=>none
def Yr(d:Nat) (h:AO):Option AI:=
 match o.op with
 | .nilCheck x=>(trO x h).map (.nilc d)
 |_=>none
def Z9(d:Nat) (h:AO):Option AI:=
 match o.op with
 | .fieldAddr s x f=>match trO x h,ZM P s f with
   |some x',some fl=>match (P.info? fl.type).map (·.size)with
    |some n=>if n ≠ 0 then some (.fa d x' fl.offset)else none
    |none=>none
   |_,_=>none
 |_=>none
def Ya(d:Nat) (h:AO):Option AI:=
 match o.op with
 | .field s x f=>match trO x h,ZM P s f with
   |some x',some fl=>(ke P fl.type).map fun q=> .fld d q.1 q.2 x' fl.offset
   |_,_=>none
 |_=>none
def Yc(d:Nat) (h1 h2:AO):Option AI:=
 match o.op with
 | .indexAddr t x i=>match trO x h1,trO i h2,slT P t with
   |some x',some i',some q=>some (.ia d q.2.size x' i')
   |_,_,_=>none
 |_=>none
def Ye(d:Nat) (h1 h2:AO):Option AI:=
 match o.op with
 | .index t x i=>match trO x h1,trO i h2,P.underlying t with
   |some x',some i',some .string=>some (.ix d x' i')
   |_,_,_=>none
 |_=>none
def Z5(d:Nat) (h1 h2:AO):Option AI:=
 match o.op with
 | .binOp op _ x y _=>xp (trO x h1) (trO y h2) fun x' y'=> .bin d op x' y'
 |_=>none
def Z7(d:Nat) (neg:Bool) (h1 h2:AO):Option AI:=
 match o.op with
 | .binOp .eql t x y _=>match trO x h1,trO y h2,eqK P t,neg with
   |some x',some y',some k,false=>some (.eqs d k false x' y')
   |_,_,_,_=>none
 | .binOp .neq t x y _=>match trO x h1,trO y h2,eqK P t,neg with
   |some x',some y',some k,true=>some (.eqs d k true x' y')
   |_,_,_,_=>none
 |_=>none
def Yz(d:Nat) (h:AO):Option AI:=
 match o.op with
 | .unOp op _ x=>(trO x h).map (.un d op)
 |_=>none
def Z8(d:Nat) (h:AO):Option AI:=
 match o.op with
 | .extract x i=>(trO x h).map fun x'=> .ext d x' i
 |_=>none
def Yb(d:Nat) (hf hc:List AO):Option AI:=
 match o.op with
 | .makeFunc fn first caps=>xp (xM first.toList hf) (xM caps.toList hc) fun f' c'=> .fun d fn f' c'
 |_=>none
def Ys:Option Operand→Option AO→Option (Option AO)
 |none,none=>some none
 |some x,some h=>(trO x h).map some
 |_,_=>none
def Yu(d:Nat) (h:AO) (hl hh:Option AO):Option AI:=
 match o.op with
 | .slice t x lo hi none=>match trO x h,Ys lo hl,Ys hi hh,slT P t with
   |some x',some lo',some hi',some q=>some (.sl d q.2.size x' lo' hi')
   |_,_,_,_=>none
 |_=>none
def Yw(d:Nat) (h:AO) (hl hh:Option AO):Option AI:=
 match o.op with
 | .slice t x lo hi none=>match trO x h,Ys lo hl,Ys hi hh,P.underlying t with
   |some x',some lo',some hi',some .string=>some (.ssl d x' lo' hi')
   |_,_,_,_=>none
 |_=>none
def Z6(d:Nat) (hz:V) (hp:List AO):Option AI:=
 match o.op with
 | .build t parts=>match YB P t,qaU P t with
   |some z,some places=>match cVL z.cells.toList hz.cells,trB places parts.toList hp with
    |some zv,some p'=>some (.build d (.a zv) p')
    |_,_=>none
   |_,_=>none
 |_=>none
def slZ(t:TypeId):Option (TypeInfo × Value):=
 match slT P t with
 |some q=>match q.2.zero with
  |some z=>if z.cells.size=q.2.size∧q.2.bytes≤1048576 then some (q.2,z)else none
  |none=>none
 |none=>none
def Yn(d:Nat) (hp:List AO):Option AI:=
 match o.op with
 | .buildSlice t len parts=>match slZ P t,xM (parts.toList.map (·.2)) hp with
   |some q,some p'=>if len=parts.toList.length∧parts.toList.map (·.1)=List.range' 0 len∧len*q.1.size≤2 ^ 24 then some (.mks d q.1.size p')else none
   |_,_=>none
 |_=>none
def Yl(d:Nat) (hz:V) (h1 h2:AO):Option AI:=
 match o.op with
 | .makeSlice t l c=>match slZ P t,trO l h1,trO c h2 with
   |some q,some l',some c'=>(cV q.2 hz).map fun z=> .mk d q.1.size z q.1.bytes l' c'
   |_,_,_=>none
 |_=>none
def ZI:Option (Builtin × List Operand × List TypeId):=
 match o.op with
 | .call c=>match c.callee with
   | .builtin b=>some (b,c.args.toList,c.argTypes.toList)
   |_=>none
 |_=>none
def Yh(d:Nat) (h:AO):Option AI:=
 match ZI o with
 |some (.len,[x],[t])=>match trO x h,P.underlying t with
  |some x',some (.slice _)=>some (.len d x')
  |_,_=>none
 |_=>none
def Yv(d:Nat) (h:AO):Option AI:=
 match ZI o with
 |some (.len,[x],[t])=>match trO x h,P.underlying t with
  |some x',some .string=>some (.slen d x')
  |_,_=>none
 |_=>none
def Z4(d:Nat) (h1 h2:AO):Option AI:=
 match ZI o with
 |some (.append,[x,y],[t,t'])=>match trO x h1,trO y h2,slZ P t,P.underlying t' with
  |some x',some y',some q,some (.slice _)=>some (.app d q.1.size q.1.bytes x' y')
  |_,_,_,_=>none
 |_=>none
def Yp(d:Nat) (mx:Bool):List AO→Option AI
 |[h1,h2]=>match ZI o,mx with
  |some (.max,[x,y],_),true=>xp (trO x h1) (trO y h2) fun x' y'=> .mx d true [x',y']
  |some (.min,[x,y],_),false=>xp (trO x h1) (trO y h2) fun x' y'=> .mx d false [x',y']
  |_,_=>none
 |_=>none
def Yd(d:Nat) (h:AO):Option AI:=
 match o.op with
 | .convert src dst x=>match trO x h,P.underlying dst,P.underlying src with
   |some x',some (.int k),some (.int _)=>some (.int d k x')
   |_,_,_=>none
 |_=>none
def Yy(d:Nat) (h:AO):Option AI:=
 match o.op with
 | .convert src dst x=>match trO x h,P.underlying dst,P.underlying src with
   |some x',some .string,some (.slice e)=>match P.underlying e with
    |some (.int .u8)=>some (.str d x')
    |_=>none
   |_,_,_=>none
 |_=>none
def Xn(t:TypeId):Option (TypeId × TypeId):=
 match P.underlying t with
 |some (.map kt et)=>match P.underlying kt,YB P et with
  |some (.int .i64),some (.int .i64 0)=>some (kt,et)
  |_,_=>none
 |_=>none
def Ym(d:Nat):Option AI:=
 match o.op with
 | .makeMap _ none=>some (.mkm d)
 |_=>none
def Yo(h1 h2 h3:AO):Option AI:=
 match o.op with
 | .mapUpdate t m k v| .insert t m k v=>match Xn P t,trO m h1,trO k h2,trO v h3 with
   |some _,some m',some k',some v'=>some (.mset m' k' v')
   |_,_,_,_=>none
 |_=>none
def Yk(d:Nat) (h1 h2:AO):Option AI:=
 match o.op with
 | .lookup t m k false=>match Xn P t,trO m h1,trO k h2 with
   |some _,some m',some k'=>some (.mget d m' k')
   |_,_,_=>none
 |_=>none
def Yi(d:Nat) (h1 h2:AO):Option AI:=
 match o.op with
 | .mapEntry t m k=>match Xn P t,trO m h1,trO k h2 with
   |some _,some m',some k'=>some (.men d m' k')
   |_,_,_=>none
 |_=>none
def Yj(h1 h2 h3:AO):Option AI:=
 match o.op with
 | .entryStore _ m k v=>match trO m h1,trO k h2,trO v h3 with
   |some m',some k',some v'=>some (.mes m' k' v')
   |_,_,_=>none
 |_=>none
end
section
variable {P:Program} {N:Nat} {o:Oper} {E:Env} {c:Cnt} {st st':St} {a:Act} {d:Nat} {call:qS} {ai:AI}
theorem zi(h:okD N o d=true):o.dst=some d∧d < N:=by simpa [okD]using h
theorem Jp {x:Option Operand} {h y:Option AO} (ht:Ys x h=some y):(x=none∧y=none)∨ ∃ u h' v,x=some u∧trO u h'=some v∧y=some v:=by
 unfold Ys at ht
 split at ht
 ·simp only [Option.some.injEq]at ht;exact .inl ⟨rfl,ht.symm⟩
 ·rw [Option.map_eq_some_iff]at ht
  obtain ⟨v,h1,rfl⟩:=ht
  exact .inr ⟨_,_,_,rfl,h1,rfl⟩
 ·cases ht
theorem qeE {h:AO} (hd:okD N o d=true) (ht:jf o d h=some ai) (hs:qh call st ai=some st') (hf:FRel N E st a.tmps c):qE N E st st' o.dst ((execOp a.eval o).run P E.w):=by
 obtain ⟨hd,hn⟩:=zi hd
 unfold jf at ht
 split at ht
 all_goals (first|(cases ht;done)|skip)
 all_goals
  rename_i x ho
  rw [Option.map_eq_some_iff]at ht
  obtain ⟨x',h1,rfl⟩:=ht
  rw [hd,execOp];simp only [ho]
  exact qk8 h1 hs hf hn
theorem qeH {h1 h2 h3:AO} (hd:okD N o d=true) (ht:Yt o d h1 h2 h3=some ai) (hs:qh call st ai=some st') (hf:FRel N E st a.tmps c):qE N E st st' o.dst ((execOp a.eval o).run P E.w):=by
 obtain ⟨hd,hn⟩:=zi hd
 unfold Yt at ht
 split at ht
 case h_2=>cases ht
 rename_i cc x y ho
 split at ht
 case h_2=>cases ht
 rename_i q1 q2 q3
 simp only [Option.some.injEq]at ht;subst ht
 rw [hd,execOp];simp only [ho]
 exact qla q1 q2 q3 hs hf hn
theorem qb3(r:Result Addr):((r.andThen fun a w'=> .ok (Value.pointer (some a)) w').andThen fun a w'=>Result.ok (Next.value a) w')=r.andThen fun a w'=> .ok (Next.value (.pointer (some a))) w':=by
 cases r<;>rfl
theorem qkk {h:AO} (hd:okD N o d=true) (ht:Yq P o d h=some ai) (hs:qh call st ai=some st') (hf:FRel N E st a.tmps c):zp N E c st' a o.dst ((execOp a.eval o).run P E.w):=by
 obtain ⟨hd,hn⟩:=zi hd
 unfold Yq at ht
 split at ht
 ·rename_i t z ho
  split at ht
  case h_2=>cases ht
  rename_i v hv
  rw [Option.map_eq_some_iff]at ht
  obtain ⟨x,hx,rfl⟩:=ht
  unfold YB at hv
  rw [Option.bind_eq_some_iff]at hv
  obtain ⟨i,hi,hz⟩:=hv
  have:=qfi (P:=P) (v:=v) (t:=t) (fun z hz=>by simp only [ev,Option.some.injEq]at hz;subst hz;exact qa9 hx) hs hf hn
  rw [hd,execOp];simp only [ho]
  simpa only [Instr.alloc,zeroValue,Sem.run_bind,Z2 hi,hz,Result.andThen_ok,Sem.run_pure,qb3]using this
 ·rename_i t x ho
  rw [Option.map_eq_some_iff]at ht
  obtain ⟨x',hx,rfl⟩:=ht
  have:=qfi (P:=P) (v:=a.eval x) (t:=t) (fun z hz=>qB hf.σ hx hz) hs hf hn
  rw [hd,execOp];simp only [ho]
  simpa only [Instr.box,Sem.run_bind,Result.andThen_ok,Sem.run_pure,qb3]using this
 ·cases ht
theorem qkd {h:AO} (hd:okD N o d=true) (ht:Yf P o d h=some ai) (hs:qh call st ai=some st') (hf:FRel N E st a.tmps c):zp N E c st' a o.dst ((execOp a.eval o).run P E.w):=by
 obtain ⟨hd,hn⟩:=zi hd
 unfold Yf at ht
 split at ht
 case h_2=>cases ht
 rename_i t p ho
 obtain ⟨p',q,h1,h2,rfl⟩:=jb ht
 rw [hd,execOp];simp only [ho]
 exact qkY h1 h2 hs hf hn
theorem qeB {h:AO} (hd:okD N o d=true) (ht:Yg P o d h=some ai) (hs:qh call st ai=some st') (hf:FRel N E st a.tmps c):qE N E st st' o.dst ((execOp a.eval o).run P E.w):=by
 obtain ⟨hd,hn⟩:=zi hd
 unfold Yg at ht
 split at ht
 case h_2=>cases ht
 rename_i t p ho
 obtain ⟨p',q,h1,h2,rfl⟩:=jb ht
 rw [hd,execOp];simp only [ho]
 exact qkZ h1 h2 hs hf hn
theorem qkl {h1 h2:AO} (hd:o.dst=none) (ht:Yx P o h1 h2=some ai) (hs:qh call st ai=some st') (hf:FRel N E st a.tmps c):zp N E c st' a o.dst ((execOp a.eval o).run P E.w):=by
 unfold Yx at ht
 split at ht
 case h_2=>cases ht
 rename_i t p x ho
 split at ht
 case h_2=>cases ht
 rename_i q1 q2 q3
 simp only [Option.some.injEq]at ht;subst ht
 rw [hd,execOp];simp only [ho]
 exact qle q1 q2 q3 hs hf
theorem qeG {h:AO} (hd:okD N o d=true) (ht:Yr o d h=some ai) (hs:qh call st ai=some st') (hf:FRel N E st a.tmps c):qE N E st st' o.dst ((execOp a.eval o).run P E.w):=by
 obtain ⟨hd,hn⟩:=zi hd
 unfold Yr at ht
 split at ht
 case h_2=>cases ht
 rename_i x ho
 rw [Option.map_eq_some_iff]at ht
 obtain ⟨x',h1,rfl⟩:=ht
 rw [hd]
 exact qk9 ho h1 hs hf hn
theorem qev {h:AO} (hd:okD N o d=true) (ht:Z9 P o d h=some ai) (hs:qh call st ai=some st') (hf:FRel N E st a.tmps c):qE N E st st' o.dst ((execOp a.eval o).run P E.w):=by
 obtain ⟨hd,hn⟩:=zi hd
 unfold Z9 at ht
 split at ht
 case h_2=>cases ht
 rename_i s x f ho
 split at ht
 case h_2=>cases ht
 rename_i x' fl q1 q2
 split at ht
 case h_2=>cases ht
 rename_i n q3
 split at ht
 case isFalse=>cases ht
 rename_i h0
 simp only [Option.some.injEq]at ht;subst ht
 rw [hd,execOp];simp only [ho]
 exact qkS q1 q2 q3 h0 hs hf hn
theorem qew {h:AO} (hd:okD N o d=true) (ht:Ya P o d h=some ai) (hs:qh call st ai=some st') (hf:FRel N E st a.tmps c):qE N E st st' o.dst ((execOp a.eval o).run P E.w):=by
 obtain ⟨hd,hn⟩:=zi hd
 unfold Ya at ht
 split at ht
 case h_2=>cases ht
 rename_i s x f ho
 split at ht
 case h_2=>cases ht
 rename_i x' fl q1 q2
 rw [Option.map_eq_some_iff]at ht
 obtain ⟨q,q3,rfl⟩:=ht
 rw [hd,execOp];simp only [ho]
 exact qkT q1 q2 q3 hs hf hn
theorem qey {h1 h2:AO} (hd:okD N o d=true) (ht:Yc P o d h1 h2=some ai) (hs:qh call st ai=some st') (hf:FRel N E st a.tmps c):qE N E st st' o.dst ((execOp a.eval o).run P E.w):=by
 obtain ⟨hd,hn⟩:=zi hd
 unfold Yc at ht
 split at ht
 case h_2=>cases ht
 rename_i t x i ho
 split at ht
 case h_2=>cases ht
 rename_i q1 q2 q3
 simp only [Option.some.injEq]at ht;subst ht
 rw [hd,execOp];simp only [ho]
 exact qkV q1 q2 q3 hs hf hn
theorem qeA {h1 h2:AO} (hd:okD N o d=true) (ht:Ye P o d h1 h2=some ai) (hs:qh call st ai=some st') (hf:FRel N E st a.tmps c):qE N E st st' o.dst ((execOp a.eval o).run P E.w):=by
 obtain ⟨hd,hn⟩:=zi hd
 unfold Ye at ht
 split at ht
 case h_2=>cases ht
 rename_i t x i ho
 split at ht
 case h_2=>cases ht
 rename_i q1 q2 q3
 simp only [Option.some.injEq]at ht;subst ht
 rw [hd,execOp];simp only [ho]
 exact qkX q1 q2 q3 hs hf hn
theorem qer {h1 h2:AO} (hd:okD N o d=true) (ht:Z5 o d h1 h2=some ai) (hs:qh call st ai=some st') (hf:FRel N E st a.tmps c):qE N E st st' o.dst ((execOp a.eval o).run P E.w):=by
 obtain ⟨hd,hn⟩:=zi hd
 unfold Z5 at ht
 split at ht
 case h_2=>cases ht
 rename_i op t x y ty ho
 obtain ⟨x',y',q1,q2,rfl⟩:=jb ht
 rw [hd,execOp];simp only [ho]
 exact qkP q1 q2 hs hf hn
theorem qet {neg:Bool} {h1 h2:AO} (hd:okD N o d=true) (ht:Z7 P o d neg h1 h2=some ai) (hs:qh call st ai=some st') (hf:FRel N E st a.tmps c):qE N E st st' o.dst ((execOp a.eval o).run P E.w):=by
 obtain ⟨hd,hn⟩:=zi hd
 unfold Z7 at ht
 split at ht
 ·rename_i t x y ty ho
  split at ht
  case h_2=>cases ht
  rename_i q1 q2 q3
  simp only [Option.some.injEq]at ht;subst ht
  rw [hd,execOp];simp only [ho]
  exact qfg q1 q2 q3 hs hf hn
 ·rename_i t x y ty ho
  split at ht
  case h_2=>cases ht
  rename_i q1 q2 q3
  simp only [Option.some.injEq]at ht;subst ht
  rw [hd,execOp];simp only [ho]
  exact qfg q1 q2 q3 hs hf hn
 ·cases ht
theorem qeM {h:AO} (hd:okD N o d=true) (ht:Yz o d h=some ai) (hs:qh call st ai=some st') (hf:FRel N E st a.tmps c):qE N E st st' o.dst ((execOp a.eval o).run P E.w):=by
 obtain ⟨hd,hn⟩:=zi hd
 unfold Yz at ht
 split at ht
 case h_2=>cases ht
 rename_i op t x ho
 rw [Option.map_eq_some_iff]at ht
 obtain ⟨x',h1,rfl⟩:=ht
 rw [hd,execOp];simp only [ho]
 exact qlg h1 hs hf hn
theorem qeu {h:AO} (hd:okD N o d=true) (ht:Z8 o d h=some ai) (hs:qh call st ai=some st') (hf:FRel N E st a.tmps c):qE N E st st' o.dst ((execOp a.eval o).run P E.w):=by
 obtain ⟨hd,hn⟩:=zi hd
 unfold Z8 at ht
 split at ht
 case h_2=>cases ht
 rename_i x i ho
 rw [Option.map_eq_some_iff]at ht
 obtain ⟨x',h1,rfl⟩:=ht
 rw [hd,execOp];simp only [ho]
 exact qkR h1 hs hf hn
theorem qex {hf' hc:List AO} (hd:okD N o d=true) (ht:Yb o d hf' hc=some ai) (hs:qh call st ai=some st') (hf:FRel N E st a.tmps c):qE N E st st' o.dst ((execOp a.eval o).run P E.w):=by
 obtain ⟨hd,hn⟩:=zi hd
 unfold Yb at ht
 split at ht
 case h_2=>cases ht
 rename_i fn first caps ho
 obtain ⟨f',c',q1,q2,rfl⟩:=jb ht
 rw [hd,execOp];simp only [ho]
 exact qkU q1 q2 hs hf hn
theorem qeI {h:AO} {hl hh:Option AO} (hd:okD N o d=true) (ht:Yu P o d h hl hh=some ai) (hs:qh call st ai=some st') (hf:FRel N E st a.tmps c):qE N E st st' o.dst ((execOp a.eval o).run P E.w):=by
 obtain ⟨hd,hn⟩:=zi hd
 unfold Yu at ht
 split at ht
 case h_2=>cases ht
 rename_i t x lo hi ho
 split at ht
 case h_2=>cases ht
 rename_i q1 q2 q3 q4
 simp only [Option.some.injEq]at ht;subst ht
 rw [hd,execOp];simp only [ho]
 exact qlb q1 (Jp q2) (Jp q3) q4 hs hf hn
theorem qeK {h:AO} {hl hh:Option AO} (hd:okD N o d=true) (ht:Yw P o d h hl hh=some ai) (hs:qh call st ai=some st') (hf:FRel N E st a.tmps c):qE N E st st' o.dst ((execOp a.eval o).run P E.w):=by
 obtain ⟨hd,hn⟩:=zi hd
 unfold Yw at ht
 split at ht
 case h_2=>cases ht
 rename_i t x lo hi ho
 split at ht
 case h_2=>cases ht
 rename_i q1 q2 q3 q4
 simp only [Option.some.injEq]at ht;subst ht
 rw [hd,execOp];simp only [ho]
 exact qld q1 (Jp q2) (Jp q3) q4 hs hf hn
theorem qes {hz:V} {hp:List AO} (hd:okD N o d=true) (ht:Z6 P o d hz hp=some ai) (hs:qh call st ai=some st') (hf:FRel N E st a.tmps c):qE N E st st' o.dst ((execOp a.eval o).run P E.w):=by
 obtain ⟨hd,hn⟩:=zi hd
 unfold Z6 at ht
 split at ht
 case h_2=>cases ht
 rename_i t parts ho
 split at ht
 case h_2=>cases ht
 rename_i z places q1 q2
 split at ht
 case h_2=>cases ht
 rename_i zv p' q3 q4
 simp only [Option.some.injEq]at ht;subst ht
 unfold YB at q1
 rw [Option.bind_eq_some_iff]at q1
 obtain ⟨i,hi,hzz⟩:=q1
 rw [hd,execOp];simp only [ho]
 exact qkQ (zv:= .a zv) hi hzz q3 q2 q4 hs hf hn
theorem qbn {t:TypeId} {q:TypeInfo × Value} (h:slZ P t=some q): ∃ et,P.underlying t=some (.slice et)∧P.info? et=some q.1∧q.1.zero=some q.2∧q.2.cells.size=q.1.size∧q.1.bytes≤1048576:=by
 unfold slZ at h
 split at h
 case h_2=>cases h
 rename_i r hr
 split at h
 case h_2=>cases h
 rename_i z hz
 split at h
 case isFalse=>cases h
 rename_i hc
 simp only [Option.some.injEq]at h;subst h
 unfold slT at hr
 split at hr
 case h_2=>cases hr
 rename_i e he
 rw [Option.map_eq_some_iff]at hr
 obtain ⟨i,hi,rfl⟩:=hr
 exact ⟨e,he,hi,hz,hc.1,hc.2⟩
theorem qki {hp:List AO} (hd:okD N o d=true) (ht:Yn P o d hp=some ai) (hs:qh call st ai=some st') (hf:FRel N E st a.tmps c):zp N E c st' a o.dst ((execOp a.eval o).run P E.w):=by
 obtain ⟨hd,hn⟩:=zi hd
 unfold Yn at ht
 split at ht
 case h_2=>cases ht
 rename_i t len parts ho
 split at ht
 case h_2=>cases ht
 rename_i q p' q1 q2
 split at ht
 case isFalse=>cases ht
 rename_i hc
 obtain ⟨hlen,hix,hlim⟩:=hc
 simp only [Option.some.injEq]at ht;subst ht
 obtain ⟨et,h1,h2,h3,h4,h5⟩:=qbn q1
 have hl:(parts.toList.map (·.2)).length=len:=by rw [List.length_map,hlen]
 have hlim':(parts.toList.map (·.2)).length*q.1.size≤2 ^ 24:=by rw [hl];exact hlim
 have:=qk6 (P:=P) q2 h1 h2 h3 h4 hlim' hs hf hn
 rw [hl]at this
 have e:(parts.map fun (i,x)=>(i,a.eval x))=((List.range' 0 len).zip ((parts.toList.map (·.2)).map a.eval)).toArray:=by
  apply Array.ext'
  rw [Array.toList_map, ← hix]
  simp only [List.map_map]
  rw [List.zip_map']
  rfl
 rw [hd,execOp];simp only [ho]
 rw [e]
 exact this
theorem qkg {hz:V} {h1 h2:AO} (hd:okD N o d=true) (ht:Yl P o d hz h1 h2=some ai) (hs:qh call st ai=some st') (hf:FRel N E st a.tmps c):zp N E c st' a o.dst ((execOp a.eval o).run P E.w):=by
 obtain ⟨hd,hn⟩:=zi hd
 unfold Yl at ht
 split at ht
 case h_2=>cases ht
 rename_i t l cc ho
 split at ht
 case h_2=>cases ht
 rename_i q l' c' q1 q2 q3
 rw [Option.map_eq_some_iff]at ht
 obtain ⟨z,hz,rfl⟩:=ht
 obtain ⟨et,g1,g2,g3,g4,g5⟩:=qbn q1
 rw [hd,execOp];simp only [ho]
 exact qk4 q2 q3 g1 g2 g3 hz g4 hs hf hn
theorem Ji {b:Builtin} {xs:List Operand} {ts:List TypeId} (h:ZI o=some (b,xs,ts)) (w:World): ∃ consts,(execOp a.eval o).run P w=(builtin b ts.toArray o.type consts (xs.map a.eval).toArray).run P w:=by
 unfold ZI at h
 split at h
 case h_2=>cases h
 rename_i cl ho
 split at h
 case h_2=>cases h
 rename_i b' hb
 simp only [Option.some.injEq,Prod.mk.injEq]at h
 obtain ⟨rfl,rfl,rfl⟩:=h
 rw [execOp];simp only [ho,resolve,hb,invoke,Sem.run_bind,Sem.run_pure,Result.andThen_ok]
 refine ⟨cl.args.map (fun| .const _=>true|_=>false), ?_⟩
 have e1:(List.map a.eval cl.args.toList).toArray=cl.args.map a.eval:=by rw [← Array.toList_map]
 rw [e1]
 rfl
theorem qeC {h:AO} (hd:okD N o d=true) (ht:Yh P o d h=some ai) (hs:qh call st ai=some st') (hf:FRel N E st a.tmps c):qE N E st st' o.dst ((execOp a.eval o).run P E.w):=by
 obtain ⟨hd,hn⟩:=zi hd
 unfold Yh at ht
 split at ht
 case h_2=>cases ht
 rename_i x t hb
 split at ht
 case h_2=>cases ht
 rename_i x' e q1 q2
 simp only [Option.some.injEq]at ht;subst ht
 obtain ⟨cs,hrun⟩:=Ji (P:=P) (a:=a) hb E.w
 rw [hd,hrun]
 exact qk0 q1 q2 hs hf hn
theorem qeJ {h:AO} (hd:okD N o d=true) (ht:Yv P o d h=some ai) (hs:qh call st ai=some st') (hf:FRel N E st a.tmps c):qE N E st st' o.dst ((execOp a.eval o).run P E.w):=by
 obtain ⟨hd,hn⟩:=zi hd
 unfold Yv at ht
 split at ht
 case h_2=>cases ht
 rename_i x t hb
 split at ht
 case h_2=>cases ht
 rename_i x' q1 q2
 simp only [Option.some.injEq]at ht;subst ht
 obtain ⟨cs,hrun⟩:=Ji (P:=P) (a:=a) hb E.w
 rw [hd,hrun]
 exact qlc q1 q2 hs hf hn
theorem qkb {h1 h2:AO} (hd:okD N o d=true) (ht:Z4 P o d h1 h2=some ai) (hs:qh call st ai=some st') (hf:FRel N E st a.tmps c):zp N E c st' a o.dst ((execOp a.eval o).run P E.w):=by
 obtain ⟨hd,hn⟩:=zi hd
 unfold Z4 at ht
 split at ht
 case h_2=>cases ht
 rename_i x y t t' hb
 split at ht
 case h_2=>cases ht
 rename_i x' y' q e q1 q2 q3 q4
 simp only [Option.some.injEq]at ht;subst ht
 obtain ⟨et,g1,g2,g3,g4,g5⟩:=qbn q3
 obtain ⟨cs,hrun⟩:=Ji (P:=P) (a:=a) hb E.w
 rw [hd,hrun]
 exact qkO q1 q2 g1 g2 g3 q4 g5 g4 hs hf hn
theorem qeF {mx:Bool} {hs':List AO} (hd:okD N o d=true) (ht:Yp o d mx hs'=some ai) (hs:qh call st ai=some st') (hf:FRel N E st a.tmps c):qE N E st st' o.dst ((execOp a.eval o).run P E.w):=by
 obtain ⟨hd,hn⟩:=zi hd
 unfold Yp at ht
 split at ht
 case h_2=>cases ht
 split at ht
 case h_3=>cases ht
 all_goals
  rename_i x y ts hb
  obtain ⟨x',y',q1,q2,rfl⟩:=jb ht
  obtain ⟨cs,hrun⟩:=Ji (P:=P) (a:=a) hb E.w
  rw [hd,hrun]
 ·exact qfh (t:=ts.toArray) (ty:=o.type) (mx:=true) q1 q2 hs hf hn
 ·exact qfh (t:=ts.toArray) (ty:=o.type) (mx:=false) q1 q2 hs hf hn
theorem qez {h:AO} (hd:okD N o d=true) (ht:Yd P o d h=some ai) (hs:qh call st ai=some st') (hf:FRel N E st a.tmps c):qE N E st st' o.dst ((execOp a.eval o).run P E.w):=by
 obtain ⟨hd,hn⟩:=zi hd
 unfold Yd at ht
 split at ht
 case h_2=>cases ht
 rename_i src dst x ho
 split at ht
 case h_2=>cases ht
 rename_i x' k k' q1 q2 q3
 simp only [Option.some.injEq]at ht;subst ht
 rw [hd,execOp];simp only [ho]
 exact qkW q1 q2 q3 hs hf hn
theorem qeL {h:AO} (hd:okD N o d=true) (ht:Yy P o d h=some ai) (hs:qh call st ai=some st') (hf:FRel N E st a.tmps c):qE N E st st' o.dst ((execOp a.eval o).run P E.w):=by
 obtain ⟨hd,hn⟩:=zi hd
 unfold Yy at ht
 split at ht
 case h_2=>cases ht
 rename_i src dst x ho
 split at ht
 case h_2=>cases ht
 rename_i x' e q1 q2 q3
 split at ht
 case h_2=>cases ht
 rename_i q4
 simp only [Option.some.injEq]at ht;subst ht
 rw [hd,execOp];simp only [ho]
 exact qlf q1 q2 q3 q4 hs hf hn
theorem qaE {t:TypeId} {q:TypeId × TypeId} (h:Xn P t=some q): ∃ kt et i,P.underlying t=some (.map kt et)∧P.underlying kt=some (.int .i64)∧P.info? et=some i∧i.zero=some (.int .i64 0):=by
 unfold Xn at h
 split at h
 case h_2=>cases h
 rename_i kt et hu
 split at h
 case h_2=>cases h
 rename_i hk hz
 unfold YB at hz
 rw [Option.bind_eq_some_iff]at hz
 obtain ⟨i,hi,hz⟩:=hz
 exact ⟨kt,et,i,hu,hk,hi,hz⟩
theorem qkh(hd:okD N o d=true) (ht:Ym o d=some ai) (hs:qh call st ai=some st') (hf:FRel N E st a.tmps c):zp N E c st' a o.dst ((execOp a.eval o).run P E.w):=by
 obtain ⟨hd,hn⟩:=zi hd
 unfold Ym at ht
 split at ht
 case h_2=>cases ht
 rename_i t ho
 simp only [Option.some.injEq]at ht;subst ht
 rw [hd,execOp];simp only [ho]
 exact qk5 hs hf hn
theorem qkj {h1 h2 h3:AO} (hd:o.dst=none) (ht:Yo P o h1 h2 h3=some ai) (hs:qh call st ai=some st') (hf:FRel N E st a.tmps c):zp N E c st' a o.dst ((execOp a.eval o).run P E.w):=by
 unfold Yo at ht
 split at ht
 case h_3=>cases ht
 all_goals
  rename_i t m k v ho
  split at ht
  case h_2=>cases ht
  rename_i q m' k' v' q0 q1 q2 q3
  simp only [Option.some.injEq]at ht;subst ht
  obtain ⟨kt,et,i,hu,hk,hi,hz⟩:=qaE q0
  rw [hd,execOp];simp only [ho]
  exact qk7 hu hk q1 q2 q3 hs hf
theorem qeD {h1 h2:AO} (hd:okD N o d=true) (ht:Yk P o d h1 h2=some ai) (hs:qh call st ai=some st') (hf:FRel N E st a.tmps c):qE N E st st' o.dst ((execOp a.eval o).run P E.w):=by
 obtain ⟨hd,hn⟩:=zi hd
 unfold Yk at ht
 split at ht
 case h_2=>cases ht
 rename_i t m k ho
 split at ht
 case h_2=>cases ht
 rename_i q m' k' q0 q1 q2
 simp only [Option.some.injEq]at ht;subst ht
 obtain ⟨kt,et,i,hu,hk,hi,hz⟩:=qaE q0
 rw [hd,execOp];simp only [ho]
 exact qk3 hu hk hi hz q1 q2 hs hf hn
theorem qke {h1 h2:AO} (hd:okD N o d=true) (ht:Yi P o d h1 h2=some ai) (hs:qh call st ai=some st') (hf:FRel N E st a.tmps c):zp N E c st' a o.dst ((execOp a.eval o).run P E.w):=by
 obtain ⟨hd,hn⟩:=zi hd
 unfold Yi at ht
 split at ht
 case h_2=>cases ht
 rename_i t m k ho
 split at ht
 case h_2=>cases ht
 rename_i q m' k' q0 q1 q2
 simp only [Option.some.injEq]at ht;subst ht
 obtain ⟨kt,et,i,hu,hk,hi,hz⟩:=qaE q0
 rw [hd,execOp];simp only [ho]
 exact qk1 hu hk hi hz q1 q2 hs hf hn
theorem qkf {h1 h2 h3:AO} (hd:o.dst=none) (ht:Yj o h1 h2 h3=some ai) (hs:qh call st ai=some st') (hf:FRel N E st a.tmps c):zp N E c st' a o.dst ((execOp a.eval o).run P E.w):=by
 unfold Yj at ht
 split at ht
 case h_2=>cases ht
 rename_i t m k v ho
 split at ht
 case h_2=>cases ht
 rename_i m' k' v' q1 q2 q3
 simp only [Option.some.injEq]at ht;subst ht
 rw [hd,execOp];simp only [ho]
 exact qk2 q1 q2 q3 hs hf
end
end Go.Vm
namespace Go.Vm
variable [Lay]
def jn(P:Program) (w:World) (R:Value→World→Prop):Result Next→Prop
 | .ok (.enter f args) w'=>w'=w∧Calls P f args w (fun e w''=> ∃ y,e= .returned y∧R y w'')
 | .ok (.value y) w'=>R y w'
 |_=>False
theorem jn.mono {P:Program} {w:World} {R R':Value→World→Prop} {r:Result Next} (h:jn P w R r) (hr: ∀ y w',R y w'→R' y w'):jn P w R' r:=by
 unfold jn at*
 split
 ·exact ⟨h.1,h.2.mono fun e w' ⟨y,h1,h2⟩=>⟨y,h1,hr _ _ h2⟩⟩
 ·exact hr _ _ h
 ·rename_i h1 h2
  split at h
  ·exact (h1 _ _ _ rfl).elim
  ·exact (h2 _ _ rfl).elim
  ·exact h
def YC(P:Program) (f:Nat) (xs:List V) (r:V) (outs:List V):Prop:=
 ∀ (E:Env) (vs:List Value) (c:Cnt),qk E.cl xs vs c→Good E c→
  jn P E.w (fun y w'=> ∃ E' cr co,E'.w=w'∧Rel E'.cl r y cr∧qk E'.cl outs vs co∧Good E' (qg cr co)∧Adv E c E' (qg cr co)) ((callFunc f vs.toArray).run P E.w)
def kj(P:Program) (call:qS):Prop:= ∀ f xs r outs,call f xs=some (r,outs)→YC P f xs r outs
section
variable {P:Program} {N:Nat} {E:Env} {c:Cnt} {st st':St} {a:Act} {call:qS}
theorem qgg {d:Nat} {x:V} {y:Value} {c1 c2:Cnt} (hsz:a.tmps.size=N) (hσ:zo E st.σ a.tmps) (hT:qn E st.T c1) (hx:Rel E.cl x y c2) (hg:Good E (qg c1 c2)) (hd:d < N):
 ∃ E' c',E'.w=E.w∧E'.I=E.I∧xx (some d) E E'∧FRel N E' (jW d x st) (a.put (some d) y).tmps c'∧cle c' (qg c1 c2):=by
 unfold jW
 split
 ·obtain ⟨c3,hσ1,hT1,hle1⟩:=Qe d hσ hT
  have hx1:Rel (E.drop d) x y c2:=zP hx (xY (E.drop d) c2)
  obtain ⟨E',c',j',hn,h1,h2,h3⟩:=qaN (d:=d) (fun i=>kz E d i) hx1
  have hcc:cle (qg c' c3) (qg c1 c2):=fun b=>by have:=hle1 b;have:=h3 b;simp only [qg]at*;omega
  refine ⟨E',qg c' c3,hn.hw,hn.hI,jx hn.hout,⟨by simpa [Act.put]using hsz, ?_, ?_,jw hn.hw hn.hI hcc (hg.drop d)⟩,hcc⟩
  ·exact QX (xq hσ1 (hn.mono _)) h1 (by rw [hsz];exact hd)
  ·exact yT h2 (zH hT1 (hn.mono _))
 ·rename_i hz
  have h0:=QU hx (by simpa using hz)
  subst h0
  refine ⟨E,c1,rfl,rfl,Zw, ?_,jt _ _⟩
  have hF:FRel N E st a.tmps c1:=⟨hsz,hσ,hT,hg.le (jt _ _)⟩
  exact hF.put (zP hx (xY E c0)) hd
theorem qci {d:Option Nat} {x:V} {y:Value} {c1 c2:Cnt} (hsz:a.tmps.size=N) (hσ:zo E st.σ a.tmps) (hT:qn E st.T c1) (hx:Rel E.cl x y c2) (hg:Good E (qg c1 c2)) (hd: ∀ t,d=some t→t < N):
 ∃ E' c',E'.w=E.w∧E'.I=E.I∧xx d E E'∧FRel N E' (xi d x st) (a.put d y).tmps c'∧cle c' (qg c1 c2):=by
 cases d with
 |some d=>exact qgg hsz hσ hT hx hg (hd d rfl)
 |none=>exact ⟨E,c1,rfl,rfl,Zw,⟨by simpa [Act.put]using hsz,by simpa [Act.put,xi]using hσ,hT,hg.le (jt _ _)⟩,jt _ _⟩
section
variable {E1 E':Env} {T:Mem}
theorem qcb {cT:Cnt} (hT:qn E T cT) (hw1:E1.w=E'.w) (hcl:E1.cl=E'.cl) (hμ1:E1.μ=E.μ) (hsizes: ∀ b n,z1 E.w b=some n→z1 E'.w b=some n)
 {x y:V} {v:Value} {c':Cnt} (hx:Rel E x v c0) (hy:Rel E'.cl y v c'): ∃ cb,qn E1 (yw T x y) cb∧cle cb c':=by
 have hnil: ∃ cb,qn E1 [] cb∧cle cb c':=⟨c0,rfl,fun _=>Nat.zero_le _⟩
 unfold yw
 split
 ·rename_i k lo len e xs
  split
  case h_2=>exact hnil
  rename_i ob hg
  split
  case isFalse=>exact hnil
  rename_i hc
  obtain ⟨rfl,rfl⟩:=hc
  obtain ⟨co,cr,ho,-,-⟩:=zW hT hg
  simp only [Rel]at hx hy
  obtain ⟨-,hx⟩:=hx
  rcases ho with ⟨_,_,_,_,h1,-⟩|⟨⟨A0,h1⟩,h2,h3⟩|⟨b,base,lim,cells,ty,fz,c3,hμ,hw,hl,hf,hs,hr,-⟩
  ·rcases hx with ⟨A,hμ',-⟩|⟨b,base,e,lim,cap,A,hμ',-⟩<;>(rw [h1]at hμ';cases hμ')
  ·rcases hx with ⟨A,hA,-,-,rfl⟩|⟨b,base,e,lim,cap,A,hμ',-⟩
   ·rcases hy with ⟨rfl,-,rfl⟩|⟨b',base',cap',cells',T',fz',c1,hv,hpos,-⟩
    ·exact ⟨c0,⟨c0,c0,.inr (.inl ⟨⟨A0,by rw [hμ1];exact h1⟩,rfl,rfl⟩),rfl,rfl⟩,qH _⟩
    ·simp only [Value.slice.injEq]at hv;omega
   ·rw [h1]at hμ';cases hμ'
  ·rcases hx with ⟨A,h1,-⟩|⟨b2,base2,e2,lim2,cap,A,hμ',hle,hroom,hpos,hA,rfl⟩
   ·rw [hμ]at h1;cases h1
   ·rw [hμ]at hμ';cases hμ'
    have hp:=hpos trivial
    have hA':=hA.resolve_left (by omega)
    rcases hy with ⟨rfl,⟨A2,hv⟩,rfl⟩|⟨b',base',cap',cells',T',fz',c1,hv,hpos',hle',hs',hw',hf',hr',rfl⟩
    ·simp only [Value.slice.injEq]at hv;omega
    ·simp only [Value.slice.injEq,Option.some.injEq]at hv
     obtain ⟨hA2,hln,rfl⟩:=hv
     rw [hA']at hA2
     simp only [Addr.mk.injEq,Nat.zero_mul,Nat.add_zero,and_true]at hA2
     obtain ⟨rfl,rfl⟩:=hA2
     have hsz:=hsizes b lim (by simp only [z1,hw,hl])
     have hw'':E'.w.heap[b]? =some (.cells cells' T' fz'):=hw'
     simp only [z1,hw'',Option.some.injEq]at hsz
     have hm:xs.length*ob.1≤cap*ob.1:=Nat.mul_le_mul_right _ hle'
     refine ⟨qg (qv b) c1,⟨_,c0,.inr (.inr ⟨b,base,lim,cells',T',fz',c1,by rw [hμ1];exact hμ,by rw [hw1];exact hw'',hsz,hf',by simp only;omega, ?_,rfl⟩),rfl,rfl⟩,qH _⟩
     exact zZ hr' (by have:=xY E1 c1;rw [hcl]at this;exact this)
 ·rename_i k idx off x'
  split
  case h_2=>exact hnil
  rename_i ob hg
  split
  case isFalse=>exact hnil
  rename_i hc
  obtain ⟨rfl,rfl,hc⟩:=hc
  obtain ⟨co,cr,ho,-,-⟩:=zW hT hg
  simp only [Rel]at hx hy
  obtain ⟨-,b2,base2,e2,lim2,hμ',rfl⟩:=hx
  rcases ho with ⟨_,_,_,_,h1,-⟩|⟨⟨A0,h1⟩,h2,h3⟩|⟨b,base,lim,cells,ty,fz,c3,hμ,hw,hl,hf,hs,hr,-⟩
  ·rw [h1]at hμ';cases hμ'
  ·rw [h1]at hμ';cases hμ'
  ·rw [hμ]at hμ';cases hμ'
   obtain ⟨b',base',cells',T',fz',c1,z,hv,hle',hw',hf',hz,hzl,hzo,hr',rfl⟩:=hy
   simp only [Value.pointer.injEq,Option.some.injEq,Addr.mk.injEq,Nat.zero_mul,Nat.add_zero,and_true]at hv
   obtain ⟨rfl,rfl⟩:=hv
   have hsz:=hsizes b2 lim2 (by simp only [z1,hw,hl])
   have hw'':E'.w.heap[b2]? =some (.cells cells' T' fz'):=hw'
   simp only [z1,hw'',Option.some.injEq]at hsz
   refine ⟨qg (qv b2) c1,⟨_,c0,.inr (.inr ⟨b2,base2,lim2,cells',T',fz',c1,by rw [hμ1, ← hc];exact hμ,by rw [hw1];exact hw'',hsz,hf', ?_, ?_,rfl⟩),rfl,rfl⟩,qH _⟩
   ·simp only [List.length_singleton,Nat.one_mul,hzl];omega
   ·simp only [List.length_singleton,Nat.one_mul,hzl]
    rw [← hz]
    exact ZV rfl hzl hzo (zP hr' (by have:=xY E1 c1;rw [hcl]at this;exact this))
 ·exact hnil
theorem Kf {cT:Cnt} (hT:qn E T cT) (hw1:E1.w=E'.w) (hcl:E1.cl=E'.cl) (hμ1:E1.μ=E.μ) (hsizes: ∀ b n,z1 E.w b=some n→z1 E'.w b=some n):
 ∀ {xs ys:List V} {vs:List Value} {c':Cnt},qk E xs vs c0→qk E'.cl ys vs c'→ ∃ cb,qn E1 (kO T xs ys) cb∧cle cb c'
 |[],ys,vs,c',hx,hy=>⟨c0,by simp [kO,qn],fun _=>Nat.zero_le _⟩
 |x::xs,[],vs,c',hx,hy=>⟨c0,by simp [kO,qn],fun _=>Nat.zero_le _⟩
 |x::xs,y::ys,vs,c',hx,hy=>by
  simp only [qk]at hx hy
  obtain ⟨v,t,d1,d2,rfl,h1,h2,hc⟩:=hx
  obtain ⟨v',t',e1,e2,he,h3,h4,rfl⟩:=hy
  simp only [List.cons.injEq]at he
  obtain ⟨rfl,rfl⟩:=he
  obtain ⟨rfl,rfl⟩:=cz hc.symm.symm rfl
  obtain ⟨b1,h5,h6⟩:=qcb hT hw1 hcl hμ1 hsizes h1 h3
  obtain ⟨b2,h7,h8⟩:=Kf hT hw1 hcl hμ1 hsizes h2 h4
  exact ⟨qg b1 b2,by simp only [kO];exact yT h5 h7,yJ h6 h8⟩
theorem qgb {cT:Cnt} (hT:qn E T cT) (hw1:E1.w=E'.w) (hcl:E1.cl=E'.cl) (hμ1:E1.μ=E.μ) (hsizes: ∀ b n,z1 E.w b=some n→z1 E'.w b=some n)
 {x y:V} {v:Value} {c':Cnt} (hx:Rel E x v c0) (hy:Rel E'.cl y v c'): ∃ cb,qn E1 (kr T x y) cb∧cle cb c':=by
 unfold kr
 split
 ·simp only [Rel]at hx hy
  obtain ⟨vs,rfl,h1⟩:=hx
  obtain ⟨vs',he,h2⟩:=hy
  simp only [Value.agg.injEq]at he;subst he
  exact Kf hT hw1 hcl hμ1 hsizes h1 h2
 ·simp only [Rel]at hx hy
  obtain ⟨fs,cs,d1,d2,rfl,h1,h2,hc⟩:=hx
  obtain ⟨fs',cs',e1,e2,he,h3,h4,rfl⟩:=hy
  simp only [Value.func.injEq]at he
  obtain ⟨-,rfl,rfl⟩:=he
  obtain ⟨rfl,rfl⟩:=cz hc.symm.symm rfl
  obtain ⟨b1,h5,h6⟩:=Kf hT hw1 hcl hμ1 hsizes h1 h3
  obtain ⟨b2,h7,h8⟩:=Kf hT hw1 hcl hμ1 hsizes h2 h4
  exact ⟨qg b1 b2,yT h5 h7,yJ h6 h8⟩
 ·exact qcb hT hw1 hcl hμ1 hsizes hx hy
theorem qcc {cT:Cnt} (hT:qn E T cT) (hw1:E1.w=E'.w) (hcl:E1.cl=E'.cl) (hμ1:E1.μ=E.μ) (hsizes: ∀ b n,z1 E.w b=some n→z1 E'.w b=some n):
 ∀ {xs ys:List V} {vs:List Value} {c':Cnt},qk E xs vs c0→qk E'.cl ys vs c'→ ∃ cb,qn E1 (jq T xs ys) cb∧cle cb c'
 |[],ys,vs,c',hx,hy=>⟨c0,by simp [jq,qn],fun _=>Nat.zero_le _⟩
 |x::xs,[],vs,c',hx,hy=>⟨c0,by simp [jq,qn],fun _=>Nat.zero_le _⟩
 |x::xs,y::ys,vs,c',hx,hy=>by
  simp only [qk]at hx hy
  obtain ⟨v,t,d1,d2,rfl,h1,h2,hc⟩:=hx
  obtain ⟨v',t',e1,e2,he,h3,h4,rfl⟩:=hy
  simp only [List.cons.injEq]at he
  obtain ⟨rfl,rfl⟩:=he
  obtain ⟨rfl,rfl⟩:=cz hc.symm.symm rfl
  obtain ⟨b1,h5,h6⟩:=qgb hT hw1 hcl hμ1 hsizes h1 h3
  obtain ⟨b2,h7,h8⟩:=qcc hT hw1 hcl hμ1 hsizes h2 h4
  exact ⟨qg b1 b2,by simp only [jq];exact yT h5 h7,yJ h6 h8⟩
end
theorem qfu {E2:Env} {cT:Cnt} (hT:qn E st.T cT) (hw:E2.w=E.w) (hI: ∀ τ b,E.I τ b→E2.I τ b) (hc: ∀ b,cT b ≠ 0→E2.I true b):
 ∀ {xs:List V} {vs:List Value},qk E xs vs c0→qk E2.cl (xr st.T xs) vs c0
 |[],vs,h=>by simpa only [xr,qk]using h
 |x::xs,vs,h=>by
  simp only [qk,xr]at h ⊢
  obtain ⟨v,t,d1,d2,rfl,h1,h2,hc'⟩:=h
  obtain ⟨rfl,rfl⟩:=cz hc'.symm.symm rfl
  obtain ⟨e1,e2,h3,h4,h5,-⟩:=QB 30 E st.T x v cT c0 hT h1
  refine ⟨v,t,c0,c0,rfl,ZY (E:=E) h4 ⟨hw,hI,fun b hb=>hc b ?_⟩,qfu hT hw hI hc h2,rfl⟩
  have:=h5 b;simp only [qg,c0]at this;omega
theorem Kc {E E':Env} {ci ci':Cnt} (cr:Cnt) (h:Adv E ci E' ci'):Adv E (qg ci cr) E' (qg ci' cr):=by
 refine ⟨h.sizes,h.os,h.tape,h.output,h.size,fun b hb hc=>h.frame b hb (by simp only [qg]at hc;omega),h.sub,fun b hb=> ?_,fun τ b hb=> ?_⟩
 ·simp only [qg]at hb ⊢
  by_cases h0:ci' b=0
  ·exact .inl (by omega)
  ·rcases h.own b h0 with h1|h1
   ·exact .inl (by omega)
   ·exact .inr h1
 ·rcases h.imm τ b hb with h1|h1|h1
  ·exact .inl h1
  ·exact .inr (.inl (by simp only [qg];omega))
  ·exact .inr (.inr h1)
theorem Kw {E E':Env} {ci ci' cr:Cnt} (hg:Good E (qg ci cr)) (h:Adv E ci E' ci') (hg':Good E' ci'):Good E' (qg ci' cr):=by
 have hcr: ∀ b,cr b ≠ 0→b < E.w.heap.size∧ci b=0∧cr b≤1:=fun b hb=>by
  have h1:=hg.one b;have h2:=hg.bnd b (by simp only [qg];omega)
  simp only [qg]at h1
  exact ⟨h2,by omega,by omega⟩
 refine ⟨fun b=> ?_,fun τ b hb=> ?_,hg'.sub,fun b hb=> ?_,hg'.lay⟩
 ·have h1:=hg'.one b
  simp only [qg]
  by_cases h0:cr b=0
  ·omega
  ·obtain ⟨h2,h3,h4⟩:=hcr b h0
   have:ci' b=0:=by
    cases h5:ci' b with
    |zero=>rfl
    |succ n=>rcases h.own b (by omega)with h6|h6<;>omega
   omega
 ·have h1:=hg'.imm τ b hb
  simp only [qg]
  refine ⟨?_,h1.2⟩
  by_cases h0:cr b=0
  ·omega
  ·obtain ⟨h2,h3,h4⟩:=hcr b h0
   exfalso
   rcases h.imm τ b hb with h5|h5|h5
   ·have:=(hg.imm τ b h5).1;simp only [qg]at this;omega
   ·omega
   ·omega
 ·simp only [qg]at hb
  by_cases h0:cr b=0
  ·exact hg'.bnd b (by omega)
  ·have:=(hcr b h0).1;have:=h.size;omega
theorem Xp {E E':Env} {ci ci' cr:Cnt} (hg:Good E (qg ci cr)) (h:Adv E ci E' ci') (hμ: ∀ k l,E.μ k=some l→E'.μ k=some l):Mono E E' cr:=by
 refine ⟨fun τ b hb=>⟨h.sub τ b hb,h.frame b (hg.imm τ b hb).2 (by have:=(hg.imm τ b hb).1;simp only [qg]at this;omega)⟩,fun b hb=> ?_,hμ⟩
 have h1:=hg.one b;have h2:=hg.bnd b (by simp only [qg];omega)
 simp only [qg]at h1
 exact h.frame b h2 (by omega)
theorem qe6(hC:kj P call) {g:Nat} {T:Mem} {xs:List V} {vs:List Value} {fz:Bool} {r:V} {outs:List V} (hcall:call g (xr T xs)=some (r,outs)) (hnt:qP r=true)
 (hx:qk E xs vs c0) (hT:qn E T c) (hgE:Good E c):
 jn P E.w (fun y w'=> ∃ E3 c5,E3.w=w'∧E3.μ=E.μ∧Rel E3.cl (fzV fz r) y c5∧Good E3 c5∧(∀ b,b < E.w.heap.size→w'.heap[b]? =E.w.heap[b]?)∧Adv E c0 E3 c5) ((callFunc g vs.toArray).run P E.w):=by
 have h:FRel 0 E {σ:=[],T:=T} #[] c:=⟨rfl,fun t x hx=>(by cases hx),hT,hgE⟩
 have hcb: ∀ b,E.w.heap.size≤b→c b=0:=fun b hb=>by
  cases hc:c b with
  |zero=>rfl
  |succ n=>have:=h.g.bnd b (by omega);omega
 let E2:Env:={E with I:=fun τ b=>E.I τ b∨(τ=true∧c b ≠ 0)}
 have hx2:qk E2.cl (xr T xs) vs c0:=qfu (E:=E) (st:={σ:=[],T:=T}) (E2:=E2) h.T rfl (fun τ b hb=> .inl hb) (fun b hb=> .inr ⟨rfl,hb⟩) hx
 have hg2:Good E2 c0:=by
  refine ⟨fun b=>Nat.zero_le _,fun τ b hb=>⟨rfl, ?_⟩,fun b hb=> ?_,fun b hb=>absurd rfl hb,h.g.lay.next (fun b hb=> .inl hb) (fun b hb=>rfl)⟩
  ·rcases hb with hb|⟨-,hb⟩
   ·exact (h.g.imm τ b hb).2
   ·exact h.g.bnd b hb
  ·rcases hb with hb|⟨h0,-⟩
   ·exact .inl (h.g.sub b hb)
   ·cases h0
 refine (hC g _ r outs hcall E2 vs c0 hx2 hg2).mono ?_
 rintro y w' ⟨E',cr,co,hw,hr,-,hg,hA⟩
 let E3:Env:={w:=E'.w,I:=fun τ b=>E'.I false b∨(τ=true∧E.I true b)∨(fz=true∧cr b ≠ 0),μ:=E.μ}
 let E30:Env:={w:=E'.w,I:=fun τ b=>E'.I false b∨(τ=true∧E.I true b),μ:=E.μ}
 have hr30:Rel E30.cl r y cr:=K7 (E:=E'.cl) hr hnt ⟨rfl,fun b hb=> .inl hb⟩
 have hres: ∃ c5,Rel E3.cl (fzV fz r) y c5∧cle c5 cr∧(fz=true→c5=c0):=by
  unfold fzV
  cases fz with
  |true=>
   rw [if_pos rfl]
   refine ⟨c0,ZY (E:=E30) hr30 ⟨rfl,fun σ b hb=>hb.imp id .inl,fun b hb=> .inr (.inr ⟨rfl,hb⟩)⟩,fun _=>Nat.zero_le _,fun _=>rfl⟩
  |false=>
   rw [if_neg (by simp)]
   refine ⟨cr,zP hr30 ⟨fun τ b hb=>⟨hb.imp id .inl,rfl⟩,fun b hb=>rfl,fun k l hk=>by simp [Env.cl]at hk⟩,qH _,fun h=>by cases h⟩
 obtain ⟨c5,hr3,hle5,hz5⟩:=hres
 have hfr: ∀ b,b < E.w.heap.size→E'.w.heap[b]? =E.w.heap[b]? :=fun b hb=>hA.frame b hb rfl
 have hIs: ∀ τ b,E.I τ b→E3.I τ b:=fun τ b hb=>by
  cases τ with
  |false=>exact .inl (hA.sub false b (.inl hb))
  |true=>exact .inr (.inl ⟨rfl,hb⟩)
 have hcr: ∀ b,cr b ≠ 0→E.w.heap.size≤b:=fun b hb=>(hA.own b (by simp only [qg];omega)).resolve_left (fun h=>h rfl)
 have hI': ∀ b,E'.I false b→E.I false b∨E.w.heap.size≤b:=fun b hb=>by
  rcases hA.imm false b hb with hb|hb|hb
  ·rcases hb with hb|⟨h0,-⟩
   ·exact .inl hb
   ·cases h0
  ·exact absurd rfl hb
  ·exact .inr hb
 have hg3:Good E3 (qg c c5):=by
  refine ⟨fun b=> ?_,fun τ b hb=> ?_,fun b hb=> ?_,fun b hb=> ?_,hg.lay.next (fun b hb=> .inl hb) (fun b hb=>rfl)⟩
  ·have h1:=h.g.one b
   have h2:=hg.one b
   have h5:=hle5 b
   simp only [qg]at h2 ⊢
   by_cases h0:cr b=0
   ·omega
   ·have:=hcb b (hcr b h0);omega
  ·have h5:=hle5 b
   rcases hb with hb|⟨-,hb⟩|⟨hf,hb⟩
   ·have h1:=hg.imm false b hb
    simp only [qg]at h1 ⊢
    refine ⟨?_,h1.2⟩
    rcases hI' b hb with h2|h2
    ·have:=(h.g.imm false b h2).1;omega
    ·have:=hcb b h2;omega
   ·have h1:=h.g.imm true b hb
    simp only [qg]
    refine ⟨?_,Nat.lt_of_lt_of_le h1.2 hA.size⟩
    by_cases h0:cr b=0
    ·omega
    ·have:=hcr b h0;omega
   ·simp only [qg]
    refine ⟨?_,hg.bnd b (by simp only [qg];omega)⟩
    rw [hz5 hf,hcb b (hcr b hb)];rfl
  ·rcases hb with hb|⟨h0,-⟩|hb
   ·exact .inl hb
   ·cases h0
   ·exact .inr (.inr hb)
  ·have h5:=hle5 b
   simp only [qg]at hb
   by_cases h0:cr b=0
   ·exact Nat.lt_of_lt_of_le (h.g.bnd b (by omega)) hA.size
   ·exact hg.bnd b (by simp only [qg];omega)
 refine ⟨E3,c5,hw,rfl,hr3,hg3.le (yx _ _),fun b hb=>by rw [← hw];exact hfr b hb, ?_⟩
 refine ⟨fun b n hb=>hA.sizes b n hb,hA.os,hA.tape,hA.output,hA.size,fun b hb _=>hfr b hb,hIs,fun b hb=> ?_,fun τ b hb=> ?_⟩
 ·exact .inr (hcr b (by have:=hle5 b;omega))
 ·rcases hb with hb|⟨rfl,hb⟩|⟨-,hb⟩
  ·rcases hI' b hb with h2|h2
   ·cases τ with
    |false=>exact .inl h2
    |true=>exact .inl (h.g.sub b h2)
   ·exact .inr (.inr h2)
  ·exact .inl hb
  ·exact .inr (.inr (hcr b hb))
theorem qgP(hC:kj P call) {d:Option Nat} {g:Nat} {xs:List V} {vs:List Value} {m:Md} (hs:xk call d g xs m st=some st') (hx:qk E xs vs c0)
 (h:FRel N E st a.tmps c) (hd: ∀ t,d=some t→t < N):
 jn P E.w (fun y w'=> ∃ E' c',E'.w=w'∧xx d E E'∧FRel N E' st' (a.put d y).tmps c'∧Adv E c E' c') ((callFunc g vs.toArray).run P E.w):=by
 have hcb: ∀ b,E.w.heap.size≤b→c b=0:=fun b hb=>by
  cases hc:c b with
  |zero=>rfl
  |succ n=>have:=h.g.bnd b (by omega);omega
 cases m with
 |ro fz=>
  simp only [xk]at hs
  split at hs
  case h_2=>cases hs
  rename_i r outs hcall
  split at hs
  case isFalse=>cases hs
  rename_i hnt
  simp only [Option.some.injEq]at hs;subst hs
  refine (qe6 hC (fz:=fz) hcall hnt hx h.T h.g).mono ?_
  rintro y w' ⟨E3,c5,hw,hμ,hr3,hg5,hfr,hA⟩
  have hg':Good E (qg c0 c):=by rw [qV];exact h.g
  have hM:Mono E E3 c:=Xp hg' hA (fun k l hk=>by rw [hμ];exact hk)
  have hg3:Good E3 (qg c c5):=by rw [kQ];exact Kw hg' hA hg5
  have hA3:Adv E c E3 (qg c c5):=by
   have:=Kc c hA
   rw [qV,kQ c5 c]at this;exact this
  obtain ⟨E4,c4,hw4,hI4,hk4,hF4,hle4⟩:=qci (a:=a) (N:=N) (d:=d) (st:=st) h.sz (xq h.σ (hM.le fun _=>Nat.zero_le _)) (zH h.T hM) hr3 hg3 hd
  exact ⟨E4,c4,hw4.trans hw,fun k hk=>(hk4 k hk).trans (by rw [hμ]),hF4,hA3.trans (kM hw4 hI4 hle4)⟩
 |io fz=>
  simp only [xk]at hs
  split at hs
  case h_2=>cases hs
  rename_i r outs hcall
  simp only [Option.some.injEq]at hs;subst hs
  obtain ⟨d1,d2,hT1,hy,hle⟩:=QQ (QB 30) h.T hx
  have hle': ∀ b,d1 b+d2 b≤c b:=fun b=>by have:=hle b;simp only [qg,c0]at this;omega
  have hg2:Good E d2:=h.g.le fun b=>by have:=hle' b;omega
  refine (hC g _ r outs hcall E vs d2 hy hg2).mono ?_
  rintro y w' ⟨E',cr,co,hw,hr,hout,hg,hA⟩
  let E1:Env:={w:=E'.w,I:=fun τ b=>E'.I τ b∨(fz=true∧cr b ≠ 0),μ:=E.μ}
  let E0:Env:={w:=E'.w,I:=E'.I,μ:=E.μ}
  have hnew: ∀ b,cr b+co b ≠ 0→d2 b ≠ 0∨E.w.heap.size≤b:=fun b hb=>hA.own b hb
  have hdis: ∀ b,d1 b ≠ 0→cr b+co b=0:=fun b hb=>by
   cases hc:cr b+co b with
   |zero=>rfl
   |succ n=>
    rcases hnew b (by omega)with h1|h1
    ·have:=hle' b;have:=h.g.one b;omega
    ·have:=hcb b h1;have:=hle' b;omega
  have hM:Mono E E1 d1:=⟨fun τ b hb=>⟨.inl (hA.sub τ b hb),hA.frame b (h.g.imm τ b hb).2 (by have:=(h.g.imm τ b hb).1;have:=hle' b;omega)⟩,
   fun b hb=>hA.frame b (h.g.bnd b (by have:=hle' b;omega)) (by have:=hle' b;have:=h.g.one b;omega),fun k l hk=>hk⟩
  obtain ⟨cb,hB0,hcb'⟩:=qcc (E1:=E0) (E':=E') (T:=st.T) h.T rfl rfl rfl hA.sizes hx hout
  have hM01:Mono E0 E1 cb:=⟨fun τ b hb=>⟨.inl hb,rfl⟩,fun b hb=>rfl,fun k l hk=>hk⟩
  have hB:=zH hB0 hM01
  have hres: ∃ c5,Rel E1.cl (fzV fz r) y c5∧cle c5 cr∧(fz=true→c5=c0):=by
   unfold fzV
   cases fz with
   |true=>
    rw [if_pos rfl]
    refine ⟨c0,ZY (E:=E') hr ⟨rfl,fun σ b hb=> .inl hb,fun b hb=> .inr ⟨rfl,hb⟩⟩,fun _=>Nat.zero_le _,fun _=>rfl⟩
   |false=>
    rw [if_neg (by simp)]
    refine ⟨cr,zP hr ⟨fun τ b hb=>⟨.inl hb,rfl⟩,fun b hb=>rfl,fun k l hk=>by simp [Env.cl]at hk⟩,qH _,fun h=>by cases h⟩
  obtain ⟨c5,hr5,hle5,hz5⟩:=hres
  have hg1:Good E1 (qg (qg cb d1) c5):=by
   refine ⟨fun b=> ?_,fun τ b hb=> ?_,fun b hb=> ?_,fun b hb=> ?_,hg.lay.next (fun b hb=> .inl hb) (fun b hb=>rfl)⟩
   ·have h1:=h.g.one b;have h2:=hg.one b;have h3:=hle' b;have h4:=hle5 b;have h5:=hcb' b
    simp only [qg]at h2 ⊢
    by_cases h0:d1 b=0
    ·omega
    ·have:=hdis b h0;omega
   ·simp only [qg]
    rcases hb with hb|⟨hf,hb⟩
    ·have h1:=hg.imm τ b hb
     simp only [qg]at h1
     have h4:=hle5 b;have h5:=hcb' b
     refine ⟨?_,h1.2⟩
     rcases hA.imm τ b hb with h2|h2|h2
     ·have:=(h.g.imm τ b h2).1;have:=hle' b;omega
     ·have:=hle' b;have:=h.g.one b;omega
     ·have:=hcb b h2;have:=hle' b;omega
    ·have h1:=hg.one b
     simp only [qg]at h1
     have h5:=hcb' b
     refine ⟨?_,hg.bnd b (by simp only [qg];omega)⟩
     rw [hz5 hf]
     have:d1 b=0:=by
      by_cases h0:d1 b=0
      ·exact h0
      ·have:=hdis b h0;omega
     simp only [c0];omega
   ·rcases hb with hb|hb
    ·exact .inl (hg.sub b hb)
    ·exact .inr hb
   ·simp only [qg]at hb
    by_cases h0:d1 b=0
    ·have h4:=hle5 b;have h5:=hcb' b
     exact hg.bnd b (by simp only [qg];omega)
    ·exact Nat.lt_of_lt_of_le (h.g.bnd b (by have:=hle' b;omega)) hA.size
  obtain ⟨E4,c4,hw4,hI4,hk4,hF4,hle4⟩:=qci (a:=a) (N:=N) (d:=d) (st:={σ:=st.σ,T:=jq st.T xs outs++(qx (qq 30) st.T xs).2}) h.sz
   (xq h.σ (hM.le fun _=>Nat.zero_le _)) (yT hB (zH hT1 hM)) hr5 hg1 hd
  refine ⟨E4,c4,hw4.trans hw,fun k hk=>hk4 k hk,hF4, ?_⟩
  refine ⟨fun b n hb=>by rw [hw4];exact hA.sizes b n hb,by rw [hw4];exact hA.os,by rw [hw4];exact hA.tape,by rw [hw4];exact hA.output,by rw [hw4];exact hA.size,
   fun b hb hc=>by rw [hw4];exact hA.frame b hb (by have:=hle' b;omega),fun τ b hb=>by rw [hI4];exact .inl (hA.sub τ b hb),fun b hb=> ?_,fun τ b hb=> ?_⟩
  ·have h1:=hle4 b;have h4:=hle5 b;have h5:=hcb' b;have h6:=hle' b
   simp only [qg]at h1
   by_cases h0:d1 b=0
   ·rcases hnew b (by omega)with h2|h2
    ·exact .inl (by omega)
    ·exact .inr h2
   ·exact .inl (by omega)
  ·rw [hI4]at hb
   have h6:=hle' b
   rcases hb with hb|⟨-,hb⟩
   ·rcases hA.imm τ b hb with h2|h2|h2
    ·exact .inl h2
    ·exact .inr (.inl (by omega))
    ·exact .inr (.inr h2)
   ·rcases hnew b (by omega)with h2|h2
    ·exact .inr (.inl (by omega))
    ·exact .inr (.inr h2)
end
end Go.Vm
namespace Go.Vm
variable [Lay]
def jz(N:Nat) (o:Oper) (d:Option Nat):Bool:=decide (o.dst=d)&&(match d with|some d=>decide (d < N)|none=>true)
def Q3(o:Oper) (d:Option Nat) (h:AO) (hs:List AO) (m:Md):Option AI:=
 match o.op with
 | .call c=>match c.callee with
   | .value f=>xp (trO f h) (xM c.args.toList hs) fun f' xs'=> .call d f' xs' m
   |_=>none
 |_=>none
def yd(P:Program) (N:Nat) (o:Oper):AI→Option AI
 | .mv d h=>if okD N o d then jf o d h else none
 | .pick d h1 h2 h3=>if okD N o d then Yt o d h1 h2 h3 else none
 | .new d h=>if okD N o d then Yq P o d h else none
 | .build d z hp=>if okD N o d then Z6 P o d z (hp.map fun x=>x.2.2)else none
 | .mks d _ hp=>if okD N o d then Yn P o d hp else none
 | .mk d _ z _ h1 h2=>if okD N o d then Yl P o d z h1 h2 else none
 | .ld d _ _ h=>if okD N o d then Yf P o d h else none
 | .ldq d _ _ h=>if okD N o d then Yg P o d h else none
 | .nilc d h=>if okD N o d then Yr o d h else none
 | .bin d _ h1 h2=>if okD N o d then Z5 o d h1 h2 else none
 | .eqs d _ neg h1 h2=>if okD N o d then Z7 P o d neg h1 h2 else none
 | .un d _ h=>if okD N o d then Yz o d h else none
 | .sl d _ h lo hi=>if okD N o d then Yu P o d h lo hi else none
 | .ssl d h lo hi=>if okD N o d then Yw P o d h lo hi else none
 | .slen d h=>if okD N o d then Yv P o d h else none
 | .fa d h _=>if okD N o d then Z9 P o d h else none
 | .fld d _ _ h _=>if okD N o d then Ya P o d h else none
 | .ia d _ h1 h2=>if okD N o d then Yc P o d h1 h2 else none
 | .ix d h1 h2=>if okD N o d then Ye P o d h1 h2 else none
 | .ext d h _=>if okD N o d then Z8 o d h else none
 | .fun d _ hf hc=>if okD N o d then Yb o d hf hc else none
 | .app d _ _ h1 h2=>if okD N o d then Z4 P o d h1 h2 else none
 | .len d h=>if okD N o d then Yh P o d h else none
 | .mx d m hs=>if okD N o d then Yp o d m hs else none
 | .int d _ h=>if okD N o d then Yd P o d h else none
 | .str d h=>if okD N o d then Yy P o d h else none
 | .st _ h1 h2=>if decide (o.dst=none)then Yx P o h1 h2 else none
 | .call d f xs m=>if jz N o d then Q3 o d f xs m else none
 | .mkm d=>if okD N o d then Ym o d else none
 | .mset h1 h2 h3=>if decide (o.dst=none)then Yo P o h1 h2 h3 else none
 | .mget d h1 h2=>if okD N o d then Yk P o d h1 h2 else none
 | .men d h1 h2=>if okD N o d then Yi P o d h1 h2 else none
 | .mes h1 h2 h3=>if decide (o.dst=none)then Yj o h1 h2 h3 else none
 | .cpy .. | .byt .. | .gd .. =>none
section
variable {P:Program} {N:Nat} {o:Oper} {E:Env} {c:Cnt} {st st':St} {a:Act} {call:qS} {ai:AI}
theorem qkc(hC:kj P call) {d:Option Nat} {h:AO} {hs':List AO} {m:Md} (hd:jz N o d=true) (ht:Q3 o d h hs' m=some ai) (hs:qh call st ai=some st') (hf:FRel N E st a.tmps c):
 Com P N E c st' a o.dst ((execOp a.eval o).run P E.w):=by
 simp only [jz,Bool.and_eq_true,decide_eq_true_eq]at hd
 obtain ⟨hd,hn⟩:=hd
 unfold Q3 at ht
 split at ht
 case h_2=>cases ht
 rename_i cl ho
 split at ht
 case h_2=>cases ht
 rename_i f hfn
 obtain ⟨f',xs',h1,h2,rfl⟩:=jb ht
 simp only [qh]at hs
 split at hs
 case h_2=>cases hs
 rename_i fv hfv
 split at hs
 case h_2=>cases hs
 rename_i g first caps xs hcal hxs
 have hrf:=qB hf.σ h1 hfv
 have hrx:=ZL hf.σ h2 hxs
 unfold callee at hcal
 split at hcal
 case h_2=>cases hcal
 rename_i g0 fi0 ca0
 simp only [Option.some.injEq,Prod.mk.injEq]at hcal
 obtain ⟨rfl,rfl,rfl⟩:=hcal
 simp only [Rel]at hrf
 obtain ⟨fs,cs,c1,c2,hv,hr1,hr2,hcc⟩:=hrf
 obtain ⟨rfl,rfl⟩:=cz hcc.symm.symm rfl
 have hL:qk E (_++xs++_) (fs.toList++cl.args.toList.map a.eval++cs.toList) c0:=x5 (x5 hr1 hrx) hr2
 have hA:=qgP hC hs hL hf (fun t ht=>by subst ht;simpa using hn)
 have hrun:(execOp a.eval o).run P E.w=(callFunc g0 (fs.toList++cl.args.toList.map a.eval++cs.toList).toArray).run P E.w:=by
  rw [execOp];simp only [ho,resolve,hfn,hv,Deferred.ofValue,invoke,Sem.run_bind,Sem.run_pure,Result.andThen_ok]
  congr 2
  apply Array.ext'
  simp
 rw [hrun,hd]
 unfold jn at hA
 unfold Com
 split at hA
 ·rename_i g' args w' he
  rw [he]
  exact ⟨hA.1,hA.2.mono fun e w'' ⟨y,h1,E',c',h2,h3,h4,h5⟩=>⟨y,E',c',h1,h2,h3,h4,h5⟩⟩
 ·rename_i y w' he
  rw [he]
  exact hA
 ·exact hA.elim
theorem qfO(hC:kj P call) {h:AI} (ht:yd P N o h=some ai) (hs:qh call st ai=some st') (hf:FRel N E st a.tmps c):
 Com P N E c st' a o.dst ((execOp a.eval o).run P E.w):=by
 cases h<;>simp only [yd]at ht<;>(first|(cases ht;done)|skip)<;>(split at ht)<;>(first|(cases ht;done)|skip)<;>rename_i hd
 case mv.isTrue=>exact ((qeE hd ht hs hf).to1 hf).com
 case pick.isTrue=>exact ((qeH hd ht hs hf).to1 hf).com
 case new.isTrue=>exact (qkk hd ht hs hf).com
 case build.isTrue=>exact ((qes hd ht hs hf).to1 hf).com
 case mks.isTrue=>exact (qki hd ht hs hf).com
 case mk.isTrue=>exact (qkg hd ht hs hf).com
 case ld.isTrue=>exact (qkd hd ht hs hf).com
 case ldq.isTrue=>exact ((qeB hd ht hs hf).to1 hf).com
 case nilc.isTrue=>exact ((qeG hd ht hs hf).to1 hf).com
 case bin.isTrue=>exact ((qer hd ht hs hf).to1 hf).com
 case eqs.isTrue=>exact ((qet hd ht hs hf).to1 hf).com
 case un.isTrue=>exact ((qeM hd ht hs hf).to1 hf).com
 case sl.isTrue=>exact ((qeI hd ht hs hf).to1 hf).com
 case ssl.isTrue=>exact ((qeK hd ht hs hf).to1 hf).com
 case slen.isTrue=>exact ((qeJ hd ht hs hf).to1 hf).com
 case fa.isTrue=>exact ((qev hd ht hs hf).to1 hf).com
 case fld.isTrue=>exact ((qew hd ht hs hf).to1 hf).com
 case ia.isTrue=>exact ((qey hd ht hs hf).to1 hf).com
 case ix.isTrue=>exact ((qeA hd ht hs hf).to1 hf).com
 case ext.isTrue=>exact ((qeu hd ht hs hf).to1 hf).com
 case fun.isTrue=>exact ((qex hd ht hs hf).to1 hf).com
 case app.isTrue=>exact (qkb hd ht hs hf).com
 case len.isTrue=>exact ((qeC hd ht hs hf).to1 hf).com
 case mx.isTrue=>exact ((qeF hd ht hs hf).to1 hf).com
 case int.isTrue=>exact ((qez hd ht hs hf).to1 hf).com
 case str.isTrue=>exact ((qeL hd ht hs hf).to1 hf).com
 case st.isTrue=>exact (qkl (by simpa using hd) ht hs hf).com
 case mkm.isTrue=>exact (qkh hd ht hs hf).com
 case mset.isTrue=>exact (qkj (by simpa using hd) ht hs hf).com
 case mget.isTrue=>exact ((qeD hd ht hs hf).to1 hf).com
 case men.isTrue=>exact (qke hd ht hs hf).com
 case mes.isTrue=>exact (qkf (by simpa using hd) ht hs hf).com
 case call.isTrue=>exact qkc hC hd ht hs hf
end
end Go.Vm
namespace Go.Vm
variable [Lay]
def KN(n:Nat) (E E':Env):Prop:= ∀ k:Key,k.1 < n→E'.μ k=E.μ k
theorem kI {n:Nat} {E:Env}:KN n E E:=fun _ _=>rfl
theorem KN.trans {n:Nat} {E E' E'':Env} (h:KN n E E') (h':KN n E' E''):KN n E E'':=fun k hk=>(h' k hk).trans (h k hk)
theorem xx.kn {n:Nat} {d:Option Nat} {E E':Env} (h:xx d E E') (hd: ∀ t,d=some t→n≤t):KN n E E':=fun k hk=>h k fun e=>by
 have:=hd k.1 e;omega
def Xc(n:Nat) (o:Oper):Bool:=match o.dst with|some d=>decide (n≤d)|none=>true
def trI(P:Program) (N n:Nat) (ops:Array Oper) (o:Oper):AI→Option AI
 | .gd j want d i=>match o.guard with
   |some (k,w)=>if decide (w=want)&&Xc n o&&jz N o d&&decide ((ops[k]?).bind (·.dst)=some j)then (yd P N o i).map (.gd j want d)else none
   |none=>none
 | .mv d h=>if o.guard.isNone&&okD N o d then jf o d h else none
 |i=>if o.guard.isNone&&Xc n o then yd P N o i else none
section
variable {P:Program} {N n:Nat} {ops:Array Oper} {o:Oper} {E:Env} {c:Cnt} {st st':St} {a:Act} {call:qS} {ai:AI}
def JX(n N:Nat) (E:Env) (c:Cnt) (st':St) (a:Act) (dst:Option Tmp) (K:Act→World→Prop):Prop:=
 ∀ y E' c',FRel N E' st' (a.put dst y).tmps c'→KN n E E'→xx dst E E'→Adv E c E' c'→K (a.put dst y) E'.w
theorem qeo(a:Act) (d:Option Nat) (v:Value):(a.put d v).defers=a.defers:=by cases d<;>rfl
theorem qcG {Q:Exit→Act→World→Prop} {K:Act→World→Prop} (h:Com P N E c st' a o.dst ((execOp a.eval o).run P E.w)) (hd:Xc n o=true) (hK:JX n N E c st' a o.dst K):o.wp P a E.w K Q:=by
 have hn: ∀ t,o.dst=some t→n≤t:=fun t ht=>by unfold Xc at hd;rw [ht]at hd;simpa using hd
 unfold Com at h
 unfold Oper.wp
 split at h
 ·rename_i f args w' he
  rw [he]
  obtain ⟨rfl,hc⟩:=h
  refine hc.mono ?_
  rintro e w'' ⟨y,E',c',rfl,rfl,h2,h3,h4⟩
  exact hK _ E' c' h3 (h2.kn hn) h2 h4
 ·rename_i hne
  unfold zp at h
  split at h
  ·rename_i y w' he
   rw [he]
   obtain ⟨E',c',rfl,h2,h3,h4⟩:=h
   exact hK _ E' c' h3 (h2.kn hn) h2 h4
  ·rename_i w' he
   rw [he]
   obtain ⟨E',c',rfl,h2,h3,h4⟩:=h
   exact hK _ E' c' h3 (h2.kn hn) h2 h4
  ·exact h.elim
theorem qiZ {Q:Exit→Act→World→Prop} {K:Act→World→Prop} {d:Nat} {h:AO} (hd:okD N o d=true) (ht:jf o d h=some ai) (hs:qh call st ai=some st') (hf:FRel N E st a.tmps c)
 (hK:JX n N E c st' a o.dst K):o.wp P a E.w K Q:=by
 obtain ⟨hd,hn⟩:=zi hd
 unfold jf at ht
 unfold Oper.wp
 split at ht
 all_goals (first|(cases ht;done)|skip)
 all_goals
  rename_i x ho
  rw [Option.map_eq_some_iff]at ht
  obtain ⟨x',h1,rfl⟩:=ht
  rw [execOp];simp only [ho]
  simp only [qh,Option.map_eq_some_iff]at hs
  obtain ⟨z,hz,rfl⟩:=hs
  refine hK _ E c ?_ kI Zw (jm _ _)
  rw [hd]
  exact hf.put (qB hf.σ h1 hz) hn
theorem qfS:Rel E zX undef c0:=by simp [zX,undef,Rel,zM]
theorem qdg(call:qS) (i:AI) (h: ∀ j w d i',i ≠ .gd j w d i'):qm call st i=qh call st i:=by
 cases i<;>first|rfl|exact absurd rfl (h _ _ _ _)
theorem qfP(hC:kj P call) {h:AI} (ht:trI P N n ops o h=some ai) (hs:qm call st ai=some st') (hf:FRel N E st a.tmps c) {Q:Exit→Act→World→Prop} {K:Act→World→Prop}
 (hK:JX n N E c st' a o.dst K):if Region.wanted o (yielded ops a.tmps)then o.wp P a E.w K Q∨(o.asks P a E.w∧LetsOut Q)else K (a.put o.dst undef) E.w:=by
 have hplain: ∀ i,o.guard.isNone=true→Xc n o=true→yd P N o i=some ai→if Region.wanted o (yielded ops a.tmps)then o.wp P a E.w K Q∨(o.asks P a E.w∧LetsOut Q)else K (a.put o.dst undef) E.w:=by
  intro i hg hd hi
  have hw:Region.wanted o (yielded ops a.tmps)=true:=by
   unfold Region.wanted
   split
   ·rfl
   ·rename_i he;rw [he]at hg;cases hg
  rw [if_pos hw]
  have hng: ∀ j w d i',ai ≠ .gd j w d i':=by
   rintro j w d i' rfl
   cases i<;>simp only [yd]at hi<;>(first|(cases hi;done)|skip)<;>(split at hi)<;>(first|(cases hi;done)|skip)<;>
    simp only [jf,Yt,Yq,Z6,Yn,Yl,Yf,Yg,Yr,Z5,Z7,Yz,Yu,Yw,Yv,Z9,Ya,Yc,Ye,Z8,Yb,Z4,Yh,Yp,Yd,Yy,Yx,Q3,Ym,Yo,Yk,Yi,Yj,xp]at hi<;>
    (repeat' (split at hi))<;>simp_all
  rw [qdg call ai hng]at hs
  exact .inl (qcG (qfO hC hi hs hf) hd hK)
 unfold trI at ht
 split at ht
 ·rename_i j want d i
  split at ht
  case h_2=>cases ht
  rename_i k w hg
  split at ht
  case isFalse=>cases ht
  rename_i hc
  simp only [Bool.and_eq_true,decide_eq_true_eq]at hc
  obtain ⟨⟨⟨rfl,hdn⟩,hdst⟩,hj⟩:=hc
  rw [Option.map_eq_some_iff]at ht
  obtain ⟨i',hi',rfl⟩:=ht
  simp only [jz,Bool.and_eq_true,decide_eq_true_eq]at hdst
  obtain ⟨hod,hdN⟩:=hdst
  simp only [qm]at hs
  have hno:(d=none→st'=st)→(∀ t,d=some t→st'=st.put t zX)→K (a.put o.dst undef) E.w:=by
   intro h1 h2
   refine hK _ E c ?_ kI Zw (jm _ _)
   rw [hod]
   cases d with
   |some d=>rw [h2 d rfl];exact hf.put qfS (by simpa using hdN)
   |none=>rw [h1 rfl];exact hf
  split at hs
  ·rename_i b hb
   obtain ⟨v,hv,hr⟩:=hf.σ _ _ hb
   simp only [Rel]at hr
   have hy:yielded ops a.tmps k=some b:=by simp only [yielded,hj,Option.bind_some,hv,hr.1]
   by_cases hbw:b=w
   ·subst hbw
    rw [if_pos rfl]at hs
    have hw:Region.wanted o (yielded ops a.tmps)=true:=by simp only [Region.wanted,hg,hy,beq_self_eq_true]
    rw [if_pos hw]
    exact .inl (qcG (qfO hC hi' hs hf) hdn hK)
   ·rw [if_neg hbw]at hs
    have hw:Region.wanted o (yielded ops a.tmps)=false:=by
     simp only [Region.wanted,hg,hy]
     simp [hbw]
    rw [hw,if_neg (by simp)]
    exact hno (fun e=>by subst e;simpa using hs.symm) (fun t e=>by subst e;simpa using hs.symm)
  ·rename_i x hnb hx
   obtain ⟨v,hv,hr⟩:=hf.σ _ _ hx
   simp only [Rel]at hr
   have hy:yielded ops a.tmps k=none:=by
    simp only [yielded,hj,Option.bind_some,hv,hr.1]
    cases x<;>first|rfl|exact absurd rfl (hnb _)
   have hw:Region.wanted o (yielded ops a.tmps)=false:=by
    simp only [Region.wanted,hg,hy];rfl
   rw [hw,if_neg (by simp)]
   exact hno (fun e=>by subst e;simpa using hs.symm) (fun t e=>by subst e;simpa using hs.symm)
  ·cases hs
 ·rename_i d h'
  split at ht
  case isFalse=>cases ht
  rename_i hc
  simp only [Bool.and_eq_true]at hc
  have hw:Region.wanted o (yielded ops a.tmps)=true:=by
   unfold Region.wanted
   split
   ·rfl
   ·rename_i he;have:=hc.1;rw [he]at this;cases this
  rw [if_pos hw]
  have hmv: ∃ x,ai= .mv d x:=by
   unfold jf at ht
   split at ht<;>(first|(cases ht;done)|skip)<;>
    (rw [Option.map_eq_some_iff]at ht;obtain ⟨x',h1,rfl⟩:=ht;exact ⟨_,rfl⟩)
  obtain ⟨x,rfl⟩:=hmv
  exact .inl (qiZ (call:=call) hc.2 ht hs hf hK)
 ·split at ht
  case isFalse=>cases ht
  rename_i hc
  simp only [Bool.and_eq_true]at hc
  exact hplain _ hc.1 hc.2 ht
end
def xf(P:Program) (N n:Nat) (ops:Array Oper):List Oper→List AI→Option (List AI)
 |[],[]=>some []
 |o::os,h::hs=>match trI P N n ops o h,xf P N n ops os hs with
  |some i,some is=>some (i::is)
  |_,_=>none
 |_,_=>none
end Go.Vm
namespace Go.Vm
section
variable {S:Type} (F:Nat→S→Option S)
def kF:List Nat→S→Option S
 |[],s=>some s
 |i::l,s=>match F i s with
  |some s'=>kF l s'
  |none=>none
def qbT(j i:Nat):Prop:= ∀ s s1 s2,F j s=some s1→F i s1=some s2→ ∃ s1',F i s=some s1'∧F j s1'=some s2
theorem qe9 {i:Nat} {l2:List Nat} {s':S}: ∀ {l1:List Nat} {s:S},kF F (l1++i::l2) s=some s'→(∀ j ∈ l1,qbT F j i)→
 ∃ s1,F i s=some s1∧kF F (l1++l2) s1=some s'
 |[],s,h,hs=>by
  simp only [List.nil_append,kF]at h
  split at h
  ·rename_i s1 h1;exact ⟨s1,h1,h⟩
  ·cases h
 |j::l1,s,h,hs=>by
  simp only [List.cons_append,kF]at h
  split at h
  case h_2=>cases h
  rename_i sj hj
  obtain ⟨si,h1,h2⟩:=qe9 h (fun k hk=>hs k (List.mem_cons_of_mem _ hk))
  obtain ⟨s1,h3,h4⟩:=hs j (List.mem_cons_self) _ _ _ hj h1
  exact ⟨s1,h3,by simp only [List.cons_append,kF,h4,h2]⟩
end
def yQ(n:Nat) (listed:Array Bool):List Nat:=(List.range n).filter fun k=> !listed.getD k true
theorem qe1 {n i:Nat} {listed:Array Bool} (hs:listed.size=n) (hi:i < n) (hl:listed.getD i true=false):
 ∃ l1 l2,yQ n listed=l1++i::l2∧yQ n (listed.setIfInBounds i true)=l1++l2∧ ∀ j ∈ l1,j < i∧listed.getD j true=false:=by
 have hr:List.range n=List.range' 0 i++i::List.range' (i+1) (n - i - 1):=by
  rw [List.range_eq_range',show n=i+(1+(n - i - 1))by omega, ← List.range'_append_1, ← List.range'_append_1]
  simp only [Nat.zero_add,List.range'_one,List.singleton_append,List.cons_append,List.nil_append]
  congr 3
  omega
 refine ⟨(List.range' 0 i).filter fun k=> !listed.getD k true,(List.range' (i+1) (n - i - 1)).filter fun k=> !listed.getD k true, ?_, ?_, ?_⟩
 ·unfold yQ
  rw [hr,List.filter_append,List.filter_cons_of_pos (by simp only [hl];rfl)]
 ·unfold yQ
  have hne: ∀ k,k ≠ i→(listed.setIfInBounds i true).getD k true=listed.getD k true:=fun k hk=>getD_set_ne true (Ne.symm hk)
  have hii:(listed.setIfInBounds i true).getD i true=true:=by simp [Array.getD_eq_getD_getElem?,hs,hi]
  rw [hr,List.filter_append,List.filter_cons_of_neg (by rw [hii];decide)]
  congr 1
  ·apply List.filter_congr
   intro k hk
   rw [hne k (by have:=List.mem_range'_1.1 hk;omega)]
  ·apply List.filter_congr
   intro k hk
   rw [hne k (by have:=List.mem_range'_1.1 hk;omega)]
 ·intro j hj
  obtain ⟨h1,h2⟩:=List.mem_filter.1 hj
  exact ⟨by have:=List.mem_range'_1.1 h1;omega,by simpa using h2⟩
def Kn(ops:Array Oper) (i j:Nat):Bool:=
 match ops[i]? with
 |some o=>o.after.any fun e=>Region.binds .any e&&e.on==j
 |none=>false
def KS(ops:Array Oper) (anc:List (List Nat)):Bool:=
 (List.range ops.size).all fun i=>(anc.getD i []).all fun j=>Kn ops i j||(List.range i).any fun k=>Kn ops i k&&(anc.getD k []).contains j
def qaJ(ops:Array Oper):Bool:=
 (List.range ops.size).all fun i=>match ops[i]? with
  |some o=>o.after.all fun e=> !Region.binds .any e||decide (e.on < i)
  |none=>true
def XQ(ops:Array Oper) (listed:Array Bool):Prop:=
 ∀ k o,ops[k]? =some o→listed.getD k true=true→ ∀ e ∈ o.after,Region.binds .any e=true→listed.getD e.on false=true
theorem qf9 {ops:Array Oper} {anc:List (List Nat)} {listed:Array Bool} (ha:KS ops anc=true) (hc:XQ ops listed):
 ∀ (i:Nat) (o:Oper),ops[i]? =some o→(∀ e ∈ o.after,Region.binds .any e=true→listed.getD e.on false=true)→ ∀ j ∈ anc.getD i [],listed.getD j false=true:=by
 intro i
 induction i using Nat.strongRecOn with
 |_ i ih=>
  intro o ho hall j hj
  have hi:i < ops.size:=(Array.getElem?_eq_some_iff.1 ho).1
  simp only [KS,List.all_eq_true,List.mem_range]at ha
  have h1:=ha i hi j hj
  have hd: ∀ k,Kn ops i k=true→listed.getD k false=true:=by
   intro k hk
   simp only [Kn,ho,Array.any_eq_true',Bool.and_eq_true,beq_iff_eq]at hk
   obtain ⟨e,he,hb,rfl⟩:=hk
   exact hall e he hb
  simp only [Bool.or_eq_true,List.any_eq_true,List.mem_range,Bool.and_eq_true,List.contains_iff_mem]at h1
  rcases h1 with h1|⟨k,hk,h2,h3⟩
  ·exact hd j h1
  ·have hkl:=hd k h2
   have hks:k < ops.size:=by omega
   refine ih k hk ops[k] (by simp [hks]) (hc k _ (by simp [hks]) ?_) j h3
   rw [Array.getD_eq_getD_getElem?]at hkl ⊢
   cases h:listed[k]? with
   |none=>rw [h]at hkl;cases hkl
   |some b=>rw [h]at hkl;simpa using hkl
theorem qgw {ops:Array Oper} {listed:Array Bool} (hc:XQ ops listed) {i:Nat} (hr:i ∈ Region.ready .any ops listed):XQ ops (listed.setIfInBounds i true):=by
 obtain ⟨h0,o,ho,hall⟩:=mem_ready.1 hr
 intro k ok hk hl e he hb
 by_cases hki:k=i
 ·subst hki
  rw [ho]at hk;cases hk
  exact getD_set_true (hall e he hb)
 ·rw [getD_set_ne true (Ne.symm hki)]at hl
  exact getD_set_true (hc k ok hk hl e he hb)
section
variable {P:Program} {ops:Array Oper} {Q:Exit→Act→World→Prop} {S:Type} {F:Nat→S→Option S}
theorem qlZ {anc:List (List Nat)} (ha:KS ops anc=true) (hb:qaJ ops=true) (hsw: ∀ j i,j < i→i < ops.size→(anc.getD i []).contains j=false→qbT F j i)
 (Inv:Array Bool→S→Act→World→Prop)
 (hstep: ∀ listed i s s1 a w (K:Act→World→Prop),listed.size=ops.size→i ∈ Region.ready .any ops listed→F i s=some s1→Inv listed s a w→
  (∀ a' w',Inv (listed.setIfInBounds i true) s1 a' w'→K a' w')→wpOp P ops Q i K a w)
 {s':S} (hQ: ∀ listed a w,Inv listed s' a w→Q .normal a w):
 ∀ (fuel:Nat) (listed:Array Bool) (s:S) (a:Act) (w:World),listed.size=ops.size→(yQ ops.size listed).length≤fuel→XQ ops listed→
  kF F (yQ ops.size listed) s=some s'→Inv listed s a w→wpAny P .any ops Q fuel listed a w:=by
 have hfirst: ∀ listed:Array Bool,listed.size=ops.size→Region.ready .any ops listed=[]→yQ ops.size listed=[]:=by
  intro listed hs hr
  cases hrem:yQ ops.size listed with
  |nil=>rfl
  |cons i l=>
   exfalso
   have hi:i ∈ yQ ops.size listed:=by rw [hrem];exact List.mem_cons_self
   obtain ⟨hi1,hi2⟩:=List.mem_filter.1 hi
   have hin:i < ops.size:=List.mem_range.1 hi1
   have hil:listed.getD i true=false:=by simpa using hi2
   obtain ⟨l1,l2,h1,-,h3⟩:=qe1 hs hin hil
   have hl1:l1=[]:=by
    cases l1 with
    |nil=>rfl
    |cons j t=>
     exfalso
     rw [hrem]at h1
     simp only [List.cons_append,List.cons.injEq]at h1
     have:=(h3 j (List.mem_cons_self)).1
     omega
   have:i ∈ Region.ready .any ops listed:=by
    refine mem_ready.2 ⟨hil,ops[i],by simp [hin],fun e he hbe=> ?_⟩
    simp only [qaJ,List.all_eq_true,List.mem_range]at hb
    have h4:=hb i hin
    simp only [hin,Array.getElem?_eq_getElem,Array.all_eq_true',Bool.or_eq_true,Bool.not_eq_true',decide_eq_true_eq]at h4
    have h5:e.on < i:=(h4 e he).resolve_left (by rw [hbe];decide)
    have hsz:e.on < listed.size:=by omega
    cases h6:listed.getD e.on true with
    |true=>simpa [Array.getD_eq_getD_getElem?,hsz]using h6
    |false=>
     exfalso
     have h7:e.on ∈ yQ ops.size listed:=List.mem_filter.2 ⟨List.mem_range.2 (by omega),by rw [h6];rfl⟩
     rw [h1,hl1]at h7
     have hsorted:List.Pairwise (· < ·) (yQ ops.size listed):=List.Pairwise.filter _ List.pairwise_lt_range
     rw [h1,hl1]at hsorted
     simp only [List.nil_append]at h7 hsorted
     rcases List.mem_cons.1 h7 with h8|h8
     ·omega
     ·have:=(List.pairwise_cons.1 hsorted).1 _ h8
      omega
   rw [hr]at this;cases this
 have hend: ∀ listed s a w,listed.size=ops.size→Region.ready .any ops listed=[]→kF F (yQ ops.size listed) s=some s'→Inv listed s a w→Q .normal a w:=by
  intro listed s a w hs hr hrun hI
  rw [hfirst listed hs hr]at hrun
  simp only [kF,Option.some.injEq]at hrun
  subst hrun
  exact hQ _ _ _ hI
 intro fuel
 induction fuel with
 |zero=>
  intro listed s a w hs hlen hc hrun hI
  have hrem:yQ ops.size listed=[]:=List.length_eq_zero_iff.1 (by omega)
  have hr:Region.ready .any ops listed=[]:=by
   rw [List.eq_nil_iff_forall_not_mem]
   intro i hi
   obtain ⟨h0,o,ho,-⟩:=mem_ready.1 hi
   have:i ∈ yQ ops.size listed:=List.mem_filter.2 ⟨List.mem_range.2 (Array.getElem?_eq_some_iff.1 ho).1,by rw [h0];rfl⟩
   rw [hrem]at this;cases this
  exact ⟨hr,hend listed s a w hs hr hrun hI⟩
 |succ fuel ih=>
  intro listed s a w hs hlen hc hrun hI
  refine ⟨fun hr=>hend listed s a w hs hr hrun hI,fun i hi=> ?_⟩
  obtain ⟨h0,o,ho,hall⟩:=mem_ready.1 hi
  have hin:i < ops.size:=(Array.getElem?_eq_some_iff.1 ho).1
  obtain ⟨l1,l2,h1,h2,h3⟩:=qe1 hs hin h0
  rw [h1]at hrun
  obtain ⟨s1,hF,hrun'⟩:=qe9 F hrun (fun j hj=>by
   obtain ⟨hj1,hj2⟩:=h3 j hj
   refine hsw j i hj1 hin ?_
   cases hcon:(anc.getD i []).contains j with
   |false=>rfl
   |true=>
    exfalso
    have:=qf9 ha hc i o ho hall j (by simpa using hcon)
    have hjs:j < listed.size:=by omega
    simp only [Array.getD_eq_getD_getElem?,hjs,Array.getElem?_eq_getElem,Option.getD_some]at this hj2
    rw [this]at hj2;cases hj2)
  refine hstep listed i s s1 a w _ hs hi hF hI ?_
  intro a' w' hI'
  refine ih _ s1 a' w' (by simpa using hs) ?_ (qgw hc hi) (by rw [h2];exact hrun') hI'
  rw [h2];rw [h1]at hlen
  simp only [List.length_append,List.length_cons]at hlen ⊢
  omega
end
end Go.Vm
namespace Go.Vm
abbrev FS:=(Nat→Option V) × (Key→Option Ob)
def Qc(st:St):FS:=(qw st.σ,qp st.T)
def yh(f:Nat→Option V):List Nat→Sl
 |[]=>[]
 |t::r=>match f t with
  |some x=>(t,x)::yh f r
  |none=>yh f r
def zC(f:Key→Option Ob):List Key→Mem
 |[]=>[]
 |k::r=>match f k with
  |some x=>(k,x)::zC f r
  |none=>zC f r
def yk(p:Dp) (d:Option Nat) (T':Mem) (g:Key→Option Ob):Key→Option Ob:=fun k=>if p.own d k then qp T' k else g k
def jD(call:qS) (p:Dp) (i:AI) (s:FS):Option FS:=
 match qm call {σ:=yh s.1 (qK i),T:=zC s.2 p.ks} i with
 |none=>none
 |some st'=>match qt i with
  |none=>some (s.1,yk p none st'.T s.2)
  |some d=>match qw st'.σ d with
   |some x=>some (fun t=>if d=t then some x else s.1 t,yk p (some d) st'.T s.2)
   |none=>none
theorem qej(σ:Sl): ∀ us,zl σ us=yh (qw σ) us
 |[]=>rfl
 |u::us=>by simp only [zl,yh,qej σ us];rfl
theorem qei(T:Mem): ∀ ks,yP T ks=zC (qp T) ks
 |[]=>rfl
 |k::ks=>by simp only [yP,zC,qei T ks];rfl
theorem qaT {f g:Nat→Option V}: ∀ {us:List Nat},(∀ u ∈ us,f u=g u)→yh f us=yh g us
 |[],h=>rfl
 |u::us,h=>by simp only [yh,h u (List.mem_cons_self),qaT (fun v hv=>h v (List.mem_cons_of_mem _ hv))]
theorem Xw {f g:Key→Option Ob}: ∀ {us:List Key},(∀ u ∈ us,f u=g u)→zC f us=zC g us
 |[],h=>rfl
 |u::us,h=>by simp only [zC,h u (List.mem_cons_self),Xw (fun v hv=>h v (List.mem_cons_of_mem _ hv))]
theorem ZN(f:Key→Bool): ∀ (T:Mem) (k:Key),qp (qC f T) k=if f k then qp T k else none
 |[],k=>by simp [qC,qp]
 |(u,x)::r,k=>by
  simp only [qC]
  split
  ·rename_i hu
   simp only [qp,ZN f r k]
   split
   ·rename_i e;subst e;rw [if_pos hu]
   ·rfl
  ·rename_i hu
   simp only [qp,ZN f r k]
   split
   ·rename_i hk
    rw [if_neg (by rintro rfl;exact hu hk)]
   ·rfl
theorem qar: ∀ (A B:Mem) (k:Key),qp (A++B) k=(qp A k).or (qp B k)
 |[],B,k=>by simp [qp]
 |(u,x)::r,B,k=>by
  simp only [List.cons_append,qp,qar r B k]
  split<;>rfl
theorem qaQ {p:Dp} {d:Option Nat} (h:p.k=0) (k:Key):p.own d k=false:=by simp [Dp.own,h]
theorem qdh(p:Dp) (d:Option Nat) (T' T:Mem):qp (QK p d T' T)=yk p d T' (qp T):=by
 funext k
 unfold QK yk
 split
 ·rename_i h;rw [qaQ h];rfl
 ·rw [qar,ZN,ZN]
  cases p.own d k<;>simp
theorem qlC {call:qS} {p:Dp} {i:AI} {st st1:St} (h:yS call p i st=some st1):jD call p i (Qc st)=some (Qc st1):=by
 unfold yS at h
 unfold jD
 rw [qej,qei]at h
 simp only [Qc]at h ⊢
 split at h
 ·cases h
 ·rename_i st' hg
  rw [hg]
  simp only
  split at h
  ·rename_i hd
   simp only [Option.some.injEq]at h;subst h
   rw [hd]
   simp only [qdh]
  ·rename_i d hd
   rw [hd]
   simp only
   split at h
   ·rename_i x hx
    simp only [Option.some.injEq]at h;subst h
    rw [hx]
    simp only [qdh]
    rfl
   ·cases h
def KQ(d:Option Nat) (us:List Nat):Bool:=match d with|some d=> !us.contains d|none=>true
def YA(d e:Option Nat):Bool:=match d,e with|some d,some e=>d != e|_,_=>true
def qby(pj:Dp) (aj:AI) (pi:Dp) (ai:AI):Bool:=
 KQ (qt aj) (qK ai)&&KQ (qt ai) (qK aj)&&YA (qt aj) (qt ai)&&pi.ks.all (fun k=> !pj.own (qt aj) k)&&pj.ks.all (fun k=> !pi.own (qt ai) k)
def yj(d:Option Nat) (σ':Sl) (f:Nat→Option V):Nat→Option V:=fun t=>if d=some t then qw σ' t else f t
theorem XL {call:qS} {p:Dp} {i:AI} {s s1:FS}:jD call p i s=some s1↔
 ∃ st',qm call {σ:=yh s.1 (qK i),T:=zC s.2 p.ks} i=some st'∧(∀ d,qt i=some d→(qw st'.σ d).isSome=true)∧s1=(yj (qt i) st'.σ s.1,yk p (qt i) st'.T s.2):=by
 unfold jD
 cases hg:qm call {σ:=yh s.1 (qK i),T:=zC s.2 p.ks} i with
 |none=>simp
 |some st'=>
  simp only [Option.some.injEq,exists_eq_left']
  cases hd:qt i with
  |none=>
   simp only [Option.some.injEq,reduceCtorEq,false_implies,implies_true,true_and]
   have he:yj none st'.σ s.1=s.1:=by funext t;simp [yj]
   rw [he]
   exact ⟨fun h=>h.symm,fun h=>h.symm⟩
  |some d=>
   simp only [Option.some.injEq,forall_eq']
   have he: ∀ x,qw st'.σ d=some x→(fun t=>if d=t then some x else s.1 t)=yj (some d) st'.σ s.1:=by
    intro x hx;funext t
    simp only [yj,Option.some.injEq]
    split
    ·rename_i e;subst e;exact hx.symm
    ·rfl
   cases hx:qw st'.σ d with
   |none=>simp
   |some x=>
    simp only [Option.some.injEq,Option.isSome_some,true_and]
    rw [he x hx]
    exact ⟨fun h=>h.symm,fun h=>h.symm⟩
theorem qlF {call:qS} {pj pi:Dp} {aj ai:AI} (h:qby pj aj pi ai=true) {s s1 s2:FS} (h1:jD call pj aj s=some s1) (h2:jD call pi ai s1=some s2):
 ∃ s1',jD call pi ai s=some s1'∧jD call pj aj s1'=some s2:=by
 simp only [qby,Bool.and_eq_true,List.all_eq_true,Bool.not_eq_true']at h
 obtain ⟨⟨⟨⟨hu1,hu2⟩,hdd⟩,hk1⟩,hk2⟩:=h
 obtain ⟨stj,g1,x1,rfl⟩:=XL.1 h1
 obtain ⟨sti,g2,x2,rfl⟩:=XL.1 h2
 have off: ∀ (d:Option Nat) (us:List Nat) (σ':Sl) (f:Nat→Option V),KQ d us=true→ ∀ u ∈ us,yj d σ' f u=f u:=by
  intro d us σ' f ho u hu
  unfold yj
  rw [if_neg]
  rintro rfl
  simp only [KQ,Bool.not_eq_true',List.contains_eq_mem,decide_eq_false_iff_not]at ho
  exact ho hu
 have upd: ∀ (p:Dp) (d:Option Nat) (T':Mem) (g:Key→Option Ob) (k:Key),p.own d k=false→yk p d T' g k=g k:=by
  intro p d T' g k hk;simp [yk,hk]
 have e1:yh (yj (qt aj) stj.σ s.1) (qK ai)=yh s.1 (qK ai):=qaT (off _ _ _ _ hu1)
 have e2:zC (yk pj (qt aj) stj.T s.2) pi.ks=zC s.2 pi.ks:=Xw fun k hk=>upd _ _ _ _ _ (hk1 k hk)
 have e3:yh (yj (qt ai) sti.σ s.1) (qK aj)=yh s.1 (qK aj):=qaT (off _ _ _ _ hu2)
 have e4:zC (yk pi (qt ai) sti.T s.2) pj.ks=zC s.2 pj.ks:=Xw fun k hk=>upd _ _ _ _ _ (hk2 k hk)
 simp only [e1,e2]at g2
 refine ⟨(yj (qt ai) sti.σ s.1,yk pi (qt ai) sti.T s.2),XL.2 ⟨sti,g2,x2,rfl⟩,XL.2 ⟨stj,by simp only [e3,e4];exact g1,x1, ?_⟩⟩
 refine Prod.ext (funext fun t=> ?_) (funext fun k=> ?_)
 ·simp only [yj]
  by_cases a1:qt aj=some t
  ·by_cases a2:qt ai=some t
   ·exfalso;rw [a1,a2]at hdd;simp [YA]at hdd
   ·rw [if_neg a2,if_pos a1,if_pos a1]
  ·rw [if_neg a1,if_neg a1]
 ·simp only [yk]
  cases b1:pj.own (qt aj) k with
  |false=>rfl
  |true=>
   cases b2:pi.own (qt ai) k with
   |false=>rfl
   |true=>
    exfalso
    have c1:=b1;have c2:=b2
    simp only [Dp.own,Bool.or_eq_true,Bool.and_eq_true,List.contains_iff_mem,beq_iff_eq,bne_iff_ne]at b1 b2
    rcases b1 with ⟨-,b1⟩|⟨-,b1⟩
    ·rw [hk2 k b1]at c2;cases c2
    ·rcases b2 with ⟨-,b2⟩|⟨-,b2⟩
     ·rw [hk1 k b2]at c1;cases c1
     ·rw [b1,b2]at hdd;simp [YA]at hdd
end Go.Vm
