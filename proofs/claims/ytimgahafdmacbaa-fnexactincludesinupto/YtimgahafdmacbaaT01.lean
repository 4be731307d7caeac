import Derived.Test.YtimgahafdmacbaaT00
import Derived.Deep.AppendSrc
import Derived.Laws.Tables
import Derived.Laws.MakeOwn
import Derived.Laws.BytesString
import Derived.MapKept
import Derived.LoopN
import Derived.Orders
set_option autoImplicit false
set_option linter.unusedSectionVars false
set_option linter.unusedVariables false
set_option linter.unusedSimpArgs false
namespace Go.Vm
variable [Lay]
section
variable {P:Program} {N:Nat} {E:Env} {c:Cnt} {st st':St} {a:Act} {d:Nat} {call:Call}
theorem binOp_int(op:BinOp) (t:TypeId) (k k':IntKind) (x y:Int):binOp op t (.int k x) (.int k' y)=binOp op 0 (.int k x) (.int k' y):=by
 cases op<;>rfl
theorem binOp_str(op:BinOp) (t:TypeId) (x y:ByteArray):binOp op t (.string x) (.string y)=binOp op 0 (.string x) (.string y):=by
 cases op<;>rfl
theorem rel_leaf {x:Value} (h:aggB x=false):Rel E (.v x) x c0:=by simp [Rel,h]
theorem run_val {α:Type} {s:Sem α} {r:α} (h:s.val? =some r) (w:World):s.run P w= .ok r w:=by rw [val_some h];rfl
def noAggB:Sem Value→Bool
 | .pure v=> !aggB v
 |_=>true
theorem binOp_leaf {op:BinOp} {x y r:Value} (h:(binOp op 0 x y).val? =some r) (hi:(∃ k n k' m,x= .int k n∧y= .int k' m)∨(∃ s u,x= .string s∧y= .string u)):aggB r=false:=by
 have hv:=val_some h
 rcases hi with ⟨k,n,k',m,rfl,rfl⟩|⟨s,u,rfl,rfl⟩
 ·cases op<;>simp only [binOp]at hv<;>
   (first
    |(split at hv<;>first|(cases hv;done)|skip)|skip)<;>
   (simp only [Op.intArith,Op.intDiv,Op.intBits,Op.intCmp,Op.shift]at hv)<;>
   (repeat' (split at hv))<;>
   (first|(cases hv;rfl)|(simp only [Sem.pure.injEq]at hv;subst hv;rfl)|(exfalso;revert hv;simp [stuck,runtimePanic,program,goPanic,unsupported,bind,Sem.bind];done)|skip)
 ·cases op<;>simp only [binOp,Op.stringOp]at hv<;>(repeat' (split at hv))<;>
   (first|(cases hv;rfl)|(exfalso;revert hv;simp [stuck,unsupported];done)|skip)
theorem eqGuard_leaf {op:BinOp} {t:TypeId} {x y:Operand} {u v:Value} (hu:aggB u=false) (hn:u ≠ .nilIface) (w:World):(eqGuard op t x y u v).run P w= .ok () w:=by
 cases u<;>(first|exact absurd rfl hn|(simp [aggB]at hu;done)|skip)<;>cases op<;>(first|rfl|(cases v<;>rfl))
theorem s_bin {x y:Operand} {hx hy x' y':AO} {op:BinOp} {t:TypeId} (h1:trO x hx=some x') (h2:trO y hy=some y')
 (hs:astep call st (.bin d op x' y')=some st') (h:FRel N E st a.tmps c) (hd:d < N):
 ComesQ N E st st' (some d) (Sem.run P (do pure (.value (← (do eqGuard op t x y (a.eval x) (a.eval y);binOp op t (a.eval x) (a.eval y))))) E.w):=by
 simp only [astep]at hs
 split at hs
 case h_2=>cases hs
 rename_i xv yv hxv hyv
 have hrx:=ev_rel h.σ h1 hxv
 have hry:=ev_rel h.σ h2 hyv
 rw [Option.map_eq_some_iff]at hs
 obtain ⟨z,hz,rfl⟩:=hs
 unfold binV at hz
 split at hz
 ·rename_i k n k' m
  rw [Option.map_eq_some_iff]at hz
  obtain ⟨r,hr,rfl⟩:=hz
  simp only [Rel]at hrx hry
  rw [hrx.1,hry.1]
  simp only [Sem.run_bind,eqGuard_leaf (P:=P) (u:=Value.int k n) rfl (by simp),Result.andThen_ok,binOp_int op t,run_val hr,Sem.run_pure]
  exact comes_put h hd (rel_leaf (binOp_leaf hr (.inl ⟨_,_,_,_,rfl,rfl⟩)))
 ·rename_i s u
  rw [Option.map_eq_some_iff]at hz
  obtain ⟨r,hr,rfl⟩:=hz
  simp only [Rel]at hrx hry
  rw [hrx.1,hry.1]
  simp only [Sem.run_bind,eqGuard_leaf (P:=P) (u:=Value.string s) rfl (by simp),Result.andThen_ok,binOp_str op t,run_val hr,Sem.run_pure]
  exact comes_put h hd (rel_leaf (binOp_leaf hr (.inr ⟨_,_,rfl,rfl⟩)))
 ·cases hz
theorem unary_leaf {op:UnOp} {x r:Value} (h:(Op.unary op x).val? =some r):aggB r=false:=by
 have hv:=val_some h
 unfold Op.unary at hv
 split at hv<;>(try simp only [Op.intArith,Op.intBits]at hv)<;>first
  |(cases hv;rfl)
  |(simp only [pure,Sem.pure.injEq]at hv;subst hv;rfl)
  |(exfalso;revert hv;simp [stuck,unsupported];done)
theorem s_un {x:Operand} {hx x':AO} {op:UnOp} (h1:trO x hx=some x')
 (hs:astep call st (.un d op x')=some st') (h:FRel N E st a.tmps c) (hd:d < N):
 ComesQ N E st st' (some d) (Sem.run P (do pure (.value (← Op.unary op (a.eval x)))) E.w):=by
 simp only [astep]at hs
 split at hs
 case h_2=>cases hs
 rename_i xv hxv
 have hrx:=ev_rel h.σ h1 hxv
 rw [Option.map_eq_some_iff]at hs
 obtain ⟨z,hz,rfl⟩:=hs
 simp only [Rel]at hrx
 rw [hrx.1]
 simp only [Sem.run_bind,run_val hz,Result.andThen_ok,Sem.run_pure]
 exact comes_put h hd (rel_leaf (unary_leaf hz))
theorem s_ext {x:Operand} {hx x':AO} {i:Nat} (h1:trO x hx=some x')
 (hs:astep call st (.ext d x' i)=some st') (h:FRel N E st a.tmps c) (hd:d < N):
 ComesQ N E st st' (some d) (Sem.run P (do pure (.value (← Instr.extract (a.eval x) i))) E.w):=by
 simp only [astep]at hs
 split at hs
 case h_2=>cases hs
 rename_i vs hxv
 have hrx:=ev_rel h.σ h1 hxv
 rw [Option.map_eq_some_iff]at hs
 obtain ⟨z,hz,rfl⟩:=hs
 simp only [Rel]at hrx
 obtain ⟨ws,he,hL⟩:=hrx
 obtain ⟨y,c1,c2,hy,hr,hc,-⟩:=relL_at hL hz
 have h0:c1=c0:=funext fun b=>by have:=congrFun hc b;simp only [c0,cadd]at this ⊢;omega
 subst h0
 rw [he]
 have hy':ws[i]? =some y:=by simpa using hy
 simp only [Instr.extract,hy',Sem.run_bind,Sem.run_pure,Result.andThen_ok]
 exact comes_put h hd hr
theorem s_fun {fn:Fn} {first caps:List Operand} {hf hc f' c':List AO} (h1:trOs first hf=some f') (h2:trOs caps hc=some c')
 (hs:astep call st (.fun d fn f' c')=some st') (h:FRel N E st a.tmps c) (hd:d < N):
 ComesQ N E st st' (some d) (Sem.run P (do pure (.value (← Instr.makeFunc fn (first.toArray.map a.eval) (caps.toArray.map a.eval)))) E.w):=by
 simp only [astep]at hs
 split at hs
 case h_2=>cases hs
 rename_i x y hx hy
 simp only [Option.some.injEq]at hs;subst hs
 have r1:=evL_rel h.σ h1 hx
 have r2:=evL_rel h.σ h2 hy
 simp only [Instr.makeFunc,Sem.run_bind,Sem.run_pure,Result.andThen_ok]
 refine comes_put h hd ?_
 simp only [Rel]
 exact ⟨_,_,c0,c0,rfl,by simpa using r1,by simpa using r2,rfl⟩
theorem s_fld {x:Operand} {hx x':AO} {s:TypeId} {f:Nat} {fl:Field} {agg:Bool} {n:Nat} (h1:trO x hx=some x') (hf:fieldT P s f=some fl) (ht:tagT P fl.type=some (agg,n))
 (hs:astep call st (.fld d agg n x' fl.offset)=some st') (h:FRel N E st a.tmps c) (hd:d < N):
 ComesQ N E st st' (some d) (Sem.run P (do pure (.value (← Instr.field s (a.eval x) f))) E.w):=by
 simp only [astep]at hs
 split at hs
 case h_2=>cases hs
 rename_i cs hxv
 have hrx:=ev_rel h.σ h1 hxv
 rw [Option.map_eq_some_iff]at hs
 obtain ⟨z,hz,rfl⟩:=hs
 have hl:=rel_size hrx (by simp)
 simp only [Rel]at hrx
 obtain ⟨vs,he,hL⟩:=hrx
 have hlen:=relL_length hL
 simp only [Array.length_toList]at hlen
 unfold fieldT at hf
 split at hf
 case h_2=>cases hf
 rename_i fs hu
 unfold tagT at ht
 split at ht
 case h_2=>cases ht
 rename_i dd i hud hi
 simp only [Option.some.injEq,Prod.mk.injEq]at ht
 obtain ⟨rfl,rfl⟩:=ht
 simp only [he,Instr.field,Sem.run_bind,run_underlying hu,Result.andThen_ok,hf,asAgg,Sem.run_pure,part,run_isAgg hud]
 unfold loadE at hz
 cases hag:aggD dd with
 |true=>
  rw [hag,if_pos rfl]at hz
  simp only [if_true,Sem.run_bind,run_sizeOf hi,Result.andThen_ok,Sem.run_pure]
  have key: ∃ z',z= .a z'∧fl.offset+i.size≤cs.length∧z'=(cs.drop fl.offset).take i.size:=by
   by_cases hh:fl.offset=0∧(V.a cs).cells.length=i.size∧(V.a cs).isA=true
   ·rw [if_pos hh]at hz
    simp only [Option.some.injEq]at hz;subst hz
    have h2:cs.length=i.size:=hh.2.1
    exact ⟨cs,rfl,by omega,by rw [hh.1,List.drop_zero,List.take_of_length_le (by omega)]⟩
   ·rw [if_neg hh]at hz
    by_cases hle:fl.offset+i.size≤(V.a cs).cells.length
    ·rw [if_pos hle]at hz
     simp only [Option.some.injEq]at hz;subst hz
     exact ⟨_,rfl,hle,rfl⟩
    ·rw [if_neg hle]at hz;cases hz
  obtain ⟨z',rfl,hle,rfl⟩:=key
  obtain ⟨d0,d1,d2,g0,g1,g2,hc⟩:=relL_pieces hL fl.offset i.size hle
  have h0:d1=c0:=funext fun b=>by have:=congrFun hc b;simp only [c0,cadd]at this ⊢;omega
  subst h0
  have hr:=rel_a g1
  have e:vs.extract fl.offset (fl.offset+i.size)=((vs.toList.drop fl.offset).take i.size).toArray:=by
   apply Array.ext'
   simp [List.take_drop]
  rw [e]
  exact comes_put h hd hr
 |false=>
  rw [hag,if_neg (by simp)]at hz
  obtain ⟨y,c1,c2,hy,hr,hc,-⟩:=relL_at hL hz
  have h0:c1=c0:=funext fun b=>by have:=congrFun hc b;simp only [c0,cadd]at this ⊢;omega
  subst h0
  have hy':vs[fl.offset]? =some y:=by simpa using hy
  simp only [Bool.false_eq_true,if_false,hy',Sem.run_pure,Result.andThen_ok]
  exact comes_put h hd hr
theorem s_len {x:Operand} {hx x':AO} {t ty e:TypeId} (h1:trO x hx=some x') (hu:P.underlying t=some (.slice e))
 (hs:astep call st (.len d x')=some st') (h:FRel N E st a.tmps c) (hd:d < N):
 ComesQ N E st st' (some d) (Sem.run P (do pure (.value (← Builtin.len_ #[t] ty #[a.eval x]))) E.w):=by
 simp only [astep]at hs
 split at hs
 case h_2=>cases hs
 rename_i xv hxv
 have hrx:=ev_rel h.σ h1 hxv
 rw [Option.map_eq_some_iff]at hs
 obtain ⟨n,hn,rfl⟩:=hs
 have key:Sem.run P (do pure (.value (← Builtin.len_ #[t] ty #[a.eval x])):Sem Next) E.w= .ok (.value (.int .i64 n)) E.w:=by
  unfold lenV at hn
  split at hn<;>first|(simp only [Option.some.injEq]at hn;subst hn)|cases hn
  ·simp only [Rel]at hrx
   obtain ⟨-,⟨A0,-,-,rfl,he⟩|⟨b,base,e',lim,cap,A,-,-,-,-,-,he⟩⟩:=hrx<;>simp [Builtin.len_,he,run_underlying hu,goInt]
  ·simp only [Rel]at hrx
   obtain ⟨-,A,cap,he,-⟩:=hrx
   simp [Builtin.len_,he,run_underlying hu,goInt]
  ·simp only [Rel]at hrx
   simp [Builtin.len_,hrx.1,run_underlying hu,goInt]
 rw [key]
 exact comes_put h hd (rel_leaf rfl)
theorem s_slen {x:Operand} {hx x':AO} {t ty:TypeId} (h1:trO x hx=some x') (hu:P.underlying t=some .string)
 (hs:astep call st (.slen d x')=some st') (h:FRel N E st a.tmps c) (hd:d < N):
 ComesQ N E st st' (some d) (Sem.run P (do pure (.value (← Builtin.len_ #[t] ty #[a.eval x]))) E.w):=by
 simp only [astep]at hs
 split at hs
 case h_2=>cases hs
 rename_i s hxv
 have hrx:=ev_rel h.σ h1 hxv
 simp only [Option.some.injEq]at hs;subst hs
 simp only [Rel]at hrx
 have key:Sem.run P (do pure (.value (← Builtin.len_ #[t] ty #[a.eval x])):Sem Next) E.w= .ok (.value (.int .i64 s.size)) E.w:=by
  simp [Builtin.len_,hrx.1,run_underlying hu,goInt]
 rw [key]
 exact comes_put h hd (rel_leaf rfl)
theorem s_int {x:Operand} {hx x':AO} {src dst:TypeId} {k k0:IntKind} (h1:trO x hx=some x') (hu:P.underlying dst=some (.int k)) (hv:P.underlying src=some (.int k0))
 (hs:astep call st (.int d k x')=some st') (h:FRel N E st a.tmps c) (hd:d < N):
 ComesQ N E st st' (some d) (Sem.run P (do pure (.value (← convert src dst (a.eval x)))) E.w):=by
 simp only [astep]at hs
 split at hs
 case h_2=>cases hs
 rename_i k1 n hxv
 have hrx:=ev_rel h.σ h1 hxv
 simp only [Option.some.injEq]at hs;subst hs
 simp only [Rel]at hrx
 have key:Sem.run P (do pure (.value (← convert src dst (a.eval x))):Sem Next) E.w= .ok (.value (.int k (k.wrap n))) E.w:=by
  simp [convert,hrx.1,run_underlying hu,run_underlying hv,Conv.intToInt]
 rw [key]
 exact comes_put h hd (rel_leaf rfl)
theorem s_ix {x i:Operand} {hx hi x' i':AO} {t:TypeId} (h1:trO x hx=some x') (h2:trO i hi=some i') (hu:P.underlying t=some .string)
 (hs:astep call st (.ix d x' i')=some st') (h:FRel N E st a.tmps c) (hd:d < N):
 ComesQ N E st st' (some d) (Sem.run P (do pure (.value (← Instr.index t (a.eval x) (a.eval i)))) E.w):=by
 simp only [astep]at hs
 split at hs
 case h_2=>cases hs
 rename_i s k n hxv hiv
 have hrx:=ev_rel h.σ h1 hxv
 have hri:=ev_rel h.σ h2 hiv
 rw [Option.map_eq_some_iff]at hs
 obtain ⟨j,hj,rfl⟩:=hs
 simp only [Rel]at hrx hri
 unfold idx? at hj
 split at hj
 case isFalse=>cases hj
 rename_i hb
 simp only [Option.some.injEq]at hj;subst hj
 have hlt:n.toNat < s.size:=by omega
 have hb2:s[n.toNat]? =some s[n.toNat]:=by simp [hlt]
 have hb3:s.data[n.toNat]?.getD 0=s[n.toNat]:=by
  rw [Array.getElem?_eq_getElem (by exact hlt)];rfl
 have key:Sem.run P (do pure (.value (← Instr.index t (a.eval x) (a.eval i))):Sem Next) E.w= .ok (.value (.int .u8 s[n.toNat].toNat)) E.w:=by
  simp [Instr.index,hrx.1,hri.1,asIntOf,run_underlying hu,hb.1,hb2]
 rw [key]
 refine comes_put h hd ?_
 rw [hb3]
 exact rel_leaf rfl
theorem bound_rel {σ:Sl} {o:Option Operand} {ho o':Option AO} {z:Option V} {n d0:Nat} (hσ:SRel E σ a.tmps)
 (ht:(o=none∧o'=none)∨ ∃ x h y,o=some x∧trO x h=some y∧o'=some y) (hz:evO σ o'=some z) (hb:bound? d0 z=some n):
 (o=none∧n=d0)∨ ∃ x k,o=some x∧a.eval x= .int k (n:Int):=by
 rcases ht with ⟨rfl,rfl⟩|⟨x,h,y,rfl,ht,rfl⟩
 ·simp only [evO,Option.some.injEq]at hz;subst hz
  simp only [bound?,Option.some.injEq]at hb;exact .inl ⟨rfl,hb.symm⟩
 ·simp only [evO,Option.map_eq_some_iff]at hz
  obtain ⟨v,hv,rfl⟩:=hz
  have hr:=ev_rel hσ ht hv
  unfold bound? at hb
  split at hb
  ·rename_i hc;cases hc
  ·rename_i k i hc
   simp only [Option.some.injEq]at hc;subst hc
   split at hb
   ·rename_i hi
    simp only [Option.some.injEq]at hb;subst hb
    simp only [Rel]at hr
    exact .inr ⟨x,k,rfl,by rw [hr.1,Int.toNat_of_nonneg hi]⟩
   ·cases hb
  ·cases hb
theorem run_bound {x:Value} {k:IntKind} {n y:Nat} (code:BoundsCode) (hx:x= .int k (n:Int)) (hn:n≤y) (w:World):(Instr.sliceBound x y code).run P w= .ok n w:=by
 subst hx
 simp only [Instr.sliceBound,asIntOf,Sem.run_bind,Sem.run_pure,Result.andThen_ok]
 rw [if_pos ⟨by omega,by omega⟩];simp
theorem run_bounds {lo hi:Option Operand} {l h len cap d0:Nat} {isS:Bool} (hl:(lo=none∧l=0)∨ ∃ x k,lo=some x∧a.eval x= .int k (l:Int))
 (hh:(hi=none∧h=len)∨ ∃ x k,hi=some x∧a.eval x= .int k (h:Int)) (h1:l≤h) (h2:h≤cap) (w:World):
 (Instr.sliceBounds isS len cap (lo.map a.eval) (hi.map a.eval) none).run P w= .ok (l,h,cap) w:=by
 simp only [Instr.sliceBounds]
 rcases hl with ⟨rfl,rfl⟩|⟨x,k,rfl,hx⟩<;>rcases hh with ⟨rfl,rfl⟩|⟨y,k',rfl,hy⟩<;>simp only [Option.map_none,Option.map_some,Sem.run_bind,Sem.run_pure,Result.andThen_ok]
 ·rw [run_bound _ hy h2];simp
 ·rw [run_bound _ hx h1];simp
 ·rw [run_bound _ hy h2];simp only [Result.andThen_ok];rw [run_bound _ hx h1];simp
theorem s_sl {x:Operand} {hx x':AO} {t et:TypeId} {ei:TypeInfo} {lo hi:Option Operand} {lo' hi':Option AO} (h1:trO x hx=some x')
 (hlo:(lo=none∧lo'=none)∨ ∃ x h y,lo=some x∧trO x h=some y∧lo'=some y) (hhi:(hi=none∧hi'=none)∨ ∃ x h y,hi=some x∧trO x h=some y∧hi'=some y)
 (ht:slT P t=some (et,ei))
 (hs:astep call st (.sl d ei.size x' lo' hi')=some st') (h:FRel N E st a.tmps c) (hd:d < N):
 ComesQ N E st st' (some d) (Sem.run P (do pure (.value (← Instr.sliceAt t (a.eval x) (lo.map a.eval) (hi.map a.eval) none))) E.w):=by
 simp only [astep]at hs
 split at hs
 case h_2=>cases hs
 rename_i xv lv hv hxv hlv hhv
 have hrx:=ev_rel h.σ h1 hxv
 rw [Option.map_eq_some_iff]at hs
 obtain ⟨z,hz,rfl⟩:=hs
 unfold sliceV at hz
 split at hz
 case h_1=>cases hz
 rename_i n hn
 split at hz
 case h_2=>cases hz
 rename_i l hh hbl hbh
 split at hz
 case isFalse=>cases hz
 rename_i hle
 have hl2:=bound_rel (a:=a) (ho:=none) h.σ hlo hlv hbl
 have hh2:=bound_rel (a:=a) (ho:=none) h.σ hhi hhv hbh
 unfold slT at ht
 split at ht
 case h_2=>cases ht
 rename_i e hu
 rw [Option.map_eq_some_iff]at ht
 obtain ⟨ei',hei,heq⟩:=ht
 simp only [Prod.mk.injEq]at heq
 obtain ⟨rfl,rfl⟩:=heq
 have hrun: ∀ A cap,a.eval x= .slice A n cap→n≤cap→Sem.run P (do pure (.value (← Instr.sliceAt t (a.eval x) (lo.map a.eval) (hi.map a.eval) none)):Sem Next) E.w=
  .ok (.value (.slice (if cap=l then A else A.map (·.add (l*ei'.size))) (hh - l) (cap - l))) E.w:=by
  intro A cap he hcap
  have hb:=run_bounds (P:=P) (a:=a) (d0:=0) (isS:=true) (len:=n) (cap:=cap) hl2 hh2 hle.1 (by omega) E.w
  simp only [Instr.sliceAt,Sem.run_bind,run_underlying hu,Result.andThen_ok,Instr.slice,he,hb,run_sizeOf hei,Sem.run_pure]
 split at hz
 ·rename_i k l0 len
  simp only [lenV,Option.some.injEq]at hn;subst hn
  simp only [Rel]at hrx
  split at hz
  case h_2=>cases hz
  rename_i ob hg
  split at hz
  case isFalse=>cases hz
  rename_i hoe
  simp only [Option.some.injEq]at hz;subst hz
  obtain ⟨-,⟨A0,hμ,rfl,rfl,he⟩|⟨b,base,e',lim,cap,A,hμ,hcap,hroom,hpos,hA,he⟩⟩:=hrx
  ·rw [hrun A0 0 he (Nat.le_refl _)]
   refine comes_put h hd ?_
   simp only [Rel]
   have hl0:l=0:=by omega
   have hh0:hh=0:=by omega
   subst hl0;subst hh0
   exact ⟨by trivial,.inl ⟨A0,hμ,by omega,by omega,by simp⟩⟩
  ·obtain ⟨c1,c2,ho,-,-⟩:=tRel_get h.T hg
   have hee:e'=ei'.size:=by
    rcases ho with ⟨_,_,_,_,q1,-⟩|⟨⟨A1,q1⟩,-⟩|⟨b2,base2,lim2,cells,T,fz,c3,q1,-⟩
    ·rw [q1]at hμ;cases hμ
    ·rw [q1]at hμ;cases hμ
    ·rw [q1]at hμ;cases hμ;exact hoe
   rw [hrun _ _ he hcap]
   refine comes_put h hd ?_
   simp only [Rel]
   refine ⟨by trivial,.inr ⟨b,base,e',lim,cap - l,if cap=l then A else A.add (l*ei'.size),hμ,by omega, ?_,fun h=>by have:=hpos (by omega);omega, ?_,by split<;>rfl⟩⟩
   ·rw [show l0+l+(cap - l)=l0+cap by omega];exact hroom
   ·by_cases hc:cap=l
    ·exact .inl (by omega)
    ·right
     rw [if_neg hc]
     rcases hA with hA|hA
     ·omega
     ·rw [hA,add_none,hee,Nat.add_mul];simp only [Nat.add_assoc]
 ·rename_i τ xs
  split at hz
  case isFalse=>cases hz
  rename_i hok
  simp only [Option.some.injEq]at hz;subst hz
  simp only [lenV,Option.some.injEq]at hn;subst hn
  simp only [Rel]at hrx
  obtain ⟨-,A,cap,he,hcap,hR⟩:=hrx
  rw [hrun _ _ he hcap]
  refine comes_put h hd ?_
  simp only [Rel]
  have hlen:((xs.drop l).take (hh - l)).length=hh - l:=by simp;omega
  refine ⟨by trivial,_,_,by rw [hlen],by rw [hlen];omega, ?_⟩
  by_cases hc:hh=l
  ·left;apply List.length_eq_zero_iff.1;omega
  ·rcases hR with rfl|⟨b,base,e',cells,T,fz,rfl,hI,hw,hR⟩
   ·simp only [List.length_nil]at hle;omega
   ·right
    have hee:e'=ei'.size:=by
     cases xs with
     |nil=>simp only [List.length_nil]at hle;omega
     |cons x0 xs0=>
      simp only [RelR]at hR
      obtain ⟨y,t,c1,c2,-,-,hl0,-⟩:=hR
      simp only [headOk,beq_iff_eq]at hok
      omega
    refine ⟨b,base+l*e',e',cells,T,fz, ?_,hI,hw, ?_⟩
    ·rw [if_neg (by omega)];simp [add_none,hee]
    ·obtain ⟨q1,q2,-,h3,hq⟩:=relR_take l hR
     obtain ⟨q3,q4,h5,-,hq'⟩:=relR_take (hh - l) h3
     have h0:q3=c0:=funext fun z=>by
      have:=congrFun hq z;have:=congrFun hq' z;simp only [c0,cadd]at*;omega
     subst h0
     rw [hlen]
     have hm:l*e'+(hh - l)*e'≤xs.length*e':=by rw [← Nat.add_mul];exact Nat.mul_le_mul_right _ (by omega)
     rwa [seg_sub hm]at h5
 ·simp only [Option.some.injEq]at hz;subst hz
  have hn0:n=0:=(Option.some.inj hn).symm
  simp only [Rel]at hrx
  rw [hrun none 0 (by rw [hrx.1,hn0]) (by omega)]
  refine comes_put h hd ?_
  have hl0:l=0:=by omega
  have hh0:hh=0:=by omega
  subst hl0;subst hh0
  simp only [Rel]
  exact ⟨by simp,by trivial⟩
 ·cases hz
theorem s_ssl {x:Operand} {hx x':AO} {t:TypeId} {lo hi:Option Operand} {lo' hi':Option AO} (h1:trO x hx=some x')
 (hlo:(lo=none∧lo'=none)∨ ∃ x h y,lo=some x∧trO x h=some y∧lo'=some y) (hhi:(hi=none∧hi'=none)∨ ∃ x h y,hi=some x∧trO x h=some y∧hi'=some y)
 (hu:P.underlying t=some .string)
 (hs:astep call st (.ssl d x' lo' hi')=some st') (h:FRel N E st a.tmps c) (hd:d < N):
 ComesQ N E st st' (some d) (Sem.run P (do pure (.value (← Instr.sliceAt t (a.eval x) (lo.map a.eval) (hi.map a.eval) none))) E.w):=by
 simp only [astep]at hs
 split at hs
 case h_2=>cases hs
 rename_i s lv hv hxv hlv hhv
 have hrx:=ev_rel h.σ h1 hxv
 split at hs
 case h_2=>cases hs
 rename_i l hh hbl hbh
 split at hs
 case isFalse=>cases hs
 rename_i hle
 simp only [Option.some.injEq]at hs;subst hs
 have hl2:=bound_rel (a:=a) (ho:=none) h.σ hlo hlv hbl
 have hh2:=bound_rel (a:=a) (ho:=none) h.σ hhi hhv hbh
 simp only [Rel]at hrx
 have hb:=run_bounds (P:=P) (a:=a) (d0:=0) (isS:=false) (len:=s.size) (cap:=s.size) hl2 hh2 hle.1 (by omega) E.w
 have hrun:Sem.run P (do pure (.value (← Instr.sliceAt t (a.eval x) (lo.map a.eval) (hi.map a.eval) none)):Sem Next) E.w= .ok (.value (.string (s.extract l hh))) E.w:=by
  simp only [Instr.sliceAt,Sem.run_bind,run_underlying hu,Result.andThen_ok,Instr.slice,hrx.1,Option.isSome_none,Bool.false_eq_true,if_false,hb,Sem.run_pure]
 rw [hrun]
 exact comes_put h hd (rel_leaf rfl)
end
end Go.Vm
set_option autoImplicit false
set_option linter.unusedSectionVars false
set_option linter.unusedVariables false
set_option linter.unusedSimpArgs false
namespace Go.Vm
variable [Lay]
theorem growBy_le(n:Nat): ∀ (r c:Nat),c≤n+(n+768) / 4→Builtin.growBy n r c≤n+(n+768) / 4
 |0,c,h=>h
 |r+1,c,h=>by
  simp only [Builtin.growBy]
  split
  ·exact h
  ·exact growBy_le n r _ (by omega)
theorem nextcap_le {n old:Nat} (h:old < n):Builtin.nextslicecap n old≤2*n+192:=by
 unfold Builtin.nextslicecap
 split
 ·omega
 ·split
  ·omega
  ·have:=growBy_le n 4 old (by omega);omega
theorem ones' {l:List Value} (h:ones l): ∀ u ∈ l,u.oneCell'=true:=fun u hu=>by have:=h u hu;cases u<;>simp_all [Value.oneCell,Value.oneCell']
theorem relR_ones {E:Env} {e:Nat}: ∀ {xs:List V} {ys:List Value} {c:Cnt},RelR E e xs ys c→ones ys
 |[],ys,c,h=>by simp only [RelR]at h;rw [h.1];intro z hz;cases hz
 |x::xs,ys,c,h=>by
  simp only [RelR]at h
  obtain ⟨y,t,c1,c2,rfl,-,-,ho,-,h2,-⟩:=h
  intro z hz
  rcases List.mem_append.1 hz with hz|hz
  ·exact ho z hz
  ·exact relR_ones h2 z hz
section
variable {P:Program} {N:Nat} {E:Env} {c:Cnt} {st st':St} {a:Act} {d:Nat} {call:Call}
theorem cz {x y z:Cnt} (h:x=cadd y z) (hx:x=c0):y=c0∧z=c0:=by
 subst hx
 exact ⟨funext fun b=>by have:=congrFun h b;simp only [c0,cadd]at this ⊢;omega,funext fun b=>by have:=congrFun h b;simp only [c0,cadd]at this ⊢;omega⟩
theorem elems_rel {T:Mem} {x:V} {v:Value} {e:Nat} {ys:List V} {sh:Bool} (hT:TRel E T c) (hx:Rel E x v c0) (he:elemsOf T e x=some ys) (hz:zeroBL ys=true)
 (hl:ys.all (fun y=>y.cells.length==e)=true):
 ∃ news,RelR E e ys news c0∧((v= .slice none 0 0∧ys=[])∨ ∃ A cap,v= .slice (some A) ys.length cap∧ ∀ j u,news[j]? =some u→E.w.cell? (A.add j)=some u)∨(ys=[]∧ ∃ A cap,v= .slice A 0 cap∧RelR E e ys [] c0∧news=[]):=by
 unfold elemsOf at he
 split at he
 ·rename_i k lo len
  split at he
  case h_2=>cases he
  rename_i ob hg
  split at he
  case isFalse=>cases he
  rename_i hh
  simp only [Option.some.injEq]at he;subst he
  simp only [Rel]at hx
  obtain ⟨-,⟨A0,hμ,rfl,rfl,rfl⟩|⟨b,base,e',lim,cap,A,hμ,hcap,hroom,hpos,hA,rfl⟩⟩:=hx
  ·exact ⟨[],.inr ⟨by simp,A0,0,rfl,by simp [RelR],rfl⟩⟩
  ·obtain ⟨c1,c2,ho,-,-⟩:=tRel_get hT hg
   rcases ho with ⟨_,_,_,_,q1,-⟩|⟨⟨A0,q1⟩,-⟩|⟨b2,base2,lim2,cells,ty,fz,c3,q1,hw,hsz,hf,hs,hr,-⟩
   ·rw [q1]at hμ;cases hμ
   ·rw [q1]at hμ;cases hμ
   ·rw [q1]at hμ;cases hμ
    obtain ⟨f1,f2,h1,h2,hq⟩:=relR_take lo hr
    obtain ⟨f3,f4,h3,h4,hq'⟩:=relR_take len h2
    have h0:=relR_zero h3 hz
    subst h0
    have hm:lo*ob.1+len*ob.1≤ob.2.length*ob.1:=by rw [← Nat.add_mul];exact Nat.mul_le_mul_right _ hh.2
    rw [seg_sub hm,hh.1]at h3
    have hlen:((ob.2.drop lo).take len).length=len:=by simp;omega
    rcases hA with hA|hA
    ·have h00:len=0:=by omega
     subst h00
     exact ⟨[],.inr ⟨by simp,some A,cap,by simp,by simp [RelR],rfl⟩⟩
    ·refine ⟨_,.inl ⟨h3,.inr ⟨A,cap,by rw [hlen],fun j u hu=> ?_⟩⟩⟩
     rw [hA,add_none,cell_of hw,hh.1]
     exact seg_get hu
 ·rename_i τ xs
  simp only [Option.some.injEq]at he;subst he
  simp only [Rel]at hx
  obtain ⟨-,A,cap,rfl,hcap,hR⟩:=hx
  rcases hR with rfl|⟨b,base,e',cells,ty,fz,rfl,hI,hw,hR⟩
  ·exact ⟨[],.inr ⟨rfl,A,cap,by simp,by simp [RelR],rfl⟩⟩
  ·cases xs with
   |nil=>exact ⟨[],.inr ⟨rfl,some ⟨b,base,none⟩,cap,by simp,by simp [RelR],rfl⟩⟩
   |cons x0 xs0=>
    have hee:e'=e:=by
     have hR':=hR
     simp only [RelR]at hR'
     obtain ⟨y,t,c1,c2,-,-,hl0,-⟩:=hR'
     simp only [List.all_cons,Bool.and_eq_true,beq_iff_eq]at hl
     omega
    subst hee
    exact ⟨_,.inl ⟨relR_mono hR (mono_cl E c0),.inr ⟨_,cap,rfl,fun j u hu=>by rw [add_none,cell_of hw];exact seg_get hu⟩⟩⟩
 ·simp only [Option.some.injEq]at he;subst he
  simp only [Rel]at hx
  exact ⟨[],.inl ⟨by simp [RelR],.inl ⟨hx.1,rfl⟩⟩⟩
 ·cases he
theorem src_of {v:Value} {e:Nat} {ys:List V} {tx e':TypeId} (hk:P.underlying tx=some (.slice e')) {news:List Value} (hR:RelR E e ys news c0)
 (hv:(v= .slice none 0 0∧ys=[])∨(∃ A cap,v= .slice (some A) ys.length cap∧ ∀ j u,news[j]? =some u→E.w.cell? (A.add j)=some u)∨(ys=[]∧ ∃ A cap,v= .slice A 0 cap)):
 Src P e tx v ys.length news E.w:=by
 have hl:=relR_length hR
 have ho:=ones' (relR_ones hR)
 rcases hv with ⟨rfl,rfl⟩|⟨A,cap,rfl,h⟩|⟨rfl,A,cap,rfl⟩
 ·simp only [List.length_nil,Nat.zero_mul,List.length_eq_zero_iff]at hl;subst hl;exact Src.ofNil E.w hk 0
 ·exact Src.ofSlice E.w hk A _ _ news hl h ho
 ·simp only [List.length_nil,Nat.zero_mul,List.length_eq_zero_iff]at hl;subst hl
  cases A with
  |none=>exact Src.ofNil E.w hk cap
  |some A=>exact Src.ofSlice E.w hk A 0 cap [] (by simp) (fun j u h=>by simp at h) (fun u h=>by cases h)
theorem killL_append(d:Nat) (xs ys:List V):killL d (xs++ys)=killL d xs++killL d ys:=by induction xs<;>simp_all [killL]
theorem elems_src {T:Mem} {x:V} {v:Value} {e:Nat} {ys:List V} {tx e':TypeId} (hk:P.underlying tx=some (.slice e')) (hT:TRel E T c) (hx:Rel E x v c0) (he:elemsOf T e x=some ys) (hz:zeroBL ys=true)
 (hl:ys.all (fun y=>y.cells.length==e)=true): ∃ news,RelR E e ys news c0∧Src P e tx v ys.length news E.w:=by
 obtain ⟨news,⟨h1,h2⟩|⟨h1,A,cap,h2,h3,h4⟩⟩:=elems_rel (sh:=true) hT hx he hz hl
 ·rcases h2 with h2|h2
  ·exact ⟨news,h1,src_of hk h1 (.inl h2)⟩
  ·exact ⟨news,h1,src_of hk h1 (.inr (.inl h2))⟩
 ·exact ⟨[],h3,src_of hk h3 (.inr (.inr ⟨h1,A,cap,h2⟩))⟩
theorem Grew.drew {w:World} {o:Obj}:Grew w o (w.drew.alloc o):=⟨rfl,rfl,rfl,rfl⟩
theorem s_app {x y:Operand} {hx hy x' y':AO} {t tx ty et ex:TypeId} {ei:TypeInfo} {z:Value} (h1:trO x hx=some x') (h2:trO y hy=some y')
 (ht:P.underlying t=some (.slice et)) (hi:P.info? et=some ei) (hzero:ei.zero=some z) (hk:P.underlying tx=some (.slice ex)) (hb:ei.bytes≤1048576) (hzs:z.cells.size=ei.size)
 (hs:astep call st (.app d ei.size ei.bytes x' y')=some st') (h:FRel N E st a.tmps c) (hd:d < N):
 Comes1 N E c st' a (some d) (Sem.run P (do pure (.value (← Builtin.append_ #[t,tx] ty #[a.eval x,a.eval y]))) E.w):=by
 simp only [astep]at hs
 split at hs
 case h_2=>cases hs
 rename_i xv yv hxv hyv
 have hrx:=ev_rel h.σ h1 hxv
 have hry:=ev_rel h.σ h2 hyv
 split at hs
 case h_2=>cases hs
 rename_i ys xs T' hys hxs
 split at hs
 case isFalse=>cases hs
 rename_i hcond
 simp only [Bool.and_eq_true,decide_eq_true_eq]at hcond
 obtain ⟨⟨⟨hz,hall⟩,hbytes⟩,hlim⟩:=hcond
 simp only [Option.some.injEq]at hs;subst hs
 have hall':ys.all (fun y=>y.cells.length==ei.size)=true:=by
  rw [List.all_eq_true]at hall ⊢
  intro u hu;have:=hall u hu;simp only [Bool.and_eq_true]at this;exact this.2
 obtain ⟨news,hnR,hsrc⟩:=elems_src (P:=P) hk h.T hry hys hz hall'
 have hnl:=relR_length hnR
 have hx: ∃ cx cr,TRel E T' cr∧cle (cadd cx cr) c∧
  ((∃ A0,a.eval x= .slice A0 0 0∧xs=[]∧cx=c0)∨
   ∃ b base lim cap A cells tyb fz cxs,a.eval x= .slice (some A) xs.length cap∧xs.length≤cap∧base+cap*ei.size≤lim∧0 < cap∧A=⟨b,base,none⟩∧
    E.w.heap[b]? =some (.cells cells tyb fz)∧cells.size=lim∧okFz fz cells.size∧RelR E ei.size xs (seg cells base (xs.length*ei.size)) cxs∧cx=cadd (delta b) cxs):=by
  unfold app? at hxs
  split at hxs
  ·simp only [Option.some.injEq,Prod.mk.injEq]at hxs
   obtain ⟨rfl,rfl⟩:=hxs
   simp only [Rel]at hrx
   exact ⟨c0,c,h.T,by rw [c0_cadd];exact cle_refl _,.inl ⟨none,hrx.1,rfl,rfl⟩⟩
  ·rename_i k lo len
   split at hxs
   case h_2=>cases hxs
   rename_i ob hg
   split at hxs
   case isFalse=>cases hxs
   rename_i hh
   simp only [Option.some.injEq,Prod.mk.injEq]at hxs
   obtain ⟨rfl,rfl⟩:=hxs
   obtain ⟨e1,e2,ho,hrest,rfl⟩:=tRel_get h.T hg
   simp only [Rel]at hrx
   obtain ⟨-,⟨A0,hμ,rfl,rfl,he⟩|⟨b,base,e',lim,cap,A,hμ,hcap,hroom,hpos,hA,he⟩⟩:=hrx
   ·exact ⟨c0,e2,hrest,by rw [c0_cadd];exact cle_right _ _,.inl ⟨A0,he,by simp,rfl⟩⟩
   by_cases hc0:cap=0
   ·have hl0:len=0:=by omega
    subst hc0;subst hl0
    exact ⟨c0,e2,hrest,by rw [c0_cadd];exact cle_right _ _,.inl ⟨some A,he,by simp,rfl⟩⟩
   replace hA:=hA.resolve_left hc0
   ·rcases ho with ⟨_,_,_,_,q1,-⟩|⟨⟨A0,q1⟩,-⟩|⟨b2,base2,lim2,cells,tyb,fz,c3,q1,hw,hsz,hf,hsp,hr,rfl⟩
    ·rw [q1]at hμ;cases hμ
    ·rw [q1]at hμ;cases hμ
    ·rw [q1]at hμ;cases hμ
     obtain ⟨f1,f2,g1,g2,rfl⟩:=relR_take lo hr
     obtain ⟨f3,f4,g3,g4,rfl⟩:=relR_take len g2
     have hm:lo*ob.1+len*ob.1≤ob.2.length*ob.1:=by rw [← Nat.add_mul];exact Nat.mul_le_mul_right _ hh.2
     rw [seg_sub hm]at g3
     have hlen:((ob.2.drop lo).take len).length=len:=by simp;omega
     refine ⟨cadd (delta b) f3,e2,hrest, ?_,.inr ⟨b,base+lo*ob.1,lim,cap,A,cells,tyb,fz,f3,by rw [hlen];exact he,by rw [hlen];exact hcap, ?_,by omega,hA,hw,hsz,hf, ?_,rfl⟩⟩
     ·intro u;simp only [cadd];omega
     ·rw [← hh.1];have:=Nat.add_mul lo cap ob.1;omega
     ·rw [hlen, ← hh.1];exact g3
  ·cases hxs
 obtain ⟨cx,cr,hT',hcle,hx⟩:=hx
 obtain ⟨c1,hσ1,hT1,hle1⟩:=wipe_rel (st:={st with T:=T'}) d h.σ hT'
 have hg:Good E (cadd cx cr):=h.g.le hcle
 have hnR1:=relR_drop (d:=d) hnR
 have hcc:cle (cadd cx c1) c:=fun u=>by have:=hcle u;have:=hle1 u;simp only [cadd]at*;omega
 have hgrow: ∀ (A:Option Addr) (cap:Nat) (olds:List Value) (cxs:Cnt),a.eval x= .slice A xs.length cap→cap < xs.length+ys.length→RelR E ei.size xs olds cxs→cle cxs cx→
  (Builtin.firstCells ei.size xs.length (.slice A xs.length cap)).run P E.w.drew= .ok olds.toArray E.w.drew→
  Comes1 N E c {σ:=(d,.s (d,0) 0 (xs.length+ys.length))::(wipe d {st with T:=T'}).σ,T:=((d,0),ei.size,killL d (xs++ys))::(wipe d {st with T:=T'}).T} a (some d)
   (Sem.run P (do pure (.value (← Builtin.append_ #[t,tx] ty #[a.eval x,a.eval y]))) E.w):=by
  intro A cap olds cxs he hcap hR hcxs hfirst
  have hnc:=nextcap_le hcap
  have hrun:=run_append_grow_src (P:=P) E.w t tx ty et ei z ht hi hzero A xs.length cap olds hfirst (a.eval y) ys.length news hsrc hcap
   (by simp only [lim]at hlim;omega)
   (by
    simp only [lim]at hbytes
    have h1:Builtin.nextslicecap (xs.length+ys.length) cap*ei.bytes≤(2*(xs.length+ys.length)+192)*ei.bytes:=Nat.mul_le_mul_right _ hnc
    have h2:(2*(xs.length+ys.length)+192)*ei.bytes=2*((xs.length+ys.length)*ei.bytes)+192*ei.bytes:=by rw [Nat.add_mul,Nat.mul_assoc]
    omega)
  rw [he]
  simp only [Sem.run_bind,hrun,Result.andThen_ok,Sem.run_pure]
  have hge:=grownCap_ge E.w (xs.length+ys.length) cap et
  have hol:=relR_length hR
  have hRR:=relR_append (relR_drop (d:=d) hR) hnR1
  rw [← killL_append,cadd_c0]at hRR
  have hseg:seg ((olds++news).toArray++Builtin.zeroCells z.cells (grownCap E.w (xs.length+ys.length) cap et - (xs.length+ys.length))) 0 ((killL d (xs++ys)).length*ei.size)=olds++news:=by
   have hl:(olds++news).length=(killL d (xs++ys)).length*ei.size:=by rw [killL_length,List.length_append,List.length_append,hol,hnl,Nat.add_mul]
   simp only [seg,List.drop_zero,Array.toList_append, ← hl,List.take_left]
  rw [← hseg]at hRR
  have hfit:(killL d (xs++ys)).length*ei.size≤((olds++news).toArray++Builtin.zeroCells z.cells (grownCap E.w (xs.length+ys.length) cap et - (xs.length+ys.length))).size:=by
   simp only [Array.size_append,List.size_toArray,List.length_append,hol,hnl,killL_length,Nat.add_mul];omega
  obtain ⟨E',c',hw,hks,hμ,hF,hA,hc⟩:=frel_alloc (d:=d) (tmps:=a.tmps) (ty:=et) (fz:=(0,0)) (E:=E.drop d) h.sz hσ1 hT1 (drop_free E d) hfit hRR
   ((hg.drop d).le fun u=>by have:=hcxs u;have:=hle1 u;simp only [cadd]at*;omega) (.inr (Nat.le_refl _)) Grew.drew
  refine ⟨E',c',hw,keeps_drop hks, ?_,adv_le (c1:=cadd cxs c1) ⟨hA.sizes,hA.os,hA.tape,hA.output,hA.size,hA.frame,hA.sub,hA.own,hA.imm⟩ fun u=>by have:=hcc u;have:=hcxs u;simp only [cadd]at*;omega⟩
  refine hF.put (x:= .s (d,0) 0 (xs.length+ys.length)) ?_ hd
  simp only [Rel]
  refine ⟨by trivial,.inr ⟨_,0,ei.size,_,grownCap E.w (xs.length+ys.length) cap et,_,hμ,hge, ?_,fun _=>by omega,.inr (by simp [Env.drop]),rfl⟩⟩
  simp only [Array.size_append,List.size_toArray,List.length_append,hol,hnl,Builtin.zeroCells,Array.size_map,Array.size_range,hzs]
  rw [← Nat.add_mul, ← Nat.add_mul,Nat.zero_add,Nat.zero_add,show xs.length+ys.length+(grownCap E.w (xs.length+ys.length) cap et - (xs.length+ys.length))=grownCap E.w (xs.length+ys.length) cap et by omega]
  exact Nat.le_refl _
 rcases hx with ⟨A0,he,rfl,rfl⟩|⟨b,base,lim0,cap,A,cells,tyb,fz,cxs,he,hcap,hroom,hpos,hA,hw,hsz,hf,hr,rfl⟩
 ·
  by_cases hn:ys=[]
  ·subst hn
   have hrun:Sem.run P (Builtin.append_ #[t,tx] ty #[a.eval x,a.eval y]) E.w= .ok (.slice A0 0 0) E.w:=by
    have hnews:news=[]:=by simpa using hnl
    have hl:=hsrc.len E.w
    have hc:=hsrc.cells
    rw [hnews]at hc
    simp only [List.length_nil]at hl hc
    rw [he]
    cases A0<;>simp [Builtin.append_,run_underlying ht,run_underlying hk,sizeOf,typeInfo,hi,hl,hc,storeCells]
   simp only [Sem.run_bind,hrun,Result.andThen_ok,Sem.run_pure]
   have hn:=names_one (d:=d) (j:=0) (E:=E.drop d) (fun i _=>drop_free E d i) (.emp A0)
   refine ⟨(E.drop d).name (d,0) (.emp A0),c1,rfl,keeps_drop hn.hout,⟨by simpa [Act.put]using h.sz, ?_, ?_, ?_⟩, ?_⟩
   ·refine sRel_put (sRel_mono hσ1 (hn.mono _)) ?_ (by rw [h.sz];exact hd)
    simp only [Rel];exact ⟨by trivial,.inl ⟨A0,by simp [Env.name],by trivial,by simp,by trivial⟩⟩
   ·exact ⟨c0,c1,.inr (.inl ⟨⟨A0,by simp [Env.name]⟩,by simp [killL],rfl⟩),tRel_mono hT1 (hn.mono _),(c0_cadd _).symm⟩
   ·exact good_names (E:=E.drop d) rfl rfl (fun u=>by have:=hcc u;simp only [cadd,c0]at this;omega) (h.g.drop d)
   ·exact adv_names (E:=E) rfl rfl (fun u=>by have:=hcc u;simp only [cadd,c0]at this;omega)
  ·have hpos:0 < ys.length:=List.length_pos_iff.2 hn
   refine hgrow A0 0 [] c0 he (by simpa using hpos) (by simp [RelR]) (c0_le _) ?_
   cases A0 with
   |none=>exact run_firstCells_none E.w.drew ei.size 0 0 0
   |some A1=>exact run_firstCells_some E.w.drew ei.size 0 A1 0 0 [] (by simp) (fun j v h=>by simp at h)
 ·by_cases hc:xs.length+ys.length≤cap
  ·
   have hxl:xs.length*ei.size+ys.length*ei.size≤cap*ei.size:=by rw [← Nat.add_mul];exact Nat.mul_le_mul_right _ hc
   have hstore: ∃ w' cells',(storeCells (A.add (xs.length*ei.size)) news).run P E.w= .ok () w'∧Wrote E.w b cells' w'∧cells'.toList=splice cells.toList (base+xs.length*ei.size) news:=by
    ·rw [hA,add_none]
     have:=run_storeSeg (P:=P) (b:=b) (o:=base+xs.length*ei.size) news 0 E.w cells hw hf (by rw [hnl];omega) (relR_ones hnR)
     simpa using this
   obtain ⟨w',cells',hrs,hW,hc'⟩:=hstore
   have hrun:Sem.run P (Builtin.append_ #[t,tx] ty #[a.eval x,a.eval y]) E.w= .ok (.slice (some A) (xs.length+ys.length) cap) w':=by
    rw [he]
    simp [Builtin.append_,run_underlying ht,run_underlying hk,sizeOf,typeInfo,hi,hsrc.len,hc,hsrc.cells,hrs]
   simp only [Sem.run_bind,hrun,Result.andThen_ok,Sem.run_pure]
   have hg1:Good (E.drop d) (cadd (cadd (delta b) cxs) c1):=(h.g.drop d).le hcc
   obtain ⟨hmono,hσ',hgood,hadv⟩:=frel_write (N:=N) (T':=[]) hσ1 hg1 hW
   have hn:=names_one (d:=d) (j:=0) (E:={E.drop d with w:=w'}) (fun i _=>drop_free E d i) (.at b base ei.size lim0)
   have hcl:cells.toList.length=cells.size:=Array.length_toList
   have hnewcells:cells'.size=cells.size:=by
    rw [← Array.length_toList,hc',splice_length (by rw [hnl,hcl];omega),hcl]
   have hRR:=relR_append (relR_mono (relR_drop (d:=d) hr) (hmono cxs (cle_left _ _))) (relR_mono hnR1 (hmono c0 (c0_le _)))
   rw [← killL_append,cadd_c0]at hRR
   have hseg:seg cells base (xs.length*ei.size)++news=seg cells' base ((killL d (xs++ys)).length*ei.size):=by
    have hlen:(killL d (xs++ys)).length*ei.size=xs.length*ei.size+ys.length*ei.size:=by rw [killL_length,List.length_append,Nat.add_mul]
    have q:=seg_splice (cells:=cells) (cells':=cells') (base:=base) (n:=xs.length*ei.size+ys.length*ei.size) (o:=xs.length*ei.size) (vs:=news) hc' (by omega) (by omega)
    rw [hlen,q]
    have hsl:(seg cells base (xs.length*ei.size+ys.length*ei.size)).length=xs.length*ei.size+ys.length*ei.size:=seg_length (by omega)
    have e1:(seg cells base (xs.length*ei.size+ys.length*ei.size)).take (xs.length*ei.size)=seg cells base (xs.length*ei.size):=by
     rw [seg_full];congr 1;omega
    simp only [splice,e1]
    rw [List.drop_eq_nil_of_le (by omega),List.append_nil]
   rw [hseg]at hRR
   refine ⟨{E.drop d with w:=w'}.name (d,0) (.at b base ei.size lim0),cadd (cadd (delta b) cxs) c1,rfl,keeps_drop hn.hout,⟨by simpa [Act.put]using h.sz, ?_, ?_, ?_⟩, ?_⟩
   ·refine sRel_put (sRel_mono hσ' (hn.mono _)) ?_ (by rw [h.sz];exact hd)
    simp only [Rel]
    exact ⟨by trivial,.inr ⟨b,base,ei.size,lim0,cap,A,by simp [Env.name],hc,by simpa using hroom,fun _=>hpos,by simpa using Or.inr hA,rfl⟩⟩
   ·refine ⟨cadd (delta b) cxs,c1,.inr (.inr ⟨b,base,lim0,cells',tyb,fz,cxs,by simp [Env.name],(hW.self _ _ _ hw).1,by omega,by rw [hnewcells];exact hf, ?_,relR_mono hRR (hn.mono _),rfl⟩),tRel_mono (tRel_mono hT1 (hmono c1 (cle_right _ _))) (hn.mono _),rfl⟩
    show base+(killL d (xs++ys)).length*ei.size≤lim0
    rw [killL_length,List.length_append,Nat.add_mul];omega
   ·exact good_names (E:={E.drop d with w:=w'}) rfl rfl (cle_refl _) hgood
   ·have hadv':Adv E (cadd (cadd (delta b) cxs) c1) ({E.drop d with w:=w'}.name (d,0) (.at b base ei.size lim0)) (cadd (cadd (delta b) cxs) c1):=
     ⟨hadv.sizes,hadv.os,hadv.tape,hadv.output,hadv.size,hadv.frame,hadv.sub,hadv.own,hadv.imm⟩
    exact adv_le hadv' hcc
  ·refine hgrow (some A) cap _ cxs he (by omega) hr (cle_right _ _) ?_
   have hsl:(seg cells base (xs.length*ei.size)).length=xs.length*ei.size:=by
    apply seg_length
    have:xs.length*ei.size≤cap*ei.size:=Nat.mul_le_mul_right _ hcap
    omega
   ·exact run_firstCells_some E.w.drew ei.size xs.length A xs.length cap _ hsl (fun j v hv=>by
     rw [hA,add_none]
     have:=cell_of (o:=base+j) hw
     have h3:E.w.drew.cell? ⟨b,base+j,none⟩=E.w.cell? ⟨b,base+j,none⟩:=rfl
     rw [h3,this];exact seg_get hv)
end
end Go.Vm
set_option autoImplicit false
set_option linter.unusedSectionVars false
set_option linter.unusedVariables false
set_option linter.unusedSimpArgs false
namespace Go.Vm
variable [Lay]
theorem foldl_splice(off:Nat): ∀ (l:List Value) (k:Nat) (cs:Array Value),off+k+l.length≤cs.size→
 ((l.zipIdx k).foldl (fun cs (x:Value × Nat)=>cs.setIfInBounds (off+x.2) x.1) cs).toList=splice cs.toList (off+k) l
 |[],k,cs,h=>by simp [splice]
 |v::l,k,cs,h=>by
  simp only [List.length_cons]at h
  simp only [List.zipIdx_cons,List.foldl_cons]
  rw [foldl_splice off l (k+1) _ (by simp only [Array.size_setIfInBounds];omega),Array.toList_setIfInBounds, ← Nat.add_assoc,splice_cons (l:=cs.toList) (o:=off+k) (by rw [Array.length_toList];omega)]
theorem fill_splice(off:Nat) (v:Value) (cs:Array Value) (h:off+v.cells.size≤cs.size):
 (v.cells.zipIdx.foldl (fun cs (x:Value × Nat)=>cs.setIfInBounds (off+x.2) x.1) cs).toList=splice cs.toList off v.cells.toList:=by
 have:=foldl_splice off v.cells.toList 0 cs (by rw [Array.length_toList];omega)
 rw [Nat.add_zero]at this
 rw [← this]
 congr 1
 rw [← Array.foldl_toList,Array.toList_zipIdx]
theorem fill_row(size:Nat): ∀ (vs:List Value) (k:Nat) (cs:Array Value),(∀ v ∈ vs,v.cells.size=size)→(k+vs.length)*size≤cs.size→
 ∃ res,Instr.fill (fun i=>some (i*size,size)) cs ((List.range' k vs.length).zip vs)=some res∧
  res.toList=cs.toList.take (k*size)++vs.flatMap (fun v=>v.cells.toList)++cs.toList.drop ((k+vs.length)*size)
 |[],k,cs,h,hs=>⟨cs,by simp [Instr.fill],by simp⟩
 |v::vs,k,cs,h,hs=>by
  have hv:=h v (List.mem_cons_self)
  simp only [List.length_cons]at hs
  have hks:k*size+size≤cs.size:=by
   have:(k+1)*size≤(k+(vs.length+1))*size:=Nat.mul_le_mul_right _ (by omega)
   rw [Nat.add_mul,Nat.one_mul]at this;omega
  have hf:=fill_splice (k*size) v cs (by omega)
  obtain ⟨res,h1,h2⟩:=fill_row size vs (k+1) (v.cells.zipIdx.foldl (fun cs (x:Value × Nat)=>cs.setIfInBounds (k*size+x.2) x.1) cs) (fun u hu=>h u (List.mem_cons_of_mem _ hu)) (by
   have hA: ∀ A:Array Value,A.size=A.toList.length:=fun A=>(Array.length_toList).symm
   have e1:=hA v.cells
   have e2:=hA cs
   have q1:(splice cs.toList (k*size) v.cells.toList).length=cs.toList.length:=splice_length (by omega)
   have q3:(v.cells.zipIdx.foldl (fun cs (x:Value × Nat)=>cs.setIfInBounds (k*size+x.2) x.1) cs).size=cs.size:=by rw [hA,hf,q1];exact e2.symm
   rw [q3,show k+1+vs.length=k+(vs.length+1)by omega];exact hs)
  refine ⟨res, ?_, ?_⟩
  ·simp only [List.length_cons,List.range'_succ,List.zip_cons_cons,Instr.fill]
   rw [if_neg (by simp [hv];omega)]
   exact h1
  ·rw [h2,hf]
   have hvl:v.cells.toList.length=size:=by rw [Array.length_toList];exact hv
   have hcl:cs.toList.length=cs.size:=Array.length_toList
   have e1:(splice cs.toList (k*size) v.cells.toList).take ((k+1)*size)=cs.toList.take (k*size)++v.cells.toList:=by
    have hl:(cs.toList.take (k*size)++v.cells.toList).length=(k+1)*size:=by
     rw [List.length_append,List.length_take,hvl,Nat.add_mul,Nat.one_mul];omega
    unfold splice
    rw [← hl,List.take_left]
   have e2:(splice cs.toList (k*size) v.cells.toList).drop ((k+1+vs.length)*size)=cs.toList.drop ((k+(vs.length+1))*size):=by
    have hl:(cs.toList.take (k*size)++v.cells.toList).length=k*size+size:=by
     rw [List.length_append,List.length_take,hvl];omega
    have hx:(k+1+vs.length)*size=(k*size+size)+vs.length*size:=by rw [Nat.add_mul,Nat.add_mul,Nat.one_mul]
    unfold splice
    rw [hx, ← hl,List.drop_length_add_append,List.drop_drop,hvl]
    congr 1
    rw [show k+(vs.length+1)=k+1+vs.length by omega,hx]
   rw [e1,e2];simp
theorem relR_rows {E:Env} {e:Nat}: ∀ {ys:List V} {vs:List Value},RelL E ys vs c0→ys.all (fun y=>oneL y.cells&&y.cells.length==e)=true→
 RelR E e ys (vs.flatMap fun v=>v.cells.toList) c0∧ ∀ v ∈ vs,v.cells.size=e
 |[],vs,h,ha=>by simp only [RelL]at h;rw [h.1];exact ⟨by simp [RelR],fun v hv=>by cases hv⟩
 |y::ys,vs,h,ha=>by
  simp only [RelL]at h
  obtain ⟨v,t,d1,d2,rfl,h1,h2,hc⟩:=h
  obtain ⟨rfl,rfl⟩:=cz hc.symm.symm rfl
  simp only [List.all_cons,Bool.and_eq_true,beq_iff_eq]at ha
  obtain ⟨hs,ho⟩:=rel_ones h1 ha.1.1
  obtain ⟨h3,h4⟩:=relR_rows h2 (by rw [List.all_eq_true]at*;simpa using ha.2)
  refine ⟨?_,fun u hu=> ?_⟩
  ·simp only [List.flatMap_cons,RelR]
   exact ⟨v,_,c0,c0,rfl,by omega,ha.1.2,ho,h1,h3,rfl⟩
  ·rcases List.mem_cons.1 hu with rfl|hu
   ·omega
   ·exact h4 u hu
theorem mod_rows(zero:Array Value): ∀ l:Nat,(List.range (l*zero.size)).map (fun j=>zero[j % zero.size]!)=(List.replicate l zero.toList).flatten
 |0=>by simp
 |l+1=>by
  rw [Nat.add_mul,Nat.one_mul,List.range_add,List.map_append,mod_rows zero l,List.replicate_succ',List.flatten_append,List.map_map]
  congr 1
  simp only [List.flatten_cons,List.flatten_nil,List.append_nil]
  apply List.ext_getElem?
  intro j
  simp only [List.getElem?_map,List.getElem?_range,Function.comp_def]
  by_cases hj:j < zero.size
  ·simp [hj,List.getElem?_range,Nat.mod_eq_of_lt hj]
  ·simp [hj]
section
variable {P:Program} {N:Nat} {E:Env} {c:Cnt} {st st':St} {a:Act} {d:Nat} {call:Call}
theorem frel_junk {E:Env} {o:Obj} {w':World} {c:Cnt} (hg:Good E c) (hw:Grew E.w o w'):
 Mono E {E with w:=w'} c∧Good {E with w:=w'} c∧Adv E c {E with w:=w'} c:=by
 have hold: ∀ b,b < E.w.heap.size→w'.heap[b]? =E.w.heap[b]? :=fun b hb=>by rw [hw.heap,Array.getElem?_push,if_neg (by omega)]
 have hsize:w'.heap.size=E.w.heap.size+1:=by rw [hw.heap];simp
 refine ⟨⟨fun τ b hb=>⟨hb,hold b (hg.imm τ b hb).2⟩,fun b hb=>hold b (hg.bnd b hb),fun k l h=>h⟩,
  ⟨hg.one,fun τ b hb=>⟨(hg.imm τ b hb).1, ?_⟩,hg.sub,fun b hb=> ?_,hg.lay.next (fun b hb=>hb) (fun b hb=>hold b (hg.imm false b hb).2)⟩,
  ⟨fun b n hn=> ?_,hw.os,hw.tape,hw.output, ?_,fun b hb _=>hold b hb,fun _ _ h=>h,fun b hb=> .inl hb,fun τ b hb=> .inl hb⟩⟩
 ·show b < w'.heap.size
  have:=(hg.imm τ b hb).2;omega
 ·show b < w'.heap.size
  have:=hg.bnd b hb;omega
 ·rw [bsize_eq (hold b (bsize_lt hn))];exact hn
 ·show E.w.heap.size≤w'.heap.size
  omega
theorem s_row {e:Nat} {ys:List V} {cells:Array Value} {ty:TypeId} {len cap:Nat} {w':World}
 (hR:RelR E e ys (seg cells 0 (ys.length*e)) c0) (hle:ys.length*e≤cells.size) {fz:Nat × Nat} (hfz:okFz fz cells.size) (hG:Grew E.w (.cells cells ty fz) w')
 (hlen:len=ys.length) (hcap:len≤cap) (hroom:cap*e≤cells.size) (h:FRel N E st a.tmps c) (hd:d < N):
 Comes1 N E c {σ:=(d,.s (d,0) 0 len)::(wipe d st).σ,T:=((d,0),e,killL d ys)::(wipe d st).T} a (some d) (.ok (.value (.slice (some ⟨E.w.heap.size,0,none⟩) len cap)) w'):=by
 obtain ⟨c1,hσ1,hT1,hle1⟩:=wipe_rel d h.σ h.T
 by_cases h0:cap=0
 ·have hl0:len=0:=by omega
  have hys:ys=[]:=List.length_eq_zero_iff.1 (by omega)
  subst h0;subst hys;subst hl0
  obtain ⟨m1,g1,a1⟩:=frel_junk (E:=E.drop d) ((h.g.drop d).le hle1) hG
  have hn:=names_one (d:=d) (j:=0) (E:={E.drop d with w:=w'}) (fun i _=>drop_free E d i) (.emp (some ⟨E.w.heap.size,0,none⟩))
  refine ⟨{E.drop d with w:=w'}.name (d,0) (.emp (some ⟨E.w.heap.size,0,none⟩)),c1,rfl,keeps_drop hn.hout,⟨by simpa [Act.put]using h.sz, ?_, ?_, ?_⟩, ?_⟩
  ·refine sRel_put (sRel_mono (sRel_mono hσ1 (m1.le (c0_le _))) (hn.mono _)) ?_ (by rw [h.sz];exact hd)
   simp only [Rel];exact ⟨by trivial,.inl ⟨some ⟨E.w.heap.size,0,none⟩,by simp [Env.name],by trivial,by trivial,by trivial⟩⟩
  ·exact ⟨c0,c1,.inr (.inl ⟨⟨some ⟨E.w.heap.size,0,none⟩,by simp [Env.name]⟩,by simp [killL],rfl⟩),tRel_mono (tRel_mono hT1 m1) (hn.mono _),(c0_cadd _).symm⟩
  ·exact good_names (E:={E.drop d with w:=w'}) rfl rfl (cle_refl _) g1
  ·have a2:Adv E c1 ({E.drop d with w:=w'}.name (d,0) (.emp (some ⟨E.w.heap.size,0,none⟩))) c1:=
    ⟨a1.sizes,a1.os,a1.tape,a1.output,a1.size,a1.frame,a1.sub,a1.own,a1.imm⟩
   exact adv_le a2 hle1
 obtain ⟨E',c',hw,hks,hμ,hF,hA,hc⟩:=frel_alloc (d:=d) (xs:=killL d ys) (tmps:=a.tmps) (E:=E.drop d) h.sz hσ1 hT1 (drop_free E d) (by rw [killL_length];exact hle) (by rw [killL_length];exact relR_drop (d:=d) hR)
  ((h.g.drop d).le (by rw [c0_cadd];exact hle1)) hfz hG
 refine ⟨E',c',hw,keeps_drop hks, ?_,adv_le (c1:=cadd c0 c1) ⟨hA.sizes,hA.os,hA.tape,hA.output,hA.size,hA.frame,hA.sub,hA.own,hA.imm⟩ (by rw [c0_cadd];exact hle1)⟩
 refine hF.put (x:= .s (d,0) 0 len) ?_ hd
 simp only [Rel]
 exact ⟨by trivial,.inr ⟨_,0,e,_,cap,_,hμ,hcap,by simpa using hroom,fun _=>by omega,.inr (by simp [Env.drop]),rfl⟩⟩
theorem s_mks {parts:List Operand} {hp p':List AO} {t et:TypeId} {ei:TypeInfo} {z:Value} (h1:trOs parts hp=some p')
 (ht:P.underlying t=some (.slice et)) (hi:P.info? et=some ei) (hzero:ei.zero=some z) (hzs:z.cells.size=ei.size) (hlim:parts.length*ei.size≤2 ^ 24)
 (hs:astep call st (.mks d ei.size p')=some st') (h:FRel N E st a.tmps c) (hd:d < N):
 Comes1 N E c st' a (some d) (Sem.run P (do pure (.value (← Instr.buildSlice t parts.length ((List.range' 0 parts.length).zip (parts.map a.eval)).toArray))) E.w):=by
 simp only [astep]at hs
 split at hs
 case h_2=>cases hs
 rename_i ys hys
 split at hs
 case isFalse=>cases hs
 rename_i hall
 simp only [Option.some.injEq]at hs;subst hs
 have hL:=evL_rel h.σ h1 hys
 have hl:=relL_length hL
 simp only [List.length_map]at hl
 obtain ⟨hR,hsz⟩:=relR_rows hL hall
 have hRl:=relR_length hR
 let start:Array Value:=(Array.range (parts.length*ei.size)).map fun j=>(if parts.length*ei.size=0 then #[]else z.cells)[j % (if parts.length*ei.size=0 then #[]else z.cells).size]!
 have hst:start.size=parts.length*ei.size:=by simp [start]
 obtain ⟨res,hf,hres⟩:=fill_row ei.size (parts.map a.eval) 0 start hsz (by simp [hst])
 simp only [List.length_map,Nat.zero_add,Nat.zero_mul,List.take_zero,List.nil_append]at hf hres
 rw [List.drop_eq_nil_of_le (by rw [Array.length_toList,hst];exact Nat.le_refl _),List.append_nil]at hres
 have hrun:Sem.run P (Instr.buildSlice t parts.length ((List.range' 0 parts.length).zip (parts.map a.eval)).toArray) E.w=
  .ok (.slice (some ⟨E.w.heap.size,0,none⟩) parts.length parts.length) {E.w with heap:=E.w.heap.push (.cells res et)}:=by
  simp only [Instr.buildSlice,Sem.run_bind,run_underlying ht,run_sizeOf hi,Result.andThen_ok]
  rw [if_neg (by omega)]
  simp only [zeroValue,Sem.run_bind,run_typeInfo hi,hzero,Result.andThen_ok,Sem.run_pure]
  by_cases h0:parts.length*ei.size=0
  ·simp only [start,if_pos h0]at hf
   simp only [h0,if_true,Sem.run_bind,Sem.run_pure,Result.andThen_ok]at hf ⊢
   rw [hf];rfl
  ·simp only [start,if_neg h0]at hf
   simp only [h0,if_false,Sem.run_bind,run_typeInfo hi,hzero,Sem.run_pure,Result.andThen_ok]
   rw [hf];rfl
 simp only [Sem.run_bind,hrun,Result.andThen_ok,Sem.run_pure]
 have hrs:res.size=ys.length*ei.size:=by rw [← Array.length_toList,hres,hRl]
 have hseg:seg res 0 (ys.length*ei.size)=(parts.map a.eval).flatMap fun v=>v.cells.toList:=by rw [← hrs,seg_arr,hres]
 rw [hl]
 exact s_row (fz:=(0,0)) (by rw [hseg];exact hR) (by omega) (.inr (Nat.le_refl _)) ⟨rfl,rfl,rfl,rfl⟩ rfl (Nat.le_refl _) (by omega) h hd
end
end Go.Vm
set_option autoImplicit false
set_option linter.unusedSectionVars false
set_option linter.unusedVariables false
set_option linter.unusedSimpArgs false
namespace Go.Vm
variable [Lay]
section
variable {P:Program} {N:Nat} {E:Env} {c:Cnt} {st st':St} {a:Act} {d:Nat} {call:Call}
def placesT(P:Program) (t:TypeId):Option (List (Nat × Nat)):=
 match P.underlying t with
 |some (.struct fields)=>fields.toList.mapM (fun f=>(P.info? f.type).map fun i=>(f.offset,i.size))
 |_=>none
def trB(places:List (Nat × Nat)):List (Nat × Operand)→List AO→Option (List (Nat × Nat × AO))
 |[],[]=>some []
 |(i,x)::r,h::hs=>match places[i]?,trO x h,trB places r hs with
  |some p,some y,some ys=>some ((p.1,p.2,y)::ys)
  |_,_,_=>none
 |_,_=>none
theorem relL_splice {cs ys:List V} {zs vs:List Value} {off:Nat} (h:RelL E cs zs c0) (hy:RelL E ys vs c0) (hle:off+ys.length≤cs.length):
 RelL E (cs.take off++ys++cs.drop (off+ys.length)) (splice zs off vs) c0:=by
 have hl:=relL_length hy
 obtain ⟨f0,f1,f2,g0,g1,g2,hq⟩:=relL_pieces h off ys.length hle
 have z0:f0=c0:=funext fun b=>by have:=congrFun hq b;simp only [c0,cadd]at this ⊢;omega
 have z2:f2=c0:=funext fun b=>by have:=congrFun hq b;simp only [c0,cadd]at this ⊢;omega
 subst z0;subst z2
 unfold splice
 rw [hl]
 exact relL_append (relL_append g0 hy) g2
theorem fill_rel {places:List (Nat × Nat)} (hσ:SRel E st.σ a.tmps): ∀ {parts:List (Nat × Operand)} {hp:List AO} {p':List (Nat × Nat × AO)} {cs cs':List V} {cells:Array Value},
 trB places parts hp=some p'→buildV st.σ cs p'=some cs'→RelL E cs cells.toList c0→
 ∃ cells',Instr.fill (places.toArray[·]?) cells (parts.map fun x=>(x.1,a.eval x.2))=some cells'∧RelL E cs' cells'.toList c0
 |[],[],p',cs,cs',cells,h,hb,hr=>by
  simp only [trB,Option.some.injEq]at h;subst h
  simp only [buildV,Option.some.injEq]at hb;subst hb
  exact ⟨cells,rfl,hr⟩
 |[],_::_,p',cs,cs',cells,h,hb,hr=>by simp [trB]at h
 |_::_,[],p',cs,cs',cells,h,hb,hr=>by simp [trB]at h
 |(i,x)::r,h'::hs,p',cs,cs',cells,h,hb,hr=>by
  simp only [trB]at h
  split at h
  case h_2=>cases h
  rename_i p y ys h1 h2 h3
  simp only [Option.some.injEq]at h;subst h
  simp only [buildV]at hb
  split at hb
  case h_2=>cases hb
  rename_i z hz
  split at hb
  case isFalse=>cases hb
  rename_i hc
  obtain ⟨hnd,hlen,hle⟩:=hc
  have hx:=ev_rel hσ h2 hz
  have hsz:=rel_size hx (by rintro rfl;simp [V.dead]at hnd)
  have hcl:=relL_length hr
  rw [Array.length_toList]at hcl
  have hfs:=fill_splice p.1 (a.eval x) cells (by omega)
  have hsp:=relL_splice (off:=p.1) hr (rel_cells hx hsz) (by omega)
  rw [hlen, ← hfs]at hsp
  obtain ⟨cells',h4,h5⟩:=fill_rel hσ h3 hb hsp
  refine ⟨cells', ?_,h5⟩
  have hpl:places.toArray[i]? =some p:=by simpa using h1
  simp only [List.map_cons,Instr.fill,hpl]
  rw [if_neg (by simp;omega)]
  exact h4
theorem s_build {parts:Array (Nat × Operand)} {hp:List AO} {p':List (Nat × Nat × AO)} {t:TypeId} {places:List (Nat × Nat)} {it:TypeInfo} {z:Value} {hz zv:V}
 (hi:P.info? t=some it) (hzero:it.zero=some z) (hcv:cVL z.cells.toList hz.cells=some zv.cells) (hpl:placesT P t=some places) (h1:trB places parts.toList hp=some p')
 (hs:astep call st (.build d zv p')=some st') (h:FRel N E st a.tmps c) (hd:d < N):
 ComesQ N E st st' (some d) (Sem.run P (do pure (.value (← Instr.build t (parts.map fun (i,x)=>(i,a.eval x))))) E.w):=by
 simp only [astep,Option.map_eq_some_iff]at hs
 obtain ⟨cs',hb,rfl⟩:=hs
 obtain ⟨cells',hf,hr⟩:=fill_rel h.σ h1 hb (relL_cVL hcv)
 unfold placesT at hpl
 split at hpl
 case h_2=>cases hpl
 rename_i fields hu
 have hbuilt:P.built t (parts.map fun (i,x)=>(i,a.eval x)).toList=some cells':=by
  simp only [Program.built,hi,hu,hzero,hpl,Array.toList_map]
  exact hf
 simp only [Sem.run_bind,run_build E.w t _ _ hbuilt,Result.andThen_ok,Sem.run_pure]
 refine comes_put h hd ?_
 have:=rel_a hr
 simpa using this
theorem relR_replicate {z:V} {zv:Value} {e:Nat} (hz:Rel E z zv c0) (hs:zv.cells.size=e) (hl:z.cells.length=e) (ho:ones zv.cells.toList):
 ∀ l:Nat,RelR E e (List.replicate l z) (List.replicate l zv.cells.toList).flatten c0
 |0=>by simp [RelR]
 |l+1=>by
  simp only [List.replicate_succ,List.flatten_cons,RelR]
  exact ⟨zv,_,c0,c0,rfl,hs,hl,ho,hz,relR_replicate hz hs hl ho l,rfl⟩
mutual
theorem killV_clB(d:Nat): ∀ x:V,clB x=true→killV d x=x
 | .v _,_=>rfl
 | .q ..,_=>rfl
 | .i ..,_=>rfl
 | .o ..,_=>rfl
 | .b _,_=>rfl
 | .f fn first caps,h=>by
   simp only [clB,Bool.and_eq_true]at h
   simp only [killV,killL_clBL d first h.1,killL_clBL d caps h.2]
 | .p ..,h=>by simp [clB]at h
 | .s ..,h=>by simp [clB]at h
 | .n _,_=>rfl
 | .w ..,_=>rfl
 | .m _,h=>by simp [clB]at h
 | .a _,h=>by simp [clB]at h
 | .t _,h=>by simp [clB]at h
 | .d,h=>by simp [clB]at h
theorem killL_clBL(d:Nat): ∀ xs:List V,clBL xs=true→killL d xs=xs
 |[],_=>rfl
 |x::xs,h=>by
  simp only [clBL,Bool.and_eq_true]at h
  simp only [killL,killV_clB d x h.1,killL_clBL d xs h.2]
end
theorem killV_cl {z:V} (h:clE z=true):killV d z=z:=by
 cases z<;>first|exact killV_clB d _ h|(simp only [clE]at h;simp only [killV,killL_clBL d _ h])
theorem killL_replicate {z:V} (hz:clE z=true): ∀ l:Nat,killL d (List.replicate l z)=List.replicate l z
 |0=>rfl
 |l+1=>by
  have hk:killV d z=z:=killV_cl hz
  simp only [List.replicate_succ,killL,hk,killL_replicate hz l]
theorem s_mk {x y:Operand} {hx hy x' y':AO} {t et:TypeId} {ei:TypeInfo} {z:Value} {hz zv:V} (h1:trO x hx=some x') (h2:trO y hy=some y')
 (ht:P.underlying t=some (.slice et)) (hi:P.info? et=some ei) (hzero:ei.zero=some z) (hcv:cV z hz=some zv) (hzs:z.cells.size=ei.size)
 (hs:astep call st (.mk d ei.size zv ei.bytes x' y')=some st') (h:FRel N E st a.tmps c) (hd:d < N):
 Comes1 N E c st' a (some d) (Sem.run P (do pure (.value (← Instr.makeSlice t (a.eval x) (a.eval y)))) E.w):=by
 simp only [astep]at hs
 split at hs
 case h_2=>cases hs
 rename_i kl l kc cp hl hc
 have hrl:=ev_rel h.σ h1 hl
 have hrc:=ev_rel h.σ h2 hc
 simp only [Rel]at hrl hrc
 split at hs
 case isFalse=>cases hs
 rename_i hcond
 obtain ⟨h0,heq,hbytes,hlim,hlen,hone,hcl⟩:=hcond
 simp only [Option.some.injEq]at hs;subst hs
 subst heq
 simp only [lim]at hbytes hlim
 have hb2:(ei.bytes:Int)*l≤281474976710656:=by rw [Int.mul_comm];omega
 have hrun:=run_make (P:=P) (w:=E.w) t et ei z ht hi hzero kl kc l l h0 (Int.le_refl _) hb2 (by omega)
 rw [hrl.1,hrc.1]
 simp only [Sem.run_bind,hrun,Result.andThen_ok,Sem.run_pure]
 have hz:=rel_cV (E:=E) hcv
 obtain ⟨hzl,hzo⟩:=rel_ones hz hone
 have hR:=relR_replicate hz hzs hlen hzo l.toNat
 have hcells:(madeCells z.cells (l.toNat*ei.size)).toList=(List.replicate l.toNat z.cells.toList).flatten:=by
  rw [← hzs,madeCells, ← mod_rows]
  simp
 have hsz:(madeCells z.cells (l.toNat*ei.size)).size=l.toNat*ei.size:=size_madeCells _ _
 have hseg:seg (madeCells z.cells (l.toNat*ei.size)) 0 ((List.replicate l.toNat zv).length*ei.size)=(List.replicate l.toNat z.cells.toList).flatten:=by
  rw [List.length_replicate, ← hcells]
  have:=seg_arr (madeCells z.cells (l.toNat*ei.size))
  rwa [hsz]at this
 have:=s_row (len:=l.toNat) (cap:=l.toNat) (st:=st) (a:=a) (d:=d) (fz:=(0,0)) (ty:=et) (w':=E.w.alloc (.cells (madeCells z.cells (l.toNat*ei.size)) et)) (by rw [hseg];exact hR) (by rw [List.length_replicate,hsz];exact Nat.le_refl _) (.inr (Nat.le_refl _)) ⟨rfl,rfl,rfl,rfl⟩ (by simp) (Nat.le_refl _) (by rw [hsz];exact Nat.le_refl _) h hd
 rw [killL_replicate hcl]at this
 exact this
end
end Go.Vm
set_option autoImplicit false
set_option linter.unusedSectionVars false
set_option linter.unusedVariables false
set_option linter.unusedSimpArgs false
namespace Go.Vm
variable [Lay]
section
variable {P:Program} {N:Nat} {E:Env} {c:Cnt} {st st':St} {a:Act} {d:Nat} {call:Call}
def eqK(P:Program) (t:TypeId):Option Nat:=
 match P.underlying t with
 |some .bool=>some 0
 |some (.pointer _)=>some 1
 |some (.slice _)=>some 2
 |some (.func ..)=>some 3
 |_=>none
def eqOp(neg:Bool):BinOp:=if neg then .neq else .eql
theorem equal_succ(t:TypeId) (x y:Value):Op.equal t x y=Op.equalIn (9999+1) t x y:=rfl
theorem run_eqs {t:TypeId} {x y:Value} {r neg:Bool} {w:World} (h:(Op.equal t x y).run P w= .ok r w)
 (h1:binOp .eql t x y=(do pure (.bool (← Op.equal t x y)))) (h2:binOp .neq t x y=(do pure (.bool (!(← Op.equal t x y))))):
 (binOp (eqOp neg) t x y).run P w= .ok (.bool (r != neg)) w:=by
 cases neg
 ·simp only [eqOp,Bool.false_eq_true,if_false,h1,Sem.run_bind,h,Result.andThen_ok,Sem.run_pure];cases r<;>rfl
 ·simp only [eqOp,if_true,h2,Sem.run_bind,h,Result.andThen_ok,Sem.run_pure];cases r<;>rfl
theorem run_equal {t:TypeId} {k:Nat} (hk:eqK P t=some k) {xv yv:V} {x y:Value} {r:Bool} (hx:Rel E xv x c0) (hy:Rel E yv y c0) (he:eqV k xv yv=some r) (neg:Bool) (w:World):
 (binOp (eqOp neg) t x y).run P w= .ok (.bool (r != neg)) w∧aggB x=false∧x ≠ .nilIface:=by
 unfold eqK at hk
 split at hk<;>(first|(cases hk;done)|skip)<;>rename_i hu<;>simp only [Option.some.injEq]at hk<;>subst hk<;>unfold eqV at he<;>
  split at he<;>(first|(cases he;done)|skip)<;>simp only [Option.some.injEq]at he<;>subst he<;>simp only [Rel]at hx hy
 all_goals (try (exfalso;omega))
 all_goals
  (first
   |obtain ⟨rfl,-⟩:=hx
   |(obtain ⟨-,A,cap,rfl,-,hA⟩:=hx
     have hA:=hA.resolve_left (by simp)
     obtain ⟨b,base,e,cells,T,fz,rfl,-⟩:=hA)
   |(obtain ⟨-,hA⟩:=hx
     have hA:=hA.resolve_left (by rintro ⟨A,-,-,h,-⟩;cases h)
     obtain ⟨b,base,e,lim,cap,A,-,-,-,-,-,rfl⟩:=hA)
   |obtain ⟨-,b,base,e,lim,-,rfl⟩:=hx
   |obtain ⟨-,b,base,e,cells,T,fz,-,-,rfl,-⟩:=hx
   |obtain ⟨fs,cs,c1,c2,rfl,-⟩:=hx)<;>
  (first
   |obtain ⟨rfl,-⟩:=hy
   |(obtain ⟨-,A,cap,rfl,-,hA⟩:=hy
     have hA:=hA.resolve_left (by simp)
     obtain ⟨b,base,e,cells,T,fz,rfl,-⟩:=hA)
   |(obtain ⟨-,hA⟩:=hy
     have hA:=hA.resolve_left (by rintro ⟨A,-,-,h,-⟩;cases h)
     obtain ⟨b,base,e,lim,cap,A,-,-,-,-,-,rfl⟩:=hA)
   |obtain ⟨-,b,base,e,lim,-,rfl⟩:=hy
   |obtain ⟨-,b,base,e,cells,T,fz,-,-,rfl,-⟩:=hy
   |obtain ⟨fs,cs,c1,c2,rfl,-⟩:=hy)
 all_goals
  exact ⟨run_eqs (by rw [equal_succ,Op.equalIn];simp [run_underlying hu]) rfl rfl,rfl,by simp⟩
theorem s_eqs {x y:Operand} {hx hy x' y':AO} {t:TypeId} {k:Nat} {neg:Bool} (h1:trO x hx=some x') (h2:trO y hy=some y') (hk:eqK P t=some k)
 (hs:astep call st (.eqs d k neg x' y')=some st') (h:FRel N E st a.tmps c) (hd:d < N):
 ComesQ N E st st' (some d) (Sem.run P (do pure (.value (← (do eqGuard (eqOp neg) t x y (a.eval x) (a.eval y);binOp (eqOp neg) t (a.eval x) (a.eval y))))) E.w):=by
 simp only [astep]at hs
 split at hs
 case h_2=>cases hs
 rename_i xv yv hxv hyv
 have hrx:=ev_rel h.σ h1 hxv
 have hry:=ev_rel h.σ h2 hyv
 rw [Option.map_eq_some_iff]at hs
 obtain ⟨r,hr,rfl⟩:=hs
 obtain ⟨hrun,hag,hn⟩:=run_equal hk hrx hry hr neg E.w
 simp only [Sem.run_bind,eqGuard_leaf hag hn,Result.andThen_ok,hrun,Sem.run_pure]
 exact comes_put h hd (rel_leaf rfl)
theorem s_mx {x y:Operand} {hx hy x' y':AO} {t:Array TypeId} {ty:TypeId} {mx:Bool} (h1:trO x hx=some x') (h2:trO y hy=some y')
 (hs:astep call st (.mx d mx [x',y'])=some st') (h:FRel N E st a.tmps c) (hd:d < N):
 ComesQ N E st st' (some d) (Sem.run P (do pure (.value (← (if mx then Builtin.max_ t ty #[a.eval x,a.eval y]else Builtin.min_ t ty #[a.eval x,a.eval y])))) E.w):=by
 simp only [astep]at hs
 split at hs
 case h_2=>cases hs
 rename_i k n k' m hL
 simp only [evL]at hL
 cases hxv:ev st.σ x' with
 |none=>rw [hxv]at hL;cases hL
 |some xv=>
 cases hyv:ev st.σ y' with
 |none=>rw [hxv,hyv]at hL;cases hL
 |some yv=>
 rw [hxv,hyv]at hL
 simp only [Option.some.injEq,List.cons.injEq,and_true]at hL
 obtain ⟨rfl,rfl⟩:=hL
 have hrx:=ev_rel h.σ h1 hxv
 have hry:=ev_rel h.σ h2 hyv
 simp only [Option.some.injEq]at hs;subst hs
 simp only [Rel]at hrx hry
 have key:Sem.run P (do pure (.value (← (if mx then Builtin.max_ t ty #[a.eval x,a.eval y]else Builtin.min_ t ty #[a.eval x,a.eval y]))):Sem Next) E.w=
  .ok (.value (.int k (if mx then (if m > n then m else n)else (if m < n then m else n)))) E.w:=by
  rw [hrx.1,hry.1]
  cases mx<;>simp [Builtin.max_,Builtin.min_,Builtin.max2,Builtin.min2,List.foldlM]
 rw [key]
 exact comes_put h hd (rel_leaf rfl)
theorem bytes_rel: ∀ {xs:List V} {l:List UInt8} {ys:List Value},RelR E 1 xs ys c0→bytesOf xs=some l→ ∃ ns:List Int,ys=ns.map (Value.int .u8)∧l=ns.map fun n=>UInt8.ofNat n.toNat
 |[],l,ys,h,hb=>by
  simp only [RelR]at h;simp only [bytesOf,Option.some.injEq]at hb;subst hb
  exact ⟨[],by simpa using h.1,rfl⟩
 |x::xs,l,ys,h,hb=>by
  unfold bytesOf at hb
  split at hb
  ·rename_i e;cases e
  ·rename_i n r e
   simp only [List.cons.injEq]at e
   obtain ⟨rfl,rfl⟩:=e
   split at hb
   ·rename_i l' hl
    simp only [Option.some.injEq]at hb;subst hb
    simp only [RelR]at h
    obtain ⟨y,ys',c1,c2,rfl,-,-,-,hy,hr,hc⟩:=h
    have z2:c2=c0:=funext fun b=>by have:=congrFun hc b;simp only [c0,cadd]at this ⊢;omega
    subst z2
    simp only [Rel]at hy
    obtain ⟨ns,rfl,rfl⟩:=bytes_rel hr hl
    exact ⟨n::ns,by rw [hy.1];rfl,rfl⟩
   ·cases hb
  ·cases hb
theorem pushes(ns:List Int): ∀ s:ByteArray,ns.foldl (fun r n=>r.push (UInt8.ofNat n.toNat)) s=⟨s.data++(ns.map fun n=>UInt8.ofNat n.toNat).toArray⟩:=by
 induction ns with
 |nil=>intro s;simp
 |cons n ns ih=>
  intro s
  rw [List.foldl_cons,ih]
  congr 1
  simp [ByteArray.push]
theorem s_str {x:Operand} {hx x':AO} {src dst e:TypeId} (h1:trO x hx=some x') (hu:P.underlying dst=some .string) (hv:P.underlying src=some (.slice e)) (he:P.underlying e=some (.int .u8))
 (hs:astep call st (.str d x')=some st') (h:FRel N E st a.tmps c) (hd:d < N):
 ComesQ N E st st' (some d) (Sem.run P (do pure (.value (← convert src dst (a.eval x)))) E.w):=by
 simp only [astep]at hs
 split at hs
 case h_2=>cases hs
 rename_i xv hxv
 have hrx:=ev_rel h.σ h1 hxv
 split at hs
 case h_2=>cases hs
 rename_i xs hxs
 rw [Option.map_eq_some_iff]at hs
 obtain ⟨l,hl,rfl⟩:=hs
 have hz:zeroBL xs=true:=by
  clear hxs
  induction xs generalizing l with
  |nil=>rfl
  |cons y ys ih=>
   unfold bytesOf at hl
   split at hl
   ·rename_i e;cases e
   ·rename_i n r e
    simp only [List.cons.injEq]at e
    obtain ⟨rfl,rfl⟩:=e
    split at hl
    ·rename_i l' hl'
     simp only [zeroBL,zeroB,ih _ hl',Bool.and_self]
    ·cases hl
   ·cases hl
 have hall:xs.all (fun y=>y.cells.length==1)=true:=by
  clear hxs hz
  induction xs generalizing l with
  |nil=>rfl
  |cons y ys ih=>
   unfold bytesOf at hl
   split at hl
   ·rename_i e;cases e
   ·rename_i n r e
    simp only [List.cons.injEq]at e
    obtain ⟨rfl,rfl⟩:=e
    split at hl
    ·rename_i l' hl'
     rw [List.all_cons,ih _ hl'];rfl
    ·cases hl
   ·cases hl
 obtain ⟨news,hr⟩:=elems_rel (sh:=true) h.T hrx hxs hz hall
 have hfin: ∀ (ns:List Int),l=ns.map (fun n=>UInt8.ofNat n.toNat)→(Conv.bytesToString (a.eval x)).run P E.w= .ok (.string (ns.foldl (fun r n=>r.push (UInt8.ofNat n.toNat)) ByteArray.empty)) E.w→
  (∃ A n c,a.eval x= .slice A n c)→
  ComesQ N E st (st.put d (.v (.string ⟨l.toArray⟩))) (some d) (Sem.run P (do pure (.value (← convert src dst (a.eval x)))) E.w):=by
  rintro ns hl hrun ⟨A,n,cp,he1⟩
  have hconv:(convert src dst (a.eval x)).run P E.w= .ok (.string (ns.foldl (fun r n=>r.push (UInt8.ofNat n.toNat)) ByteArray.empty)) E.w:=by
   rw [he1]at hrun ⊢
   simp [convert,run_underlying hu,run_underlying hv,run_underlying he,hrun]
  simp only [Sem.run_bind,hconv,Result.andThen_ok,Sem.run_pure]
  refine comes_put h hd ?_
  rw [pushes,hl]
  have:(⟨ByteArray.empty.data++(ns.map fun n=>UInt8.ofNat n.toNat).toArray⟩:ByteArray)=⟨(ns.map fun n=>UInt8.ofNat n.toNat).toArray⟩:=by
   congr 1
   show (#[]:Array UInt8)++_=_
   simp
  rw [this]
  exact rel_leaf rfl
 have hsome: ∀ A cap,RelR E 1 xs news c0→a.eval x= .slice (some A) xs.length cap→(∀ j u,news[j]? =some u→E.w.cell? (A.add j)=some u)→
  ComesQ N E st (st.put d (.v (.string ⟨l.toArray⟩))) (some d) (Sem.run P (do pure (.value (← convert src dst (a.eval x)))) E.w):=by
  intro A cap hR hv1 hcell
  obtain ⟨ns,hns,hl2⟩:=bytes_rel hR hl
  have hlen:=relR_length hR
  have hload:=run_loadCells_list (P:=P) E.w A news hcell
  rw [hlen,Nat.mul_one]at hload
  rw [hns]at hload
  exact hfin ns hl2 (by rw [hv1];exact run_bytesToString E.w A xs.length cap ns hload) ⟨_,_,_,hv1⟩
 have hnil:xs=[]→ ∀ A cap,a.eval x= .slice A 0 cap→ComesQ N E st (st.put d (.v (.string ⟨l.toArray⟩))) (some d) (Sem.run P (do pure (.value (← convert src dst (a.eval x)))) E.w):=by
  intro h0 A cap hv1
  subst h0
  simp only [bytesOf,Option.some.injEq]at hl
  cases A with
  |none=>exact hfin [] (by simp [← hl]) (by rw [hv1];rfl) ⟨_,_,_,hv1⟩
  |some A=>exact hfin [] (by simp [← hl]) (by rw [hv1];exact run_bytesToString E.w A 0 cap [] rfl) ⟨_,_,_,hv1⟩
 rcases hr with ⟨hR,⟨h1,h2⟩|⟨A,cap,h1,h2⟩⟩|⟨h0,A,cap,h1,-,-⟩
 ·exact hnil h2 none 0 h1
 ·exact hsome A cap hR h1 h2
 ·exact hnil h0 A cap h1
end
end Go.Vm
set_option autoImplicit false
set_option linter.unusedSectionVars false
set_option linter.unusedVariables false
set_option linter.unusedSimpArgs false
namespace Go.Vm
variable [Lay]
open Go.MapKept (IsKey run_checkKey run_findKey run_keyThatStays run_getObj_map run_setObj_map)
theorem mapE_length: ∀ (es:List (Int × Int)) (i:Nat),(mapE i es).length=es.length
 |[],_=>rfl
 |(a,b)::r,i=>by simp only [mapE,List.length_cons,mapE_length r]
theorem mapE_get: ∀ (es:List (Int × Int)) (i j:Nat) (a b:Int),es[j]? =some (a,b)→(mapE i es)[j]? =some {key:= .int .i64 a,val:= .int .i64 b,born:=i+j}
 |[],_,_,_,_,h=>by simp at h
 |(x,y)::r,i,0,a,b,h=>by
  simp only [List.getElem?_cons_zero,Option.some.injEq,Prod.mk.injEq]at h
  obtain ⟨rfl,rfl⟩:=h
  rfl
 |(x,y)::r,i,j+1,a,b,h=>by
  simp only [List.getElem?_cons_succ]at h
  simp only [mapE,List.getElem?_cons_succ,mapE_get r (i+1) j a b h]
  rw [show i+1+j=i+(j+1)by omega]
theorem find_E(k:Int): ∀ (es:List (Int × Int)) (i s:Nat),Instr.findNow (.int .i64) (.int .i64 k) (mapE s es) i=some ((getM k es).map fun v=>(i+posM k es,.int .i64 v))
 |[],i,s=>rfl
 |(a,b)::r,i,s=>by
  by_cases h:a=k
  ·subst h
   simp [mapE,Instr.findNow,Instr.sameNow,getM,posM]
  ·have h':(k==a)=false:=by simpa using fun e=>h e.symm
   simp only [mapE,Instr.findNow,Instr.sameNow,if_true,h',getM,posM,if_neg h,find_E k r (i+1) (s+1)]
   cases getM k r with
   |none=>rfl
   |some v=>simp only [Option.map_some];rw [show i+1+posM k r=i+(posM k r+1)by omega]
theorem pos_get(k:Int): ∀ (es:List (Int × Int)) (v:Int),getM k es=some v→es[posM k es]? =some (k,v)
 |[],v,h=>by simp [getM]at h
 |(a,b)::r,v,h=>by
  simp only [getM,posM]at h ⊢
  split at h
  ·rename_i hk;subst hk;simp only [Option.some.injEq]at h;subst h;simp
  ·rename_i hk
   rw [if_neg hk]
   simpa using pos_get k r v h
theorem pos_none(k:Int): ∀ (es:List (Int × Int)),getM k es=none→posM k es=es.length
 |[],h=>rfl
 |(a,b)::r,h=>by
  simp only [getM,posM]at h ⊢
  split at h
  ·cases h
  ·rename_i hk
   rw [if_neg hk,pos_none k r h,List.length_cons]
theorem put_old(k v:Int): ∀ (es:List (Int × Int)) (s:Nat) (u:Int),getM k es=some u→mapE s (putM k v es)=(mapE s es).modify (posM k es) (fun e=>{e with key:= .int .i64 k,val:= .int .i64 v})
 |[],s,u,h=>by simp [getM]at h
 |(a,b)::r,s,u,h=>by
  simp only [getM,posM,putM]at h ⊢
  split at h
  ·rename_i hk;subst hk
   simp [mapE]
  ·rename_i hk
   simp only [if_neg hk,mapE,List.modify_succ_cons,put_old k v r (s+1) u h]
theorem put_new(k v:Int): ∀ (es:List (Int × Int)) (s:Nat),getM k es=none→mapE s (putM k v es)=mapE s es++[{key:= .int .i64 k,val:= .int .i64 v,born:=s+es.length}]
 |[],s,h=>by simp [mapE,putM]
 |(a,b)::r,s,h=>by
  simp only [getM,putM]at h ⊢
  split at h
  ·cases h
  ·rename_i hk
   simp only [if_neg hk,mapE,put_new k v r (s+1) h,List.cons_append,List.length_cons]
   rw [show s+1+r.length=s+(r.length+1)by omega]
theorem put_length(k v:Int): ∀ (es:List (Int × Int)),(putM k v es).length=if (getM k es).isSome then es.length else es.length+1
 |[]=>rfl
 |(a,b)::r=>by
  simp only [putM,getM]
  split
  ·simp
  ·simp only [List.length_cons,put_length k v r]
   split<;>rfl
theorem modE(v:Int): ∀ (es:List (Int × Int)) (s j:Nat),mapE s (es.modify j fun e=>(e.1,v))=(mapE s es).modify j (fun e=>{e with val:= .int .i64 v})
 |[],s,j=>by cases j<;>rfl
 |(a,b)::r,s,0=>by simp [mapE]
 |(a,b)::r,s,j+1=>by simp only [List.modify_succ_cons,mapE,modE v r (s+1) j]
theorem born_idx: ∀ (es:List (Int × Int)) (s j:Nat),j < es.length→(mapE s es).findIdx? (fun e=>(e.born:Int)==((s+j:Nat):Int))=some j
 |[],s,j,h=>by simp at h
 |(a,b)::r,s,0,h=>by simp [mapE,List.findIdx?_cons]
 |(a,b)::r,s,j+1,h=>by
  have h1:((s:Int)==((s+(j+1):Nat):Int))=false:=by simp;omega
  have:=born_idx r (s+1) j (by simpa using h)
  rw [show s+1+j=s+(j+1)by omega]at this
  simp only [mapE,List.findIdx?_cons,h1,this]
  rfl
section
variable {P:Program} {N:Nat} {E:Env} {c:Cnt} {st st':St} {a:Act} {d:Nat} {call:Call}
theorem s_mkm {t:TypeId} (hs:astep call st (.mkm d)=some st') (h:FRel N E st a.tmps c) (hd:d < N):
 Comes1 N E c st' a (some d) (Sem.run P (do pure (.value (← Instr.makeMap t none))) E.w):=by
 simp only [astep,Option.some.injEq]at hs;subst hs
 obtain ⟨c1,hσ1,hT1,hle1⟩:=wipe_rel d h.σ h.T
 have hG:Grew E.w (.map #[] 0) {E.w with heap:=E.w.heap.push (.map #[] 0)}:=⟨rfl,rfl,rfl,rfl⟩
 obtain ⟨m1,g1,a1⟩:=frel_junk (E:=E.drop d) ((h.g.drop d).le hle1) hG
 have hn:=names_one (d:=d) (j:=0) (E:={E.drop d with w:={E.w with heap:=E.w.heap.push (.map #[] 0)}}) (fun i _=>drop_free E d i) (.mp E.w.heap.size)
 have hz:c1 E.w.heap.size=0:=by
  cases hc:c1 E.w.heap.size with
  |zero=>rfl
  |succ n=>have:=h.g.bnd E.w.heap.size (by have:=hle1 E.w.heap.size;omega);omega
 simp only [Instr.makeMap,Sem.run_bind,run_newObj,Result.andThen_ok,Sem.run_pure]
 refine ⟨{E.drop d with w:={E.w with heap:=E.w.heap.push (.map #[] 0)}}.name (d,0) (.mp E.w.heap.size),cadd (delta E.w.heap.size) c1,rfl,keeps_drop hn.hout,⟨by simpa [Act.put]using h.sz, ?_, ?_, ?_⟩, ?_⟩
 ·refine sRel_put (sRel_mono (sRel_mono hσ1 (m1.le (c0_le _))) (hn.mono _)) ?_ (by rw [h.sz];exact hd)
  simp only [Rel];exact ⟨by trivial,E.w.heap.size,by simp [Env.name],by trivial⟩
 ·exact ⟨delta E.w.heap.size,c1,.inl ⟨E.w.heap.size,#[],0,[],by simp [Env.name],by show (E.w.heap.push (Obj.map #[] 0))[E.w.heap.size]? =_;simp,⟨rfl,rfl⟩,rfl,rfl⟩,tRel_mono (tRel_mono hT1 m1) (hn.mono _),rfl⟩
 ·refine ⟨fun b=> ?_,fun τ b hb=> ?_,g1.sub,fun b hb=> ?_,g1.lay.same rfl rfl⟩
  ·simp only [cadd,delta]
   have:=g1.one b
   split
   ·rename_i hb;subst hb;omega
   ·omega
  ·have:=h.g.imm τ b hb
   have q:=hle1 b
   simp only [cadd,delta]
   rw [if_neg (by omega)]
   refine ⟨by omega, ?_⟩
   show b < (E.w.heap.push (.map #[] 0)).size
   rw [Array.size_push];omega
  ·simp only [cadd,delta]at hb
   show b < (E.w.heap.push (.map #[] 0)).size
   rw [Array.size_push]
   split at hb
   ·omega
   ·have:=h.g.bnd b (by have:=hle1 b;omega);omega
 ·have hA:Adv E c ({E.drop d with w:={E.w with heap:=E.w.heap.push (.map #[] 0)}}.name (d,0) (.mp E.w.heap.size)) c1:=
   adv_le (c1:=c1) ⟨a1.sizes,a1.os,a1.tape,a1.output,a1.size,a1.frame,a1.sub,a1.own,a1.imm⟩ hle1
  refine ⟨hA.sizes,hA.os,hA.tape,hA.output,hA.size,hA.frame,hA.sub,fun b hb=> ?_,hA.imm⟩
  simp only [cadd,delta]at hb
  split at hb
  ·exact .inr (by omega)
  ·exact hA.own b (by omega)
theorem entM_rel {T:Mem} {x:V} {y:Value} {es:List (Int × Int)} (hT:TRel E T c) (hx:Rel E x y c0) (he:entM T x=some es):
 ∃ b ents clk,y= .map (some b)∧E.w.heap[b]? =some (.map ents clk)∧MapR es ents clk:=by
 unfold entM at he
 split at he
 ·simp only [Option.some.injEq]at he;subst he
  simp only [Rel]at hx
  obtain ⟨b,ents,clk,h1,h2,h3,-⟩:=hx
  exact ⟨b,ents,clk,h1,h2,h3⟩
 ·split at he
  ·rename_i hg
   simp only [Option.some.injEq]at he;subst he
   simp only [Rel]at hx
   obtain ⟨-,b,hμ,rfl⟩:=hx
   obtain ⟨c1,c2,ho,-,-⟩:=tRel_get hT hg
   rcases ho with ⟨b',ents,clk,es',h1,h2,h3,h4,-⟩|⟨⟨A0,h1⟩,-⟩|⟨b',base,lim,cells,Tt,fz,c3,h1,-⟩
   ·rw [h1]at hμ;cases hμ
    simp only [List.cons.injEq,V.w.injEq,and_true]at h4
    obtain ⟨-,rfl⟩:=h4
    exact ⟨b,ents,clk,rfl,h2,h3⟩
   ·rw [h1]at hμ;cases hμ
   ·rw [h1]at hμ;cases hμ
  ·cases he
 ·cases he
theorem run_find {t kt et:TypeId} {ents:Array MapEntry} {clk:Nat} {es:List (Int × Int)} {k:Int} {w:World} (hk:P.underlying kt=some (.int .i64)) (hM:MapR es ents clk):
 (Instr.findKey kt (.int .i64 k) ents.toList).run P w= .ok ((getM k es).map fun v=>(posM k es,.int .i64 v)) w:=by
 refine run_findKey hk ?_
 rw [hM.1,find_E]
 simp
theorem key_ok(k:Int):IsKey (.int .i64) (.int .i64 k):=rfl
theorem s_mget {m k:Operand} {hm hk m' k':AO} {t kt et:TypeId} (ht:P.underlying t=some (.map kt et)) (hkt:P.underlying kt=some (.int .i64)) {i:TypeInfo} (hi:P.info? et=some i) (hz:i.zero=some (.int .i64 0))
 (h1:trO m hm=some m') (h2:trO k hk=some k') (hs:astep call st (.mget d m' k')=some st') (h:FRel N E st a.tmps c) (hd:d < N):
 ComesQ N E st st' (some d) (Sem.run P (do pure (.value (← Instr.lookup t (a.eval m) (a.eval k) false))) E.w):=by
 simp only [astep]at hs
 split at hs
 case h_2=>cases hs
 rename_i mv kv hmv hkv
 rw [Option.map_eq_some_iff]at hs
 obtain ⟨es,he,rfl⟩:=hs
 obtain ⟨b,ents,clk,hy,hw,hM⟩:=entM_rel h.T (ev_rel h.σ h1 hmv) he
 have hkr:=ev_rel h.σ h2 hkv
 simp only [Rel]at hkr
 rw [hy,hkr.1]
 have hf:=run_find (P:=P) (w:=E.w) (t:=t) (et:=et) (k:=kv) hkt hM
 have hrun:Sem.run P (Instr.lookup t (.map (some b)) (.int .i64 kv) false) E.w= .ok (.int .i64 ((getM kv es).getD 0)) E.w:=by
  simp only [Instr.lookup,Sem.run_bind,run_underlying ht,Result.andThen_ok,run_getObj_map hw,Sem.run_pure,run_checkKey hkt (key_ok kv),hf]
  cases getM kv es with
  |none=>simp [zeroValue,run_typeInfo hi,hz,Sem.run_bind,Sem.run_pure,Result.andThen_ok]
  |some v=>simp [Sem.run_bind,Sem.run_pure,Result.andThen_ok]
 simp only [Sem.run_bind,hrun,Result.andThen_ok,Sem.run_pure]
 exact comes_put h hd (by simp [Rel,aggB])
theorem putMem {x:V} {y:Value} {es es':List (Int × Int)} {T':Mem} (h:FRel N E st a.tmps c) (hx:Rel E x y c0) (he:entM st.T x=some es) (hset:setM st.T x es'=some T'):
 ∃ b ents clk,y= .map (some b)∧E.w.heap[b]? =some (.map ents clk)∧MapR es ents clk∧ ∀ ents' clk' w',MapR es' ents' clk'→w'={E.w with heap:=E.w.heap.setIfInBounds b (.map ents' clk')}→
  ∃ E' c',E'.w=w'∧E'.μ=E.μ∧FRel N E' {st with T:=T'} a.tmps c'∧Adv E c E' c':=by
 unfold setM at hset
 split at hset
 case h_2=>cases hset
 rename_i k
 split at hset
 case h_2=>cases hset
 rename_i ob hg
 simp only [Option.some.injEq]at hset;subst hset
 simp only [Rel]at hx
 obtain ⟨-,b,hμ,rfl⟩:=hx
 obtain ⟨c1,c2,ho,hrest,rfl⟩:=tRel_get h.T hg
 rcases ho with ⟨b',ents,clk,es0,q1,q2,q3,q4,rfl⟩|⟨⟨A0,q1⟩,-⟩|⟨b',base,lim,cells,Tt,fz,c3,q1,-⟩
 case inr.inl=>rw [q1]at hμ;cases hμ
 case inr.inr=>rw [q1]at hμ;cases hμ
 rw [q1]at hμ;cases hμ
 have hes:es=es0:=by
  simp only [entM,hg]at he
  obtain ⟨e0,xs0⟩:=ob
  simp only at q4;subst q4
  simpa using he.symm
 subst hes
 refine ⟨b,ents,clk,rfl,q2,q3, ?_⟩
 rintro ents' clk' w' hM' rfl
 have hlt:b < E.w.heap.size:=(Array.getElem?_eq_some_iff.1 q2).1
 have hW:Wrote E.w b #[] {E.w with heap:=E.w.heap.setIfInBounds b (.map ents' clk')}:=by
  refine ⟨rfl,rfl,rfl,by simp,fun b2 hb2=>by simp [Ne.symm hb2],fun cells T fz hc=> ?_⟩
  rw [q2]at hc;cases hc
 obtain ⟨hmono,hσ',hgood,hadv⟩:=frel_write (N:=N) (T':=[]) (c1:=c0) (c2:=c2) h.σ h.g hW
 refine ⟨{E with w:={E.w with heap:=E.w.heap.setIfInBounds b (.map ents' clk')}},cadd (delta b) c2,rfl,rfl,⟨h.sz,hσ', ?_,hgood⟩,hadv⟩
 exact ⟨delta b,c2,.inl ⟨b,ents',clk',es',q1,by simp [hlt],hM',rfl,rfl⟩,tRel_mono hrest (hmono c2 (cle_right _ _)),rfl⟩
theorem MapR.put {es:List (Int × Int)} {ents:Array MapEntry} {clk:Nat} (hM:MapR es ents clk) (k v:Int):
 (∀ u,getM k es=some u→MapR (putM k v es) (ents.modify (posM k es) fun e=>{e with key:= .int .i64 k,val:= .int .i64 v}) clk)∧
 (getM k es=none→MapR (putM k v es) (ents.push {key:= .int .i64 k,val:= .int .i64 v,born:=clk}) (clk+1)):=by
 refine ⟨fun u hu=>⟨?_, ?_⟩,fun hu=>⟨?_, ?_⟩⟩
 ·rw [Array.toList_modify,hM.1,put_old k v es 0 u hu]
 ·rw [put_length,hu];exact hM.2
 ·rw [Array.toList_push,hM.1,put_new k v es 0 hu,hM.2,Nat.zero_add]
 ·rw [put_length,hu,hM.2];rfl
theorem run_update {t kt et:TypeId} (ht:P.underlying t=some (.map kt et)) (hkt:P.underlying kt=some (.int .i64)) {w:World} {b:Nat} {ents:Array MapEntry} {clk:Nat} {es:List (Int × Int)}
 (hw:w.heap[b]? =some (.map ents clk)) (hM:MapR es ents clk) (k v:Int):
 ∃ ents' clk',MapR (putM k v es) ents' clk'∧(Instr.mapUpdate t (.map (some b)) (.int .i64 k) (.int .i64 v)).run P w= .ok () {w with heap:=w.heap.setIfInBounds b (.map ents' clk')}:=by
 have hf:=run_find (P:=P) (w:=w) (t:=t) (et:=et) (k:=k) hkt hM
 cases hg:getM k es with
 |none=>
  refine ⟨_,_,(hM.put k v).2 hg, ?_⟩
  rw [hg]at hf
  simp only [Option.map_none]at hf
  simp only [Instr.mapUpdate,Sem.run_bind,run_underlying ht,Result.andThen_ok,run_getObj_map hw,Sem.run_pure,run_checkKey hkt (key_ok k),hf,run_setObj_map _ hw]
 |some u=>
  refine ⟨_,_,(hM.put k v).1 u hg, ?_⟩
  rw [hg]at hf
  simp only [Option.map_some]at hf
  have hkey:((ents[posM k es]?).map (·.key)).getD (.int .i64 k)= .int .i64 k:=by
   have:=mapE_get es 0 (posM k es) k u (pos_get k es u hg)
   rw [← hM.1,Array.getElem?_toList]at this
   rw [this];rfl
  simp only [Instr.mapUpdate,Sem.run_bind,run_underlying ht,Result.andThen_ok,run_getObj_map hw,Sem.run_pure,run_checkKey hkt (key_ok k),hf,hkey,run_keyThatStays (key_ok k),run_setObj_map _ hw]
theorem s_mset {m k v:Operand} {hm hk hv m' k' v':AO} {t kt et:TypeId} (ht:P.underlying t=some (.map kt et)) (hkt:P.underlying kt=some (.int .i64))
 (h1:trO m hm=some m') (h2:trO k hk=some k') (h3:trO v hv=some v') (hs:astep call st (.mset m' k' v')=some st') (h:FRel N E st a.tmps c):
 Comes1 N E c st' a none (Sem.run P (do Instr.mapUpdate t (a.eval m) (a.eval k) (a.eval v);pure .skip) E.w):=by
 simp only [astep]at hs
 split at hs
 case h_2=>cases hs
 rename_i mv kv vv hmv hkv hvv
 split at hs
 case h_2=>cases hs
 rename_i es he
 rw [Option.map_eq_some_iff]at hs
 obtain ⟨T',hset,rfl⟩:=hs
 have hkr:=ev_rel h.σ h2 hkv
 have hvr:=ev_rel h.σ h3 hvv
 simp only [Rel]at hkr hvr
 obtain ⟨b,ents,clk,hy,hw,hM,hgo⟩:=putMem h (ev_rel h.σ h1 hmv) he hset
 obtain ⟨ents',clk',hM',hrun⟩:=run_update ht hkt hw hM kv vv
 obtain ⟨E',c',hw',hμ,hF,hA⟩:=hgo ents' clk' _ hM' rfl
 rw [hy,hkr.1,hvr.1]
 simp only [Sem.run_bind,hrun,Result.andThen_ok,Sem.run_pure]
 exact ⟨E',c',hw',fun k _=>by rw [hμ],by simpa [Act.put]using hF,hA⟩
theorem s_men {m k:Operand} {hm hk m' k':AO} {t kt et:TypeId} (ht:P.underlying t=some (.map kt et)) (hkt:P.underlying kt=some (.int .i64)) {i:TypeInfo} (hi:P.info? et=some i) (hz:i.zero=some (.int .i64 0))
 (h1:trO m hm=some m') (h2:trO k hk=some k') (hs:astep call st (.men d m' k')=some st') (h:FRel N E st a.tmps c) (hd:d < N):
 Comes1 N E c st' a (some d) (Sem.run P (do pure (.value (← Instr.mapEntry t (a.eval m) (a.eval k)))) E.w):=by
 simp only [astep]at hs
 split at hs
 case h_2=>cases hs
 rename_i mv kv hmv hkv
 split at hs
 case h_2=>cases hs
 rename_i es he
 rw [Option.map_eq_some_iff]at hs
 obtain ⟨T',hset,rfl⟩:=hs
 have hkr:=ev_rel h.σ h2 hkv
 simp only [Rel]at hkr
 obtain ⟨b,ents,clk,hy,hw,hM,hgo⟩:=putMem h (ev_rel h.σ h1 hmv) he hset
 have hf:=run_find (P:=P) (w:=E.w) (t:=t) (et:=et) (k:=kv) hkt hM
 rw [hy,hkr.1]
 have hlast: ∀ E' c',FRel N E' {st with T:=T'} a.tmps c'→FRel N E' {σ:=(d,.t [.v (.int .i64 ((getM kv es).getD 0)),.v (.int .i64 (posM kv es))])::st.σ,T:=T'} (a.tmps.setIfInBounds d (.tuple #[.int .i64 ((getM kv es).getD 0),.int .i64 (posM kv es)])) c':=by
  intro E' c' hF
  have:=hF.put (d:=d) (x:= .t [.v (.int .i64 ((getM kv es).getD 0)),.v (.int .i64 (posM kv es))]) (y:= .tuple #[.int .i64 ((getM kv es).getD 0),.int .i64 (posM kv es)]) (by
   simp only [Rel]
   refine ⟨_,rfl, ?_⟩
   simp only [RelL]
   exact ⟨_,_,c0,c0,rfl,by simp [Rel,aggB],⟨_,_,c0,c0,rfl,by simp [Rel,aggB],⟨rfl,rfl⟩,rfl⟩,rfl⟩) hd
  exact this
 cases hg:getM kv es with
 |none=>
  rw [hg]at hf hset hlast hgo
  simp only [Option.map_none,Option.getD_none]at hf hset hlast hgo ⊢
  obtain ⟨E',c',hw',hμ,hF,hA⟩:=hgo _ _ _ ((hM.put kv 0).2 hg) rfl
  have hclk:(clk:Int)=(posM kv es:Int):=by rw [pos_none kv es hg,hM.2]
  simp only [Instr.mapEntry,Sem.run_bind,run_underlying ht,Result.andThen_ok,run_getObj_map hw,Sem.run_pure,run_checkKey hkt (key_ok kv),hf,run_setObj_map _ hw,zeroValue,run_typeInfo hi,hz]
  refine ⟨E',c',hw',fun k _=>by rw [hμ], ?_,hA⟩
  have:=hlast E' c' hF
  simpa only [Act.put,goInt,hclk]using this
 |some u=>
  rw [hg]at hf hset hlast hgo
  simp only [Option.map_some,Option.getD_some]at hf hset hlast hgo ⊢
  have hent:=mapE_get es 0 (posM kv es) kv u (pos_get kv es u hg)
  rw [← hM.1,Array.getElem?_toList]at hent
  have hkey:((ents[posM kv es]?).map (·.key)).getD (.int .i64 kv)= .int .i64 kv:=by rw [hent];rfl
  have hborn:(((ents[posM kv es]?).map (·.born)).getD 0)=posM kv es:=by rw [hent];simp
  have hM2:MapR (putM kv u es) (ents.modify (posM kv es) fun e=>{e with key:= .int .i64 kv}) clk:=by
   refine ⟨?_,((hM.put kv u).1 u hg).2⟩
   rw [← ((hM.put kv u).1 u hg).1,Array.toList_modify,Array.toList_modify]
   apply List.ext_getElem?
   intro j
   by_cases hj:posM kv es=j
   ·subst hj
    rw [← Array.getElem?_toList]at hent
    simp [List.getElem?_modify,hent]
   ·simp [List.getElem?_modify,hj]
  obtain ⟨E',c',hw',hμ,hF,hA⟩:=hgo _ _ _ hM2 rfl
  simp only [Instr.mapEntry,Sem.run_bind,run_underlying ht,Result.andThen_ok,run_getObj_map hw,Sem.run_pure,run_checkKey hkt (key_ok kv),hf,hkey,hborn,run_keyThatStays (key_ok kv),run_setObj_map _ hw]
  refine ⟨E',c',hw',fun k _=>by rw [hμ], ?_,hA⟩
  have:=hlast E' c' hF
  simpa [Act.put,goInt,hent]using this
theorem s_mes {m k v:Operand} {hm hk hv m' k' v':AO} {t:TypeId}
 (h1:trO m hm=some m') (h2:trO k hk=some k') (h3:trO v hv=some v') (hs:astep call st (.mes m' k' v')=some st') (h:FRel N E st a.tmps c):
 Comes1 N E c st' a none (Sem.run P (do Instr.entryStore t (a.eval m) (a.eval k) (a.eval v);pure .skip) E.w):=by
 simp only [astep]at hs
 split at hs
 case h_2=>cases hs
 rename_i mv kv vv hmv hkv hvv
 split at hs
 case h_2=>cases hs
 rename_i es he
 split at hs
 case h_2=>cases hs
 rename_i i hi
 rw [Option.map_eq_some_iff]at hs
 obtain ⟨T',hset,rfl⟩:=hs
 have hkr:=ev_rel h.σ h2 hkv
 have hvr:=ev_rel h.σ h3 hvv
 simp only [Rel]at hkr hvr
 obtain ⟨b,ents,clk,hy,hw,hM,hgo⟩:=putMem h (ev_rel h.σ h1 hmv) he hset
 unfold idx? at hi
 split at hi
 case isFalse=>cases hi
 rename_i hb
 simp only [Option.some.injEq]at hi
 have hik:kv=((0+i:Nat):Int):=by omega
 have hM':MapR (es.modify i fun e=>(e.1,vv)) (ents.modify i fun e=>{e with val:= .int .i64 vv}) clk:=
  ⟨by rw [Array.toList_modify,hM.1,modE],by rw [List.length_modify];exact hM.2⟩
 obtain ⟨E',c',hw',hμ,hF,hA⟩:=hgo _ _ _ hM' rfl
 have hfi:ents.findIdx? (fun e=>(e.born:Int)==kv)=some i:=by
  have:=born_idx es 0 i (by omega)
  rw [← hM.1, ← hik]at this
  have e:ents=(mapE 0 es).toArray:=by rw [← hM.1]
  rw [hM.1]at this
  rw [e];simpa using this
 rw [hy,hkr.1,hvr.1]
 have hrun:(Instr.entryStore t (.map (some b)) (.int .i64 kv) (.int .i64 vv)).run P E.w= .ok () {E.w with heap:=E.w.heap.setIfInBounds b (.map (ents.modify i fun e=>{e with val:= .int .i64 vv}) clk)}:=by
  simp only [Instr.entryStore,Sem.run_bind,Result.andThen_ok,run_getObj_map hw,Sem.run_pure,asInt,asIntOf,hfi,run_setObj_map _ hw]
 simp only [Sem.run_bind,hrun,Result.andThen_ok,Sem.run_pure]
 exact ⟨E',c',hw',fun k _=>by rw [hμ],by simpa [Act.put]using hF,hA⟩
end
end Go.Vm
set_option autoImplicit false
set_option linter.unusedSectionVars false
set_option linter.unusedVariables false
set_option linter.unusedSimpArgs false
namespace Go.Vm
variable [Lay]
def Com(P:Program) (N:Nat) (E:Env) (c:Cnt) (st':St) (a:Act) (dst:Option Tmp):Result Next→Prop
 | .ok (.enter f args) w'=>w'=E.w∧Calls P f args E.w (fun e w''=> ∃ y E' c',e= .returned y∧E'.w=w''∧Keeps dst E E'∧FRel N E' st' (a.put dst y).tmps c'∧Adv E c E' c')
 |r=>Comes1 N E c st' a dst r
theorem Comes1.com {P:Program} {N:Nat} {E:Env} {c:Cnt} {st':St} {a:Act} {dst:Option Tmp} {r:Result Next} (h:Comes1 N E c st' a dst r):Com P N E c st' a dst r:=by
 unfold Com
 split
 ·simp only [Comes1]at h
 ·exact h
section
variable (P:Program) (N:Nat) (o:Oper)
def okD(d:Nat):Bool:=decide (o.dst=some d∧d < N)
def trMv(d:Nat) (h:AO):Option AI:=
 match o.op with
 | .move x| .assign x=>(trO x h).map (.mv d)
 |_=>none
def trPick(d:Nat) (h1 h2 h3:AO):Option AI:=
 match o.op with
 | .pick c x y=>match trO c h1,trO x h2,trO y h3 with
   |some c',some x',some y'=>some (.pick d c' x' y')
   |_,_,_=>none
 |_=>none
def trNew(d:Nat) (h:AO):Option AI:=
 match o.op,h with
 | .alloc t,.c z=>match zeroT P t with
   |some v=>(cV v z).map fun x=> .new d (.c x)
   |none=>none
 | .box t x,h=>(trO x h).map (.new d)
 |_,_=>none
def trLd(d:Nat) (h:AO):Option AI:=
 match o.op with
 | .load t p=>opt2 (trO p h) (tagT P t) fun p' q=> .ld d q.1 q.2 p'
 |_=>none
def trLdq(d:Nat) (h:AO):Option AI:=
 match o.op with
 | .load t p=>opt2 (trO p h) (tagT P t) fun p' q=> .ldq d q.1 q.2 p'
 |_=>none
def trSt(h1 h2:AO):Option AI:=
 match o.op with
 | .store t p x=>match trO p h1,trO x h2,(P.info? t).map (·.size)with
   |some p',some x',some n=>some (.st n p' x')
   |_,_,_=>none
 |_=>none
def trNilc(d:Nat) (h:AO):Option AI:=
 match o.op with
 | .nilCheck x=>(trO x h).map (.nilc d)
 |_=>none
def trFa(d:Nat) (h:AO):Option AI:=
 match o.op with
 | .fieldAddr s x f=>match trO x h,fieldT P s f with
   |some x',some fl=>match (P.info? fl.type).map (·.size)with
    |some n=>if n ≠ 0 then some (.fa d x' fl.offset)else none
    |none=>none
   |_,_=>none
 |_=>none
def trFld(d:Nat) (h:AO):Option AI:=
 match o.op with
 | .field s x f=>match trO x h,fieldT P s f with
   |some x',some fl=>(tagT P fl.type).map fun q=> .fld d q.1 q.2 x' fl.offset
   |_,_=>none
 |_=>none
def trIa(d:Nat) (h1 h2:AO):Option AI:=
 match o.op with
 | .indexAddr t x i=>match trO x h1,trO i h2,slT P t with
   |some x',some i',some q=>some (.ia d q.2.size x' i')
   |_,_,_=>none
 |_=>none
def trIx(d:Nat) (h1 h2:AO):Option AI:=
 match o.op with
 | .index t x i=>match trO x h1,trO i h2,P.underlying t with
   |some x',some i',some .string=>some (.ix d x' i')
   |_,_,_=>none
 |_=>none
def trBin(d:Nat) (h1 h2:AO):Option AI:=
 match o.op with
 | .binOp op _ x y _=>opt2 (trO x h1) (trO y h2) fun x' y'=> .bin d op x' y'
 |_=>none
def trEqs(d:Nat) (neg:Bool) (h1 h2:AO):Option AI:=
 match o.op with
 | .binOp .eql t x y _=>match trO x h1,trO y h2,eqK P t,neg with
   |some x',some y',some k,false=>some (.eqs d k false x' y')
   |_,_,_,_=>none
 | .binOp .neq t x y _=>match trO x h1,trO y h2,eqK P t,neg with
   |some x',some y',some k,true=>some (.eqs d k true x' y')
   |_,_,_,_=>none
 |_=>none
def trUn(d:Nat) (h:AO):Option AI:=
 match o.op with
 | .unOp op _ x=>(trO x h).map (.un d op)
 |_=>none
def trExt(d:Nat) (h:AO):Option AI:=
 match o.op with
 | .extract x i=>(trO x h).map fun x'=> .ext d x' i
 |_=>none
def trFun(d:Nat) (hf hc:List AO):Option AI:=
 match o.op with
 | .makeFunc fn first caps=>opt2 (trOs first.toList hf) (trOs caps.toList hc) fun f' c'=> .fun d fn f' c'
 |_=>none
def trOO:Option Operand→Option AO→Option (Option AO)
 |none,none=>some none
 |some x,some h=>(trO x h).map some
 |_,_=>none
def trSl(d:Nat) (h:AO) (hl hh:Option AO):Option AI:=
 match o.op with
 | .slice t x lo hi none=>match trO x h,trOO lo hl,trOO hi hh,slT P t with
   |some x',some lo',some hi',some q=>some (.sl d q.2.size x' lo' hi')
   |_,_,_,_=>none
 |_=>none
def trSsl(d:Nat) (h:AO) (hl hh:Option AO):Option AI:=
 match o.op with
 | .slice t x lo hi none=>match trO x h,trOO lo hl,trOO hi hh,P.underlying t with
   |some x',some lo',some hi',some .string=>some (.ssl d x' lo' hi')
   |_,_,_,_=>none
 |_=>none
def trBuild(d:Nat) (hz:V) (hp:List AO):Option AI:=
 match o.op with
 | .build t parts=>match zeroT P t,placesT P t with
   |some z,some places=>match cVL z.cells.toList hz.cells,trB places parts.toList hp with
    |some zv,some p'=>some (.build d (.a zv) p')
    |_,_=>none
   |_,_=>none
 |_=>none
def slZ(t:TypeId):Option (TypeInfo × Value):=
 match slT P t with
 |some q=>match q.2.zero with
  |some z=>if z.cells.size=q.2.size∧q.2.bytes≤1048576 then some (q.2,z)else none
  |none=>none
 |none=>none
def trMks(d:Nat) (hp:List AO):Option AI:=
 match o.op with
 | .buildSlice t len parts=>match slZ P t,trOs (parts.toList.map (·.2)) hp with
   |some q,some p'=>if len=parts.toList.length∧parts.toList.map (·.1)=List.range' 0 len∧len*q.1.size≤2 ^ 24 then some (.mks d q.1.size p')else none
   |_,_=>none
 |_=>none
def trMk(d:Nat) (hz:V) (h1 h2:AO):Option AI:=
 match o.op with
 | .makeSlice t l c=>match slZ P t,trO l h1,trO c h2 with
   |some q,some l',some c'=>(cV q.2 hz).map fun z=> .mk d q.1.size z q.1.bytes l' c'
   |_,_,_=>none
 |_=>none
def bltn:Option (Builtin × List Operand × List TypeId):=
 match o.op with
 | .call c=>match c.callee with
   | .builtin b=>some (b,c.args.toList,c.argTypes.toList)
   |_=>none
 |_=>none
def trLen(d:Nat) (h:AO):Option AI:=
 match bltn o with
 |some (.len,[x],[t])=>match trO x h,P.underlying t with
  |some x',some (.slice _)=>some (.len d x')
  |_,_=>none
 |_=>none
def trSlen(d:Nat) (h:AO):Option AI:=
 match bltn o with
 |some (.len,[x],[t])=>match trO x h,P.underlying t with
  |some x',some .string=>some (.slen d x')
  |_,_=>none
 |_=>none
def trApp(d:Nat) (h1 h2:AO):Option AI:=
 match bltn o with
 |some (.append,[x,y],[t,t'])=>match trO x h1,trO y h2,slZ P t,P.underlying t' with
  |some x',some y',some q,some (.slice _)=>some (.app d q.1.size q.1.bytes x' y')
  |_,_,_,_=>none
 |_=>none
def trMx(d:Nat) (mx:Bool):List AO→Option AI
 |[h1,h2]=>match bltn o,mx with
  |some (.max,[x,y],_),true=>opt2 (trO x h1) (trO y h2) fun x' y'=> .mx d true [x',y']
  |some (.min,[x,y],_),false=>opt2 (trO x h1) (trO y h2) fun x' y'=> .mx d false [x',y']
  |_,_=>none
 |_=>none
def trInt(d:Nat) (h:AO):Option AI:=
 match o.op with
 | .convert src dst x=>match trO x h,P.underlying dst,P.underlying src with
   |some x',some (.int k),some (.int _)=>some (.int d k x')
   |_,_,_=>none
 |_=>none
def trStr(d:Nat) (h:AO):Option AI:=
 match o.op with
 | .convert src dst x=>match trO x h,P.underlying dst,P.underlying src with
   |some x',some .string,some (.slice e)=>match P.underlying e with
    |some (.int .u8)=>some (.str d x')
    |_=>none
   |_,_,_=>none
 |_=>none
def mapTy(t:TypeId):Option (TypeId × TypeId):=
 match P.underlying t with
 |some (.map kt et)=>match P.underlying kt,zeroT P et with
  |some (.int .i64),some (.int .i64 0)=>some (kt,et)
  |_,_=>none
 |_=>none
def trMkm(d:Nat):Option AI:=
 match o.op with
 | .makeMap _ none=>some (.mkm d)
 |_=>none
def trMset(h1 h2 h3:AO):Option AI:=
 match o.op with
 | .mapUpdate t m k v| .insert t m k v=>match mapTy P t,trO m h1,trO k h2,trO v h3 with
   |some _,some m',some k',some v'=>some (.mset m' k' v')
   |_,_,_,_=>none
 |_=>none
def trMget(d:Nat) (h1 h2:AO):Option AI:=
 match o.op with
 | .lookup t m k false=>match mapTy P t,trO m h1,trO k h2 with
   |some _,some m',some k'=>some (.mget d m' k')
   |_,_,_=>none
 |_=>none
def trMen(d:Nat) (h1 h2:AO):Option AI:=
 match o.op with
 | .mapEntry t m k=>match mapTy P t,trO m h1,trO k h2 with
   |some _,some m',some k'=>some (.men d m' k')
   |_,_,_=>none
 |_=>none
def trMes(h1 h2 h3:AO):Option AI:=
 match o.op with
 | .entryStore _ m k v=>match trO m h1,trO k h2,trO v h3 with
   |some m',some k',some v'=>some (.mes m' k' v')
   |_,_,_=>none
 |_=>none
end
section
variable {P:Program} {N:Nat} {o:Oper} {E:Env} {c:Cnt} {st st':St} {a:Act} {d:Nat} {call:Call} {ai:AI}
theorem okD_some(h:okD N o d=true):o.dst=some d∧d < N:=by simpa [okD]using h
theorem trOO_some {x:Option Operand} {h y:Option AO} (ht:trOO x h=some y):(x=none∧y=none)∨ ∃ u h' v,x=some u∧trO u h'=some v∧y=some v:=by
 unfold trOO at ht
 split at ht
 ·simp only [Option.some.injEq]at ht;exact .inl ⟨rfl,ht.symm⟩
 ·rw [Option.map_eq_some_iff]at ht
  obtain ⟨v,h1,rfl⟩:=ht
  exact .inr ⟨_,_,_,rfl,h1,rfl⟩
 ·cases ht
theorem r_mv {h:AO} (hd:okD N o d=true) (ht:trMv o d h=some ai) (hs:astep call st ai=some st') (hf:FRel N E st a.tmps c):ComesQ N E st st' o.dst ((execOp a.eval o).run P E.w):=by
 obtain ⟨hd,hn⟩:=okD_some hd
 unfold trMv at ht
 split at ht
 all_goals (first|(cases ht;done)|skip)
 all_goals
  rename_i x ho
  rw [Option.map_eq_some_iff]at ht
  obtain ⟨x',h1,rfl⟩:=ht
  rw [hd,execOp];simp only [ho]
  exact s_mv h1 hs hf hn
theorem r_pick {h1 h2 h3:AO} (hd:okD N o d=true) (ht:trPick o d h1 h2 h3=some ai) (hs:astep call st ai=some st') (hf:FRel N E st a.tmps c):ComesQ N E st st' o.dst ((execOp a.eval o).run P E.w):=by
 obtain ⟨hd,hn⟩:=okD_some hd
 unfold trPick at ht
 split at ht
 case h_2=>cases ht
 rename_i cc x y ho
 split at ht
 case h_2=>cases ht
 rename_i q1 q2 q3
 simp only [Option.some.injEq]at ht;subst ht
 rw [hd,execOp];simp only [ho]
 exact s_pick q1 q2 q3 hs hf hn
theorem andThen_two(r:Result Addr):((r.andThen fun a w'=> .ok (Value.pointer (some a)) w').andThen fun a w'=>Result.ok (Next.value a) w')=r.andThen fun a w'=> .ok (Next.value (.pointer (some a))) w':=by
 cases r<;>rfl
theorem r_new {h:AO} (hd:okD N o d=true) (ht:trNew P o d h=some ai) (hs:astep call st ai=some st') (hf:FRel N E st a.tmps c):Comes1 N E c st' a o.dst ((execOp a.eval o).run P E.w):=by
 obtain ⟨hd,hn⟩:=okD_some hd
 unfold trNew at ht
 split at ht
 ·rename_i t z ho
  split at ht
  case h_2=>cases ht
  rename_i v hv
  rw [Option.map_eq_some_iff]at ht
  obtain ⟨x,hx,rfl⟩:=ht
  unfold zeroT at hv
  rw [Option.bind_eq_some_iff]at hv
  obtain ⟨i,hi,hz⟩:=hv
  have:=s_new (P:=P) (v:=v) (t:=t) (fun z hz=>by simp only [ev,Option.some.injEq]at hz;subst hz;exact rel_cV hx) hs hf hn
  rw [hd,execOp];simp only [ho]
  simpa only [Instr.alloc,zeroValue,Sem.run_bind,run_typeInfo hi,hz,Result.andThen_ok,Sem.run_pure,andThen_two]using this
 ·rename_i t x ho
  rw [Option.map_eq_some_iff]at ht
  obtain ⟨x',hx,rfl⟩:=ht
  have:=s_new (P:=P) (v:=a.eval x) (t:=t) (fun z hz=>ev_rel hf.σ hx hz) hs hf hn
  rw [hd,execOp];simp only [ho]
  simpa only [Instr.box,Sem.run_bind,Result.andThen_ok,Sem.run_pure,andThen_two]using this
 ·cases ht
theorem r_ld {h:AO} (hd:okD N o d=true) (ht:trLd P o d h=some ai) (hs:astep call st ai=some st') (hf:FRel N E st a.tmps c):Comes1 N E c st' a o.dst ((execOp a.eval o).run P E.w):=by
 obtain ⟨hd,hn⟩:=okD_some hd
 unfold trLd at ht
 split at ht
 case h_2=>cases ht
 rename_i t p ho
 obtain ⟨p',q,h1,h2,rfl⟩:=opt2_some ht
 rw [hd,execOp];simp only [ho]
 exact s_ld h1 h2 hs hf hn
theorem r_ldq {h:AO} (hd:okD N o d=true) (ht:trLdq P o d h=some ai) (hs:astep call st ai=some st') (hf:FRel N E st a.tmps c):ComesQ N E st st' o.dst ((execOp a.eval o).run P E.w):=by
 obtain ⟨hd,hn⟩:=okD_some hd
 unfold trLdq at ht
 split at ht
 case h_2=>cases ht
 rename_i t p ho
 obtain ⟨p',q,h1,h2,rfl⟩:=opt2_some ht
 rw [hd,execOp];simp only [ho]
 exact s_ldq h1 h2 hs hf hn
theorem r_st {h1 h2:AO} (hd:o.dst=none) (ht:trSt P o h1 h2=some ai) (hs:astep call st ai=some st') (hf:FRel N E st a.tmps c):Comes1 N E c st' a o.dst ((execOp a.eval o).run P E.w):=by
 unfold trSt at ht
 split at ht
 case h_2=>cases ht
 rename_i t p x ho
 split at ht
 case h_2=>cases ht
 rename_i q1 q2 q3
 simp only [Option.some.injEq]at ht;subst ht
 rw [hd,execOp];simp only [ho]
 exact s_st q1 q2 q3 hs hf
theorem r_nilc {h:AO} (hd:okD N o d=true) (ht:trNilc o d h=some ai) (hs:astep call st ai=some st') (hf:FRel N E st a.tmps c):ComesQ N E st st' o.dst ((execOp a.eval o).run P E.w):=by
 obtain ⟨hd,hn⟩:=okD_some hd
 unfold trNilc at ht
 split at ht
 case h_2=>cases ht
 rename_i x ho
 rw [Option.map_eq_some_iff]at ht
 obtain ⟨x',h1,rfl⟩:=ht
 rw [hd]
 exact s_nilc ho h1 hs hf hn
theorem r_fa {h:AO} (hd:okD N o d=true) (ht:trFa P o d h=some ai) (hs:astep call st ai=some st') (hf:FRel N E st a.tmps c):ComesQ N E st st' o.dst ((execOp a.eval o).run P E.w):=by
 obtain ⟨hd,hn⟩:=okD_some hd
 unfold trFa at ht
 split at ht
 case h_2=>cases ht
 rename_i s x f ho
 split at ht
 case h_2=>cases ht
 rename_i x' fl q1 q2
 split at ht
 case h_2=>cases ht
 rename_i n q3
 split at ht
 case isFalse=>cases ht
 rename_i h0
 simp only [Option.some.injEq]at ht;subst ht
 rw [hd,execOp];simp only [ho]
 exact s_fa q1 q2 q3 h0 hs hf hn
theorem r_fld {h:AO} (hd:okD N o d=true) (ht:trFld P o d h=some ai) (hs:astep call st ai=some st') (hf:FRel N E st a.tmps c):ComesQ N E st st' o.dst ((execOp a.eval o).run P E.w):=by
 obtain ⟨hd,hn⟩:=okD_some hd
 unfold trFld at ht
 split at ht
 case h_2=>cases ht
 rename_i s x f ho
 split at ht
 case h_2=>cases ht
 rename_i x' fl q1 q2
 rw [Option.map_eq_some_iff]at ht
 obtain ⟨q,q3,rfl⟩:=ht
 rw [hd,execOp];simp only [ho]
 exact s_fld q1 q2 q3 hs hf hn
theorem r_ia {h1 h2:AO} (hd:okD N o d=true) (ht:trIa P o d h1 h2=some ai) (hs:astep call st ai=some st') (hf:FRel N E st a.tmps c):ComesQ N E st st' o.dst ((execOp a.eval o).run P E.w):=by
 obtain ⟨hd,hn⟩:=okD_some hd
 unfold trIa at ht
 split at ht
 case h_2=>cases ht
 rename_i t x i ho
 split at ht
 case h_2=>cases ht
 rename_i q1 q2 q3
 simp only [Option.some.injEq]at ht;subst ht
 rw [hd,execOp];simp only [ho]
 exact s_ia q1 q2 q3 hs hf hn
theorem r_ix {h1 h2:AO} (hd:okD N o d=true) (ht:trIx P o d h1 h2=some ai) (hs:astep call st ai=some st') (hf:FRel N E st a.tmps c):ComesQ N E st st' o.dst ((execOp a.eval o).run P E.w):=by
 obtain ⟨hd,hn⟩:=okD_some hd
 unfold trIx at ht
 split at ht
 case h_2=>cases ht
 rename_i t x i ho
 split at ht
 case h_2=>cases ht
 rename_i q1 q2 q3
 simp only [Option.some.injEq]at ht;subst ht
 rw [hd,execOp];simp only [ho]
 exact s_ix q1 q2 q3 hs hf hn
theorem r_bin {h1 h2:AO} (hd:okD N o d=true) (ht:trBin o d h1 h2=some ai) (hs:astep call st ai=some st') (hf:FRel N E st a.tmps c):ComesQ N E st st' o.dst ((execOp a.eval o).run P E.w):=by
 obtain ⟨hd,hn⟩:=okD_some hd
 unfold trBin at ht
 split at ht
 case h_2=>cases ht
 rename_i op t x y ty ho
 obtain ⟨x',y',q1,q2,rfl⟩:=opt2_some ht
 rw [hd,execOp];simp only [ho]
 exact s_bin q1 q2 hs hf hn
theorem r_eqs {neg:Bool} {h1 h2:AO} (hd:okD N o d=true) (ht:trEqs P o d neg h1 h2=some ai) (hs:astep call st ai=some st') (hf:FRel N E st a.tmps c):ComesQ N E st st' o.dst ((execOp a.eval o).run P E.w):=by
 obtain ⟨hd,hn⟩:=okD_some hd
 unfold trEqs at ht
 split at ht
 ·rename_i t x y ty ho
  split at ht
  case h_2=>cases ht
  rename_i q1 q2 q3
  simp only [Option.some.injEq]at ht;subst ht
  rw [hd,execOp];simp only [ho]
  exact s_eqs q1 q2 q3 hs hf hn
 ·rename_i t x y ty ho
  split at ht
  case h_2=>cases ht
  rename_i q1 q2 q3
  simp only [Option.some.injEq]at ht;subst ht
  rw [hd,execOp];simp only [ho]
  exact s_eqs q1 q2 q3 hs hf hn
 ·cases ht
theorem r_un {h:AO} (hd:okD N o d=true) (ht:trUn o d h=some ai) (hs:astep call st ai=some st') (hf:FRel N E st a.tmps c):ComesQ N E st st' o.dst ((execOp a.eval o).run P E.w):=by
 obtain ⟨hd,hn⟩:=okD_some hd
 unfold trUn at ht
 split at ht
 case h_2=>cases ht
 rename_i op t x ho
 rw [Option.map_eq_some_iff]at ht
 obtain ⟨x',h1,rfl⟩:=ht
 rw [hd,execOp];simp only [ho]
 exact s_un h1 hs hf hn
theorem r_ext {h:AO} (hd:okD N o d=true) (ht:trExt o d h=some ai) (hs:astep call st ai=some st') (hf:FRel N E st a.tmps c):ComesQ N E st st' o.dst ((execOp a.eval o).run P E.w):=by
 obtain ⟨hd,hn⟩:=okD_some hd
 unfold trExt at ht
 split at ht
 case h_2=>cases ht
 rename_i x i ho
 rw [Option.map_eq_some_iff]at ht
 obtain ⟨x',h1,rfl⟩:=ht
 rw [hd,execOp];simp only [ho]
 exact s_ext h1 hs hf hn
theorem r_fun {hf' hc:List AO} (hd:okD N o d=true) (ht:trFun o d hf' hc=some ai) (hs:astep call st ai=some st') (hf:FRel N E st a.tmps c):ComesQ N E st st' o.dst ((execOp a.eval o).run P E.w):=by
 obtain ⟨hd,hn⟩:=okD_some hd
 unfold trFun at ht
 split at ht
 case h_2=>cases ht
 rename_i fn first caps ho
 obtain ⟨f',c',q1,q2,rfl⟩:=opt2_some ht
 rw [hd,execOp];simp only [ho]
 exact s_fun q1 q2 hs hf hn
theorem r_sl {h:AO} {hl hh:Option AO} (hd:okD N o d=true) (ht:trSl P o d h hl hh=some ai) (hs:astep call st ai=some st') (hf:FRel N E st a.tmps c):ComesQ N E st st' o.dst ((execOp a.eval o).run P E.w):=by
 obtain ⟨hd,hn⟩:=okD_some hd
 unfold trSl at ht
 split at ht
 case h_2=>cases ht
 rename_i t x lo hi ho
 split at ht
 case h_2=>cases ht
 rename_i q1 q2 q3 q4
 simp only [Option.some.injEq]at ht;subst ht
 rw [hd,execOp];simp only [ho]
 exact s_sl q1 (trOO_some q2) (trOO_some q3) q4 hs hf hn
theorem r_ssl {h:AO} {hl hh:Option AO} (hd:okD N o d=true) (ht:trSsl P o d h hl hh=some ai) (hs:astep call st ai=some st') (hf:FRel N E st a.tmps c):ComesQ N E st st' o.dst ((execOp a.eval o).run P E.w):=by
 obtain ⟨hd,hn⟩:=okD_some hd
 unfold trSsl at ht
 split at ht
 case h_2=>cases ht
 rename_i t x lo hi ho
 split at ht
 case h_2=>cases ht
 rename_i q1 q2 q3 q4
 simp only [Option.some.injEq]at ht;subst ht
 rw [hd,execOp];simp only [ho]
 exact s_ssl q1 (trOO_some q2) (trOO_some q3) q4 hs hf hn
theorem r_build {hz:V} {hp:List AO} (hd:okD N o d=true) (ht:trBuild P o d hz hp=some ai) (hs:astep call st ai=some st') (hf:FRel N E st a.tmps c):ComesQ N E st st' o.dst ((execOp a.eval o).run P E.w):=by
 obtain ⟨hd,hn⟩:=okD_some hd
 unfold trBuild at ht
 split at ht
 case h_2=>cases ht
 rename_i t parts ho
 split at ht
 case h_2=>cases ht
 rename_i z places q1 q2
 split at ht
 case h_2=>cases ht
 rename_i zv p' q3 q4
 simp only [Option.some.injEq]at ht;subst ht
 unfold zeroT at q1
 rw [Option.bind_eq_some_iff]at q1
 obtain ⟨i,hi,hzz⟩:=q1
 rw [hd,execOp];simp only [ho]
 exact s_build (zv:= .a zv) hi hzz q3 q2 q4 hs hf hn
theorem slZ_some {t:TypeId} {q:TypeInfo × Value} (h:slZ P t=some q): ∃ et,P.underlying t=some (.slice et)∧P.info? et=some q.1∧q.1.zero=some q.2∧q.2.cells.size=q.1.size∧q.1.bytes≤1048576:=by
 unfold slZ at h
 split at h
 case h_2=>cases h
 rename_i r hr
 split at h
 case h_2=>cases h
 rename_i z hz
 split at h
 case isFalse=>cases h
 rename_i hc
 simp only [Option.some.injEq]at h;subst h
 unfold slT at hr
 split at hr
 case h_2=>cases hr
 rename_i e he
 rw [Option.map_eq_some_iff]at hr
 obtain ⟨i,hi,rfl⟩:=hr
 exact ⟨e,he,hi,hz,hc.1,hc.2⟩
theorem r_mks {hp:List AO} (hd:okD N o d=true) (ht:trMks P o d hp=some ai) (hs:astep call st ai=some st') (hf:FRel N E st a.tmps c):Comes1 N E c st' a o.dst ((execOp a.eval o).run P E.w):=by
 obtain ⟨hd,hn⟩:=okD_some hd
 unfold trMks at ht
 split at ht
 case h_2=>cases ht
 rename_i t len parts ho
 split at ht
 case h_2=>cases ht
 rename_i q p' q1 q2
 split at ht
 case isFalse=>cases ht
 rename_i hc
 obtain ⟨hlen,hix,hlim⟩:=hc
 simp only [Option.some.injEq]at ht;subst ht
 obtain ⟨et,h1,h2,h3,h4,h5⟩:=slZ_some q1
 have hl:(parts.toList.map (·.2)).length=len:=by rw [List.length_map,hlen]
 have hlim':(parts.toList.map (·.2)).length*q.1.size≤2 ^ 24:=by rw [hl];exact hlim
 have:=s_mks (P:=P) q2 h1 h2 h3 h4 hlim' hs hf hn
 rw [hl]at this
 have e:(parts.map fun (i,x)=>(i,a.eval x))=((List.range' 0 len).zip ((parts.toList.map (·.2)).map a.eval)).toArray:=by
  apply Array.ext'
  rw [Array.toList_map, ← hix]
  simp only [List.map_map]
  rw [List.zip_map']
  rfl
 rw [hd,execOp];simp only [ho]
 rw [e]
 exact this
theorem r_mk {hz:V} {h1 h2:AO} (hd:okD N o d=true) (ht:trMk P o d hz h1 h2=some ai) (hs:astep call st ai=some st') (hf:FRel N E st a.tmps c):Comes1 N E c st' a o.dst ((execOp a.eval o).run P E.w):=by
 obtain ⟨hd,hn⟩:=okD_some hd
 unfold trMk at ht
 split at ht
 case h_2=>cases ht
 rename_i t l cc ho
 split at ht
 case h_2=>cases ht
 rename_i q l' c' q1 q2 q3
 rw [Option.map_eq_some_iff]at ht
 obtain ⟨z,hz,rfl⟩:=ht
 obtain ⟨et,g1,g2,g3,g4,g5⟩:=slZ_some q1
 rw [hd,execOp];simp only [ho]
 exact s_mk q2 q3 g1 g2 g3 hz g4 hs hf hn
theorem run_bltn {b:Builtin} {xs:List Operand} {ts:List TypeId} (h:bltn o=some (b,xs,ts)) (w:World): ∃ consts,(execOp a.eval o).run P w=(builtin b ts.toArray o.type consts (xs.map a.eval).toArray).run P w:=by
 unfold bltn at h
 split at h
 case h_2=>cases h
 rename_i cl ho
 split at h
 case h_2=>cases h
 rename_i b' hb
 simp only [Option.some.injEq,Prod.mk.injEq]at h
 obtain ⟨rfl,rfl,rfl⟩:=h
 rw [execOp];simp only [ho,resolve,hb,invoke,Sem.run_bind,Sem.run_pure,Result.andThen_ok]
 refine ⟨cl.args.map (fun| .const _=>true|_=>false), ?_⟩
 have e1:(List.map a.eval cl.args.toList).toArray=cl.args.map a.eval:=by rw [← Array.toList_map]
 rw [e1]
 rfl
theorem r_len {h:AO} (hd:okD N o d=true) (ht:trLen P o d h=some ai) (hs:astep call st ai=some st') (hf:FRel N E st a.tmps c):ComesQ N E st st' o.dst ((execOp a.eval o).run P E.w):=by
 obtain ⟨hd,hn⟩:=okD_some hd
 unfold trLen at ht
 split at ht
 case h_2=>cases ht
 rename_i x t hb
 split at ht
 case h_2=>cases ht
 rename_i x' e q1 q2
 simp only [Option.some.injEq]at ht;subst ht
 obtain ⟨cs,hrun⟩:=run_bltn (P:=P) (a:=a) hb E.w
 rw [hd,hrun]
 exact s_len q1 q2 hs hf hn
theorem r_slen {h:AO} (hd:okD N o d=true) (ht:trSlen P o d h=some ai) (hs:astep call st ai=some st') (hf:FRel N E st a.tmps c):ComesQ N E st st' o.dst ((execOp a.eval o).run P E.w):=by
 obtain ⟨hd,hn⟩:=okD_some hd
 unfold trSlen at ht
 split at ht
 case h_2=>cases ht
 rename_i x t hb
 split at ht
 case h_2=>cases ht
 rename_i x' q1 q2
 simp only [Option.some.injEq]at ht;subst ht
 obtain ⟨cs,hrun⟩:=run_bltn (P:=P) (a:=a) hb E.w
 rw [hd,hrun]
 exact s_slen q1 q2 hs hf hn
theorem r_app {h1 h2:AO} (hd:okD N o d=true) (ht:trApp P o d h1 h2=some ai) (hs:astep call st ai=some st') (hf:FRel N E st a.tmps c):Comes1 N E c st' a o.dst ((execOp a.eval o).run P E.w):=by
 obtain ⟨hd,hn⟩:=okD_some hd
 unfold trApp at ht
 split at ht
 case h_2=>cases ht
 rename_i x y t t' hb
 split at ht
 case h_2=>cases ht
 rename_i x' y' q e q1 q2 q3 q4
 simp only [Option.some.injEq]at ht;subst ht
 obtain ⟨et,g1,g2,g3,g4,g5⟩:=slZ_some q3
 obtain ⟨cs,hrun⟩:=run_bltn (P:=P) (a:=a) hb E.w
 rw [hd,hrun]
 exact s_app q1 q2 g1 g2 g3 q4 g5 g4 hs hf hn
theorem r_mx {mx:Bool} {hs':List AO} (hd:okD N o d=true) (ht:trMx o d mx hs'=some ai) (hs:astep call st ai=some st') (hf:FRel N E st a.tmps c):ComesQ N E st st' o.dst ((execOp a.eval o).run P E.w):=by
 obtain ⟨hd,hn⟩:=okD_some hd
 unfold trMx at ht
 split at ht
 case h_2=>cases ht
 split at ht
 case h_3=>cases ht
 all_goals
  rename_i x y ts hb
  obtain ⟨x',y',q1,q2,rfl⟩:=opt2_some ht
  obtain ⟨cs,hrun⟩:=run_bltn (P:=P) (a:=a) hb E.w
  rw [hd,hrun]
 ·exact s_mx (t:=ts.toArray) (ty:=o.type) (mx:=true) q1 q2 hs hf hn
 ·exact s_mx (t:=ts.toArray) (ty:=o.type) (mx:=false) q1 q2 hs hf hn
theorem r_int {h:AO} (hd:okD N o d=true) (ht:trInt P o d h=some ai) (hs:astep call st ai=some st') (hf:FRel N E st a.tmps c):ComesQ N E st st' o.dst ((execOp a.eval o).run P E.w):=by
 obtain ⟨hd,hn⟩:=okD_some hd
 unfold trInt at ht
 split at ht
 case h_2=>cases ht
 rename_i src dst x ho
 split at ht
 case h_2=>cases ht
 rename_i x' k k' q1 q2 q3
 simp only [Option.some.injEq]at ht;subst ht
 rw [hd,execOp];simp only [ho]
 exact s_int q1 q2 q3 hs hf hn
theorem r_str {h:AO} (hd:okD N o d=true) (ht:trStr P o d h=some ai) (hs:astep call st ai=some st') (hf:FRel N E st a.tmps c):ComesQ N E st st' o.dst ((execOp a.eval o).run P E.w):=by
 obtain ⟨hd,hn⟩:=okD_some hd
 unfold trStr at ht
 split at ht
 case h_2=>cases ht
 rename_i src dst x ho
 split at ht
 case h_2=>cases ht
 rename_i x' e q1 q2 q3
 split at ht
 case h_2=>cases ht
 rename_i q4
 simp only [Option.some.injEq]at ht;subst ht
 rw [hd,execOp];simp only [ho]
 exact s_str q1 q2 q3 q4 hs hf hn
theorem mapTy_some {t:TypeId} {q:TypeId × TypeId} (h:mapTy P t=some q): ∃ kt et i,P.underlying t=some (.map kt et)∧P.underlying kt=some (.int .i64)∧P.info? et=some i∧i.zero=some (.int .i64 0):=by
 unfold mapTy at h
 split at h
 case h_2=>cases h
 rename_i kt et hu
 split at h
 case h_2=>cases h
 rename_i hk hz
 unfold zeroT at hz
 rw [Option.bind_eq_some_iff]at hz
 obtain ⟨i,hi,hz⟩:=hz
 exact ⟨kt,et,i,hu,hk,hi,hz⟩
theorem r_mkm(hd:okD N o d=true) (ht:trMkm o d=some ai) (hs:astep call st ai=some st') (hf:FRel N E st a.tmps c):Comes1 N E c st' a o.dst ((execOp a.eval o).run P E.w):=by
 obtain ⟨hd,hn⟩:=okD_some hd
 unfold trMkm at ht
 split at ht
 case h_2=>cases ht
 rename_i t ho
 simp only [Option.some.injEq]at ht;subst ht
 rw [hd,execOp];simp only [ho]
 exact s_mkm hs hf hn
theorem r_mset {h1 h2 h3:AO} (hd:o.dst=none) (ht:trMset P o h1 h2 h3=some ai) (hs:astep call st ai=some st') (hf:FRel N E st a.tmps c):Comes1 N E c st' a o.dst ((execOp a.eval o).run P E.w):=by
 unfold trMset at ht
 split at ht
 case h_3=>cases ht
 all_goals
  rename_i t m k v ho
  split at ht
  case h_2=>cases ht
  rename_i q m' k' v' q0 q1 q2 q3
  simp only [Option.some.injEq]at ht;subst ht
  obtain ⟨kt,et,i,hu,hk,hi,hz⟩:=mapTy_some q0
  rw [hd,execOp];simp only [ho]
  exact s_mset hu hk q1 q2 q3 hs hf
theorem r_mget {h1 h2:AO} (hd:okD N o d=true) (ht:trMget P o d h1 h2=some ai) (hs:astep call st ai=some st') (hf:FRel N E st a.tmps c):ComesQ N E st st' o.dst ((execOp a.eval o).run P E.w):=by
 obtain ⟨hd,hn⟩:=okD_some hd
 unfold trMget at ht
 split at ht
 case h_2=>cases ht
 rename_i t m k ho
 split at ht
 case h_2=>cases ht
 rename_i q m' k' q0 q1 q2
 simp only [Option.some.injEq]at ht;subst ht
 obtain ⟨kt,et,i,hu,hk,hi,hz⟩:=mapTy_some q0
 rw [hd,execOp];simp only [ho]
 exact s_mget hu hk hi hz q1 q2 hs hf hn
theorem r_men {h1 h2:AO} (hd:okD N o d=true) (ht:trMen P o d h1 h2=some ai) (hs:astep call st ai=some st') (hf:FRel N E st a.tmps c):Comes1 N E c st' a o.dst ((execOp a.eval o).run P E.w):=by
 obtain ⟨hd,hn⟩:=okD_some hd
 unfold trMen at ht
 split at ht
 case h_2=>cases ht
 rename_i t m k ho
 split at ht
 case h_2=>cases ht
 rename_i q m' k' q0 q1 q2
 simp only [Option.some.injEq]at ht;subst ht
 obtain ⟨kt,et,i,hu,hk,hi,hz⟩:=mapTy_some q0
 rw [hd,execOp];simp only [ho]
 exact s_men hu hk hi hz q1 q2 hs hf hn
theorem r_mes {h1 h2 h3:AO} (hd:o.dst=none) (ht:trMes o h1 h2 h3=some ai) (hs:astep call st ai=some st') (hf:FRel N E st a.tmps c):Comes1 N E c st' a o.dst ((execOp a.eval o).run P E.w):=by
 unfold trMes at ht
 split at ht
 case h_2=>cases ht
 rename_i t m k v ho
 split at ht
 case h_2=>cases ht
 rename_i m' k' v' q1 q2 q3
 simp only [Option.some.injEq]at ht;subst ht
 rw [hd,execOp];simp only [ho]
 exact s_mes q1 q2 q3 hs hf
end
end Go.Vm
set_option autoImplicit false
set_option linter.unusedSectionVars false
set_option linter.unusedVariables false
set_option linter.unusedSimpArgs false
namespace Go.Vm
variable [Lay]
def After(P:Program) (w:World) (R:Value→World→Prop):Result Next→Prop
 | .ok (.enter f args) w'=>w'=w∧Calls P f args w (fun e w''=> ∃ y,e= .returned y∧R y w'')
 | .ok (.value y) w'=>R y w'
 |_=>False
theorem After.mono {P:Program} {w:World} {R R':Value→World→Prop} {r:Result Next} (h:After P w R r) (hr: ∀ y w',R y w'→R' y w'):After P w R' r:=by
 unfold After at*
 split
 ·exact ⟨h.1,h.2.mono fun e w' ⟨y,h1,h2⟩=>⟨y,h1,hr _ _ h2⟩⟩
 ·exact hr _ _ h
 ·rename_i h1 h2
  split at h
  ·exact (h1 _ _ _ rfl).elim
  ·exact (h2 _ _ rfl).elim
  ·exact h
def CallOk(P:Program) (f:Nat) (xs:List V) (r:V) (outs:List V):Prop:=
 ∀ (E:Env) (vs:List Value) (c:Cnt),RelL E.cl xs vs c→Good E c→
  After P E.w (fun y w'=> ∃ E' cr co,E'.w=w'∧Rel E'.cl r y cr∧RelL E'.cl outs vs co∧Good E' (cadd cr co)∧Adv E c E' (cadd cr co)) ((callFunc f vs.toArray).run P E.w)
def CallsOk(P:Program) (call:Call):Prop:= ∀ f xs r outs,call f xs=some (r,outs)→CallOk P f xs r outs
section
variable {P:Program} {N:Nat} {E:Env} {c:Cnt} {st st':St} {a:Act} {call:Call}
theorem cl_drop(E:Env) (d:Nat):(E.drop d).cl=E.cl:=rfl
theorem bring_rel {d:Nat} {x:V} {y:Value} {c1 c2:Cnt} (hsz:a.tmps.size=N) (hσ:SRel E st.σ a.tmps) (hT:TRel E st.T c1) (hx:Rel E.cl x y c2) (hg:Good E (cadd c1 c2)) (hd:d < N):
 ∃ E' c',E'.w=E.w∧E'.I=E.I∧Keeps (some d) E E'∧FRel N E' (bring d x st) (a.put (some d) y).tmps c'∧cle c' (cadd c1 c2):=by
 unfold bring
 split
 ·obtain ⟨c3,hσ1,hT1,hle1⟩:=wipe_rel d hσ hT
  have hx1:Rel (E.drop d) x y c2:=rel_mono hx (mono_cl (E.drop d) c2)
  obtain ⟨E',c',j',hn,h1,h2,h3⟩:=open_V (d:=d) (fun i=>drop_free E d i) hx1
  have hcc:cle (cadd c' c3) (cadd c1 c2):=fun b=>by have:=hle1 b;have:=h3 b;simp only [cadd]at*;omega
  refine ⟨E',cadd c' c3,hn.hw,hn.hI,keeps_drop hn.hout,⟨by simpa [Act.put]using hsz, ?_, ?_,good_names hn.hw hn.hI hcc (hg.drop d)⟩,hcc⟩
  ·exact sRel_put (sRel_mono hσ1 (hn.mono _)) h1 (by rw [hsz];exact hd)
  ·exact tRel_append h2 (tRel_mono hT1 (hn.mono _))
 ·rename_i hz
  have h0:=rel_zero hx (by simpa using hz)
  subst h0
  refine ⟨E,c1,rfl,rfl,Keeps.refl, ?_,cle_left _ _⟩
  have hF:FRel N E st a.tmps c1:=⟨hsz,hσ,hT,hg.le (cle_left _ _)⟩
  exact hF.put (rel_mono hx (mono_cl E c0)) hd
theorem bringO_rel {d:Option Nat} {x:V} {y:Value} {c1 c2:Cnt} (hsz:a.tmps.size=N) (hσ:SRel E st.σ a.tmps) (hT:TRel E st.T c1) (hx:Rel E.cl x y c2) (hg:Good E (cadd c1 c2)) (hd: ∀ t,d=some t→t < N):
 ∃ E' c',E'.w=E.w∧E'.I=E.I∧Keeps d E E'∧FRel N E' (bringO d x st) (a.put d y).tmps c'∧cle c' (cadd c1 c2):=by
 cases d with
 |some d=>exact bring_rel hsz hσ hT hx hg (hd d rfl)
 |none=>exact ⟨E,c1,rfl,rfl,Keeps.refl,⟨by simpa [Act.put]using hsz,by simpa [Act.put,bringO]using hσ,hT,hg.le (cle_left _ _)⟩,cle_left _ _⟩
section
variable {E1 E':Env} {T:Mem}
theorem back1_rel {cT:Cnt} (hT:TRel E T cT) (hw1:E1.w=E'.w) (hcl:E1.cl=E'.cl) (hμ1:E1.μ=E.μ) (hsizes: ∀ b n,bsize E.w b=some n→bsize E'.w b=some n)
 {x y:V} {v:Value} {c':Cnt} (hx:Rel E x v c0) (hy:Rel E'.cl y v c'): ∃ cb,TRel E1 (back1 T x y) cb∧cle cb c':=by
 have hnil: ∃ cb,TRel E1 [] cb∧cle cb c':=⟨c0,rfl,fun _=>Nat.zero_le _⟩
 unfold back1
 split
 ·rename_i k lo len e xs
  split
  case h_2=>exact hnil
  rename_i ob hg
  split
  case isFalse=>exact hnil
  rename_i hc
  obtain ⟨rfl,rfl⟩:=hc
  obtain ⟨co,cr,ho,-,-⟩:=tRel_get hT hg
  simp only [Rel]at hx hy
  obtain ⟨-,hx⟩:=hx
  rcases ho with ⟨_,_,_,_,h1,-⟩|⟨⟨A0,h1⟩,h2,h3⟩|⟨b,base,lim,cells,ty,fz,c3,hμ,hw,hl,hf,hs,hr,-⟩
  ·rcases hx with ⟨A,hμ',-⟩|⟨b,base,e,lim,cap,A,hμ',-⟩<;>(rw [h1]at hμ';cases hμ')
  ·rcases hx with ⟨A,hA,-,-,rfl⟩|⟨b,base,e,lim,cap,A,hμ',-⟩
   ·rcases hy with ⟨rfl,-,rfl⟩|⟨b',base',cap',cells',T',fz',c1,hv,hpos,-⟩
    ·exact ⟨c0,⟨c0,c0,.inr (.inl ⟨⟨A0,by rw [hμ1];exact h1⟩,rfl,rfl⟩),rfl,rfl⟩,cle_refl _⟩
    ·simp only [Value.slice.injEq]at hv;omega
   ·rw [h1]at hμ';cases hμ'
  ·rcases hx with ⟨A,h1,-⟩|⟨b2,base2,e2,lim2,cap,A,hμ',hle,hroom,hpos,hA,rfl⟩
   ·rw [hμ]at h1;cases h1
   ·rw [hμ]at hμ';cases hμ'
    have hp:=hpos trivial
    have hA':=hA.resolve_left (by omega)
    rcases hy with ⟨rfl,⟨A2,hv⟩,rfl⟩|⟨b',base',cap',cells',T',fz',c1,hv,hpos',hle',hs',hw',hf',hr',rfl⟩
    ·simp only [Value.slice.injEq]at hv;omega
    ·simp only [Value.slice.injEq,Option.some.injEq]at hv
     obtain ⟨hA2,hln,rfl⟩:=hv
     rw [hA']at hA2
     simp only [Addr.mk.injEq,Nat.zero_mul,Nat.add_zero,and_true]at hA2
     obtain ⟨rfl,rfl⟩:=hA2
     have hsz:=hsizes b lim (by simp only [bsize,hw,hl])
     have hw'':E'.w.heap[b]? =some (.cells cells' T' fz'):=hw'
     simp only [bsize,hw'',Option.some.injEq]at hsz
     have hm:xs.length*ob.1≤cap*ob.1:=Nat.mul_le_mul_right _ hle'
     refine ⟨cadd (delta b) c1,⟨_,c0,.inr (.inr ⟨b,base,lim,cells',T',fz',c1,by rw [hμ1];exact hμ,by rw [hw1];exact hw'',hsz,hf',by simp only;omega, ?_,rfl⟩),rfl,rfl⟩,cle_refl _⟩
     exact relR_mono hr' (by have:=mono_cl E1 c1;rw [hcl]at this;exact this)
 ·rename_i k idx off x'
  split
  case h_2=>exact hnil
  rename_i ob hg
  split
  case isFalse=>exact hnil
  rename_i hc
  obtain ⟨rfl,rfl,hc⟩:=hc
  obtain ⟨co,cr,ho,-,-⟩:=tRel_get hT hg
  simp only [Rel]at hx hy
  obtain ⟨-,b2,base2,e2,lim2,hμ',rfl⟩:=hx
  rcases ho with ⟨_,_,_,_,h1,-⟩|⟨⟨A0,h1⟩,h2,h3⟩|⟨b,base,lim,cells,ty,fz,c3,hμ,hw,hl,hf,hs,hr,-⟩
  ·rw [h1]at hμ';cases hμ'
  ·rw [h1]at hμ';cases hμ'
  ·rw [hμ]at hμ';cases hμ'
   obtain ⟨b',base',cells',T',fz',c1,z,hv,hle',hw',hf',hz,hzl,hzo,hr',rfl⟩:=hy
   simp only [Value.pointer.injEq,Option.some.injEq,Addr.mk.injEq,Nat.zero_mul,Nat.add_zero,and_true]at hv
   obtain ⟨rfl,rfl⟩:=hv
   have hsz:=hsizes b2 lim2 (by simp only [bsize,hw,hl])
   have hw'':E'.w.heap[b2]? =some (.cells cells' T' fz'):=hw'
   simp only [bsize,hw'',Option.some.injEq]at hsz
   refine ⟨cadd (delta b2) c1,⟨_,c0,.inr (.inr ⟨b2,base2,lim2,cells',T',fz',c1,by rw [hμ1, ← hc];exact hμ,by rw [hw1];exact hw'',hsz,hf', ?_, ?_,rfl⟩),rfl,rfl⟩,cle_refl _⟩
   ·simp only [List.length_singleton,Nat.one_mul,hzl];omega
   ·simp only [List.length_singleton,Nat.one_mul,hzl]
    rw [← hz]
    exact relR_one rfl hzl hzo (rel_mono hr' (by have:=mono_cl E1 c1;rw [hcl]at this;exact this))
 ·exact hnil
theorem backL_rel {cT:Cnt} (hT:TRel E T cT) (hw1:E1.w=E'.w) (hcl:E1.cl=E'.cl) (hμ1:E1.μ=E.μ) (hsizes: ∀ b n,bsize E.w b=some n→bsize E'.w b=some n):
 ∀ {xs ys:List V} {vs:List Value} {c':Cnt},RelL E xs vs c0→RelL E'.cl ys vs c'→ ∃ cb,TRel E1 (backL T xs ys) cb∧cle cb c'
 |[],ys,vs,c',hx,hy=>⟨c0,by simp [backL,TRel],fun _=>Nat.zero_le _⟩
 |x::xs,[],vs,c',hx,hy=>⟨c0,by simp [backL,TRel],fun _=>Nat.zero_le _⟩
 |x::xs,y::ys,vs,c',hx,hy=>by
  simp only [RelL]at hx hy
  obtain ⟨v,t,d1,d2,rfl,h1,h2,hc⟩:=hx
  obtain ⟨v',t',e1,e2,he,h3,h4,rfl⟩:=hy
  simp only [List.cons.injEq]at he
  obtain ⟨rfl,rfl⟩:=he
  obtain ⟨rfl,rfl⟩:=cz hc.symm.symm rfl
  obtain ⟨b1,h5,h6⟩:=back1_rel hT hw1 hcl hμ1 hsizes h1 h3
  obtain ⟨b2,h7,h8⟩:=backL_rel hT hw1 hcl hμ1 hsizes h2 h4
  exact ⟨cadd b1 b2,by simp only [backL];exact tRel_append h5 h7,cle_add h6 h8⟩
theorem back_rel {cT:Cnt} (hT:TRel E T cT) (hw1:E1.w=E'.w) (hcl:E1.cl=E'.cl) (hμ1:E1.μ=E.μ) (hsizes: ∀ b n,bsize E.w b=some n→bsize E'.w b=some n)
 {x y:V} {v:Value} {c':Cnt} (hx:Rel E x v c0) (hy:Rel E'.cl y v c'): ∃ cb,TRel E1 (back T x y) cb∧cle cb c':=by
 unfold back
 split
 ·simp only [Rel]at hx hy
  obtain ⟨vs,rfl,h1⟩:=hx
  obtain ⟨vs',he,h2⟩:=hy
  simp only [Value.agg.injEq]at he;subst he
  exact backL_rel hT hw1 hcl hμ1 hsizes h1 h2
 ·simp only [Rel]at hx hy
  obtain ⟨fs,cs,d1,d2,rfl,h1,h2,hc⟩:=hx
  obtain ⟨fs',cs',e1,e2,he,h3,h4,rfl⟩:=hy
  simp only [Value.func.injEq]at he
  obtain ⟨-,rfl,rfl⟩:=he
  obtain ⟨rfl,rfl⟩:=cz hc.symm.symm rfl
  obtain ⟨b1,h5,h6⟩:=backL_rel hT hw1 hcl hμ1 hsizes h1 h3
  obtain ⟨b2,h7,h8⟩:=backL_rel hT hw1 hcl hμ1 hsizes h2 h4
  exact ⟨cadd b1 b2,tRel_append h5 h7,cle_add h6 h8⟩
 ·exact back1_rel hT hw1 hcl hμ1 hsizes hx hy
theorem backs_rel {cT:Cnt} (hT:TRel E T cT) (hw1:E1.w=E'.w) (hcl:E1.cl=E'.cl) (hμ1:E1.μ=E.μ) (hsizes: ∀ b n,bsize E.w b=some n→bsize E'.w b=some n):
 ∀ {xs ys:List V} {vs:List Value} {c':Cnt},RelL E xs vs c0→RelL E'.cl ys vs c'→ ∃ cb,TRel E1 (backs T xs ys) cb∧cle cb c'
 |[],ys,vs,c',hx,hy=>⟨c0,by simp [backs,TRel],fun _=>Nat.zero_le _⟩
 |x::xs,[],vs,c',hx,hy=>⟨c0,by simp [backs,TRel],fun _=>Nat.zero_le _⟩
 |x::xs,y::ys,vs,c',hx,hy=>by
  simp only [RelL]at hx hy
  obtain ⟨v,t,d1,d2,rfl,h1,h2,hc⟩:=hx
  obtain ⟨v',t',e1,e2,he,h3,h4,rfl⟩:=hy
  simp only [List.cons.injEq]at he
  obtain ⟨rfl,rfl⟩:=he
  obtain ⟨rfl,rfl⟩:=cz hc.symm.symm rfl
  obtain ⟨b1,h5,h6⟩:=back_rel hT hw1 hcl hμ1 hsizes h1 h3
  obtain ⟨b2,h7,h8⟩:=backs_rel hT hw1 hcl hμ1 hsizes h2 h4
  exact ⟨cadd b1 b2,by simp only [backs];exact tRel_append h5 h7,cle_add h6 h8⟩
end
theorem snap_rel {E2:Env} {cT:Cnt} (hT:TRel E st.T cT) (hw:E2.w=E.w) (hI: ∀ τ b,E.I τ b→E2.I τ b) (hc: ∀ b,cT b ≠ 0→E2.I true b):
 ∀ {xs:List V} {vs:List Value},RelL E xs vs c0→RelL E2.cl (snapArgs st.T xs) vs c0
 |[],vs,h=>by simpa only [snapArgs,RelL]using h
 |x::xs,vs,h=>by
  simp only [RelL,snapArgs]at h ⊢
  obtain ⟨v,t,d1,d2,rfl,h1,h2,hc'⟩:=h
  obtain ⟨rfl,rfl⟩:=cz hc'.symm.symm rfl
  obtain ⟨e1,e2,h3,h4,h5,-⟩:=closes_closeV 30 E st.T x v cT c0 hT h1
  refine ⟨v,t,c0,c0,rfl,rel_conv (E:=E) h4 ⟨hw,hI,fun b hb=>hc b ?_⟩,snap_rel hT hw hI hc h2,rfl⟩
  have:=h5 b;simp only [cadd,c0]at this;omega
theorem adv_frame {E E':Env} {ci ci':Cnt} (cr:Cnt) (h:Adv E ci E' ci'):Adv E (cadd ci cr) E' (cadd ci' cr):=by
 refine ⟨h.sizes,h.os,h.tape,h.output,h.size,fun b hb hc=>h.frame b hb (by simp only [cadd]at hc;omega),h.sub,fun b hb=> ?_,fun τ b hb=> ?_⟩
 ·simp only [cadd]at hb ⊢
  by_cases h0:ci' b=0
  ·exact .inl (by omega)
  ·rcases h.own b h0 with h1|h1
   ·exact .inl (by omega)
   ·exact .inr h1
 ·rcases h.imm τ b hb with h1|h1|h1
  ·exact .inl h1
  ·exact .inr (.inl (by simp only [cadd];omega))
  ·exact .inr (.inr h1)
theorem good_frame {E E':Env} {ci ci' cr:Cnt} (hg:Good E (cadd ci cr)) (h:Adv E ci E' ci') (hg':Good E' ci'):Good E' (cadd ci' cr):=by
 have hcr: ∀ b,cr b ≠ 0→b < E.w.heap.size∧ci b=0∧cr b≤1:=fun b hb=>by
  have h1:=hg.one b;have h2:=hg.bnd b (by simp only [cadd];omega)
  simp only [cadd]at h1
  exact ⟨h2,by omega,by omega⟩
 refine ⟨fun b=> ?_,fun τ b hb=> ?_,hg'.sub,fun b hb=> ?_,hg'.lay⟩
 ·have h1:=hg'.one b
  simp only [cadd]
  by_cases h0:cr b=0
  ·omega
  ·obtain ⟨h2,h3,h4⟩:=hcr b h0
   have:ci' b=0:=by
    cases h5:ci' b with
    |zero=>rfl
    |succ n=>rcases h.own b (by omega)with h6|h6<;>omega
   omega
 ·have h1:=hg'.imm τ b hb
  simp only [cadd]
  refine ⟨?_,h1.2⟩
  by_cases h0:cr b=0
  ·omega
  ·obtain ⟨h2,h3,h4⟩:=hcr b h0
   exfalso
   rcases h.imm τ b hb with h5|h5|h5
   ·have:=(hg.imm τ b h5).1;simp only [cadd]at this;omega
   ·omega
   ·omega
 ·simp only [cadd]at hb
  by_cases h0:cr b=0
  ·exact hg'.bnd b (by omega)
  ·have:=(hcr b h0).1;have:=h.size;omega
theorem mono_frame {E E':Env} {ci ci' cr:Cnt} (hg:Good E (cadd ci cr)) (h:Adv E ci E' ci') (hμ: ∀ k l,E.μ k=some l→E'.μ k=some l):Mono E E' cr:=by
 refine ⟨fun τ b hb=>⟨h.sub τ b hb,h.frame b (hg.imm τ b hb).2 (by have:=(hg.imm τ b hb).1;simp only [cadd]at this;omega)⟩,fun b hb=> ?_,hμ⟩
 have h1:=hg.one b;have h2:=hg.bnd b (by simp only [cadd];omega)
 simp only [cadd]at h1
 exact h.frame b h2 (by omega)
theorem ro_rel(hC:CallsOk P call) {g:Nat} {T:Mem} {xs:List V} {vs:List Value} {fz:Bool} {r:V} {outs:List V} (hcall:call g (snapArgs T xs)=some (r,outs)) (hnt:noTag r=true)
 (hx:RelL E xs vs c0) (hT:TRel E T c) (hgE:Good E c):
 After P E.w (fun y w'=> ∃ E3 c5,E3.w=w'∧E3.μ=E.μ∧Rel E3.cl (fzV fz r) y c5∧Good E3 c5∧(∀ b,b < E.w.heap.size→w'.heap[b]? =E.w.heap[b]?)∧Adv E c0 E3 c5) ((callFunc g vs.toArray).run P E.w):=by
 have h:FRel 0 E {σ:=[],T:=T} #[] c:=⟨rfl,fun t x hx=>(by cases hx),hT,hgE⟩
 have hcb: ∀ b,E.w.heap.size≤b→c b=0:=fun b hb=>by
  cases hc:c b with
  |zero=>rfl
  |succ n=>have:=h.g.bnd b (by omega);omega
 let E2:Env:={E with I:=fun τ b=>E.I τ b∨(τ=true∧c b ≠ 0)}
 have hx2:RelL E2.cl (snapArgs T xs) vs c0:=snap_rel (E:=E) (st:={σ:=[],T:=T}) (E2:=E2) h.T rfl (fun τ b hb=> .inl hb) (fun b hb=> .inr ⟨rfl,hb⟩) hx
 have hg2:Good E2 c0:=by
  refine ⟨fun b=>Nat.zero_le _,fun τ b hb=>⟨rfl, ?_⟩,fun b hb=> ?_,fun b hb=>absurd rfl hb,h.g.lay.next (fun b hb=> .inl hb) (fun b hb=>rfl)⟩
  ·rcases hb with hb|⟨-,hb⟩
   ·exact (h.g.imm τ b hb).2
   ·exact h.g.bnd b hb
  ·rcases hb with hb|⟨h0,-⟩
   ·exact .inl (h.g.sub b hb)
   ·cases h0
 refine (hC g _ r outs hcall E2 vs c0 hx2 hg2).mono ?_
 rintro y w' ⟨E',cr,co,hw,hr,-,hg,hA⟩
 let E3:Env:={w:=E'.w,I:=fun τ b=>E'.I false b∨(τ=true∧E.I true b)∨(fz=true∧cr b ≠ 0),μ:=E.μ}
 let E30:Env:={w:=E'.w,I:=fun τ b=>E'.I false b∨(τ=true∧E.I true b),μ:=E.μ}
 have hr30:Rel E30.cl r y cr:=rel_forget (E:=E'.cl) hr hnt ⟨rfl,fun b hb=> .inl hb⟩
 have hres: ∃ c5,Rel E3.cl (fzV fz r) y c5∧cle c5 cr∧(fz=true→c5=c0):=by
  unfold fzV
  cases fz with
  |true=>
   rw [if_pos rfl]
   refine ⟨c0,rel_conv (E:=E30) hr30 ⟨rfl,fun σ b hb=>hb.imp id .inl,fun b hb=> .inr (.inr ⟨rfl,hb⟩)⟩,fun _=>Nat.zero_le _,fun _=>rfl⟩
  |false=>
   rw [if_neg (by simp)]
   refine ⟨cr,rel_mono hr30 ⟨fun τ b hb=>⟨hb.imp id .inl,rfl⟩,fun b hb=>rfl,fun k l hk=>by simp [Env.cl]at hk⟩,cle_refl _,fun h=>by cases h⟩
 obtain ⟨c5,hr3,hle5,hz5⟩:=hres
 have hfr: ∀ b,b < E.w.heap.size→E'.w.heap[b]? =E.w.heap[b]? :=fun b hb=>hA.frame b hb rfl
 have hIs: ∀ τ b,E.I τ b→E3.I τ b:=fun τ b hb=>by
  cases τ with
  |false=>exact .inl (hA.sub false b (.inl hb))
  |true=>exact .inr (.inl ⟨rfl,hb⟩)
 have hcr: ∀ b,cr b ≠ 0→E.w.heap.size≤b:=fun b hb=>(hA.own b (by simp only [cadd];omega)).resolve_left (fun h=>h rfl)
 have hI': ∀ b,E'.I false b→E.I false b∨E.w.heap.size≤b:=fun b hb=>by
  rcases hA.imm false b hb with hb|hb|hb
  ·rcases hb with hb|⟨h0,-⟩
   ·exact .inl hb
   ·cases h0
  ·exact absurd rfl hb
  ·exact .inr hb
 have hg3:Good E3 (cadd c c5):=by
  refine ⟨fun b=> ?_,fun τ b hb=> ?_,fun b hb=> ?_,fun b hb=> ?_,hg.lay.next (fun b hb=> .inl hb) (fun b hb=>rfl)⟩
  ·have h1:=h.g.one b
   have h2:=hg.one b
   have h5:=hle5 b
   simp only [cadd]at h2 ⊢
   by_cases h0:cr b=0
   ·omega
   ·have:=hcb b (hcr b h0);omega
  ·have h5:=hle5 b
   rcases hb with hb|⟨-,hb⟩|⟨hf,hb⟩
   ·have h1:=hg.imm false b hb
    simp only [cadd]at h1 ⊢
    refine ⟨?_,h1.2⟩
    rcases hI' b hb with h2|h2
    ·have:=(h.g.imm false b h2).1;omega
    ·have:=hcb b h2;omega
   ·have h1:=h.g.imm true b hb
    simp only [cadd]
    refine ⟨?_,Nat.lt_of_lt_of_le h1.2 hA.size⟩
    by_cases h0:cr b=0
    ·omega
    ·have:=hcr b h0;omega
   ·simp only [cadd]
    refine ⟨?_,hg.bnd b (by simp only [cadd];omega)⟩
    rw [hz5 hf,hcb b (hcr b hb)];rfl
  ·rcases hb with hb|⟨h0,-⟩|hb
   ·exact .inl hb
   ·cases h0
   ·exact .inr (.inr hb)
  ·have h5:=hle5 b
   simp only [cadd]at hb
   by_cases h0:cr b=0
   ·exact Nat.lt_of_lt_of_le (h.g.bnd b (by omega)) hA.size
   ·exact hg.bnd b (by simp only [cadd];omega)
 refine ⟨E3,c5,hw,rfl,hr3,hg3.le (cle_right _ _),fun b hb=>by rw [← hw];exact hfr b hb, ?_⟩
 refine ⟨fun b n hb=>hA.sizes b n hb,hA.os,hA.tape,hA.output,hA.size,fun b hb _=>hfr b hb,hIs,fun b hb=> ?_,fun τ b hb=> ?_⟩
 ·exact .inr (hcr b (by have:=hle5 b;omega))
 ·rcases hb with hb|⟨rfl,hb⟩|⟨-,hb⟩
  ·rcases hI' b hb with h2|h2
   ·cases τ with
    |false=>exact .inl h2
    |true=>exact .inl (h.g.sub b h2)
   ·exact .inr (.inr h2)
  ·exact .inl hb
  ·exact .inr (.inr (hcr b hb))
theorem doCall_rel(hC:CallsOk P call) {d:Option Nat} {g:Nat} {xs:List V} {vs:List Value} {m:Md} (hs:doCall call d g xs m st=some st') (hx:RelL E xs vs c0)
 (h:FRel N E st a.tmps c) (hd: ∀ t,d=some t→t < N):
 After P E.w (fun y w'=> ∃ E' c',E'.w=w'∧Keeps d E E'∧FRel N E' st' (a.put d y).tmps c'∧Adv E c E' c') ((callFunc g vs.toArray).run P E.w):=by
 have hcb: ∀ b,E.w.heap.size≤b→c b=0:=fun b hb=>by
  cases hc:c b with
  |zero=>rfl
  |succ n=>have:=h.g.bnd b (by omega);omega
 cases m with
 |ro fz=>
  simp only [doCall]at hs
  split at hs
  case h_2=>cases hs
  rename_i r outs hcall
  split at hs
  case isFalse=>cases hs
  rename_i hnt
  simp only [Option.some.injEq]at hs;subst hs
  refine (ro_rel hC (fz:=fz) hcall hnt hx h.T h.g).mono ?_
  rintro y w' ⟨E3,c5,hw,hμ,hr3,hg5,hfr,hA⟩
  have hg':Good E (cadd c0 c):=by rw [c0_cadd];exact h.g
  have hM:Mono E E3 c:=mono_frame hg' hA (fun k l hk=>by rw [hμ];exact hk)
  have hg3:Good E3 (cadd c c5):=by rw [cadd_comm];exact good_frame hg' hA hg5
  have hA3:Adv E c E3 (cadd c c5):=by
   have:=adv_frame c hA
   rw [c0_cadd,cadd_comm c5 c]at this;exact this
  obtain ⟨E4,c4,hw4,hI4,hk4,hF4,hle4⟩:=bringO_rel (a:=a) (N:=N) (d:=d) (st:=st) h.sz (sRel_mono h.σ (hM.le fun _=>Nat.zero_le _)) (tRel_mono h.T hM) hr3 hg3 hd
  exact ⟨E4,c4,hw4.trans hw,fun k hk=>(hk4 k hk).trans (by rw [hμ]),hF4,hA3.trans (adv_names hw4 hI4 hle4)⟩
 |io fz=>
  simp only [doCall]at hs
  split at hs
  case h_2=>cases hs
  rename_i r outs hcall
  simp only [Option.some.injEq]at hs;subst hs
  obtain ⟨d1,d2,hT1,hy,hle⟩:=relL_mapT (closes_closeV 30) h.T hx
  have hle': ∀ b,d1 b+d2 b≤c b:=fun b=>by have:=hle b;simp only [cadd,c0]at this;omega
  have hg2:Good E d2:=h.g.le fun b=>by have:=hle' b;omega
  refine (hC g _ r outs hcall E vs d2 hy hg2).mono ?_
  rintro y w' ⟨E',cr,co,hw,hr,hout,hg,hA⟩
  let E1:Env:={w:=E'.w,I:=fun τ b=>E'.I τ b∨(fz=true∧cr b ≠ 0),μ:=E.μ}
  let E0:Env:={w:=E'.w,I:=E'.I,μ:=E.μ}
  have hnew: ∀ b,cr b+co b ≠ 0→d2 b ≠ 0∨E.w.heap.size≤b:=fun b hb=>hA.own b hb
  have hdis: ∀ b,d1 b ≠ 0→cr b+co b=0:=fun b hb=>by
   cases hc:cr b+co b with
   |zero=>rfl
   |succ n=>
    rcases hnew b (by omega)with h1|h1
    ·have:=hle' b;have:=h.g.one b;omega
    ·have:=hcb b h1;have:=hle' b;omega
  have hM:Mono E E1 d1:=⟨fun τ b hb=>⟨.inl (hA.sub τ b hb),hA.frame b (h.g.imm τ b hb).2 (by have:=(h.g.imm τ b hb).1;have:=hle' b;omega)⟩,
   fun b hb=>hA.frame b (h.g.bnd b (by have:=hle' b;omega)) (by have:=hle' b;have:=h.g.one b;omega),fun k l hk=>hk⟩
  obtain ⟨cb,hB0,hcb'⟩:=backs_rel (E1:=E0) (E':=E') (T:=st.T) h.T rfl rfl rfl hA.sizes hx hout
  have hM01:Mono E0 E1 cb:=⟨fun τ b hb=>⟨.inl hb,rfl⟩,fun b hb=>rfl,fun k l hk=>hk⟩
  have hB:=tRel_mono hB0 hM01
  have hres: ∃ c5,Rel E1.cl (fzV fz r) y c5∧cle c5 cr∧(fz=true→c5=c0):=by
   unfold fzV
   cases fz with
   |true=>
    rw [if_pos rfl]
    refine ⟨c0,rel_conv (E:=E') hr ⟨rfl,fun σ b hb=> .inl hb,fun b hb=> .inr ⟨rfl,hb⟩⟩,fun _=>Nat.zero_le _,fun _=>rfl⟩
   |false=>
    rw [if_neg (by simp)]
    refine ⟨cr,rel_mono hr ⟨fun τ b hb=>⟨.inl hb,rfl⟩,fun b hb=>rfl,fun k l hk=>by simp [Env.cl]at hk⟩,cle_refl _,fun h=>by cases h⟩
  obtain ⟨c5,hr5,hle5,hz5⟩:=hres
  have hg1:Good E1 (cadd (cadd cb d1) c5):=by
   refine ⟨fun b=> ?_,fun τ b hb=> ?_,fun b hb=> ?_,fun b hb=> ?_,hg.lay.next (fun b hb=> .inl hb) (fun b hb=>rfl)⟩
   ·have h1:=h.g.one b;have h2:=hg.one b;have h3:=hle' b;have h4:=hle5 b;have h5:=hcb' b
    simp only [cadd]at h2 ⊢
    by_cases h0:d1 b=0
    ·omega
    ·have:=hdis b h0;omega
   ·simp only [cadd]
    rcases hb with hb|⟨hf,hb⟩
    ·have h1:=hg.imm τ b hb
     simp only [cadd]at h1
     have h4:=hle5 b;have h5:=hcb' b
     refine ⟨?_,h1.2⟩
     rcases hA.imm τ b hb with h2|h2|h2
     ·have:=(h.g.imm τ b h2).1;have:=hle' b;omega
     ·have:=hle' b;have:=h.g.one b;omega
     ·have:=hcb b h2;have:=hle' b;omega
    ·have h1:=hg.one b
     simp only [cadd]at h1
     have h5:=hcb' b
     refine ⟨?_,hg.bnd b (by simp only [cadd];omega)⟩
     rw [hz5 hf]
     have:d1 b=0:=by
      by_cases h0:d1 b=0
      ·exact h0
      ·have:=hdis b h0;omega
     simp only [c0];omega
   ·rcases hb with hb|hb
    ·exact .inl (hg.sub b hb)
    ·exact .inr hb
   ·simp only [cadd]at hb
    by_cases h0:d1 b=0
    ·have h4:=hle5 b;have h5:=hcb' b
     exact hg.bnd b (by simp only [cadd];omega)
    ·exact Nat.lt_of_lt_of_le (h.g.bnd b (by have:=hle' b;omega)) hA.size
  obtain ⟨E4,c4,hw4,hI4,hk4,hF4,hle4⟩:=bringO_rel (a:=a) (N:=N) (d:=d) (st:={σ:=st.σ,T:=backs st.T xs outs++(mapT (closeV 30) st.T xs).2}) h.sz
   (sRel_mono h.σ (hM.le fun _=>Nat.zero_le _)) (tRel_append hB (tRel_mono hT1 hM)) hr5 hg1 hd
  refine ⟨E4,c4,hw4.trans hw,fun k hk=>hk4 k hk,hF4, ?_⟩
  refine ⟨fun b n hb=>by rw [hw4];exact hA.sizes b n hb,by rw [hw4];exact hA.os,by rw [hw4];exact hA.tape,by rw [hw4];exact hA.output,by rw [hw4];exact hA.size,
   fun b hb hc=>by rw [hw4];exact hA.frame b hb (by have:=hle' b;omega),fun τ b hb=>by rw [hI4];exact .inl (hA.sub τ b hb),fun b hb=> ?_,fun τ b hb=> ?_⟩
  ·have h1:=hle4 b;have h4:=hle5 b;have h5:=hcb' b;have h6:=hle' b
   simp only [cadd]at h1
   by_cases h0:d1 b=0
   ·rcases hnew b (by omega)with h2|h2
    ·exact .inl (by omega)
    ·exact .inr h2
   ·exact .inl (by omega)
  ·rw [hI4]at hb
   have h6:=hle' b
   rcases hb with hb|⟨-,hb⟩
   ·rcases hA.imm τ b hb with h2|h2|h2
    ·exact .inl h2
    ·exact .inr (.inl (by omega))
    ·exact .inr (.inr h2)
   ·rcases hnew b (by omega)with h2|h2
    ·exact .inr (.inl (by omega))
    ·exact .inr (.inr h2)
end
end Go.Vm
set_option autoImplicit false
set_option linter.unusedSectionVars false
set_option linter.unusedVariables false
set_option linter.unusedSimpArgs false
namespace Go.Vm
variable [Lay]
def okDst(N:Nat) (o:Oper) (d:Option Nat):Bool:=decide (o.dst=d)&&(match d with|some d=>decide (d < N)|none=>true)
def trCall(o:Oper) (d:Option Nat) (h:AO) (hs:List AO) (m:Md):Option AI:=
 match o.op with
 | .call c=>match c.callee with
   | .value f=>opt2 (trO f h) (trOs c.args.toList hs) fun f' xs'=> .call d f' xs' m
   |_=>none
 |_=>none
def trI1(P:Program) (N:Nat) (o:Oper):AI→Option AI
 | .mv d h=>if okD N o d then trMv o d h else none
 | .pick d h1 h2 h3=>if okD N o d then trPick o d h1 h2 h3 else none
 | .new d h=>if okD N o d then trNew P o d h else none
 | .build d z hp=>if okD N o d then trBuild P o d z (hp.map fun x=>x.2.2)else none
 | .mks d _ hp=>if okD N o d then trMks P o d hp else none
 | .mk d _ z _ h1 h2=>if okD N o d then trMk P o d z h1 h2 else none
 | .ld d _ _ h=>if okD N o d then trLd P o d h else none
 | .ldq d _ _ h=>if okD N o d then trLdq P o d h else none
 | .nilc d h=>if okD N o d then trNilc o d h else none
 | .bin d _ h1 h2=>if okD N o d then trBin o d h1 h2 else none
 | .eqs d _ neg h1 h2=>if okD N o d then trEqs P o d neg h1 h2 else none
 | .un d _ h=>if okD N o d then trUn o d h else none
 | .sl d _ h lo hi=>if okD N o d then trSl P o d h lo hi else none
 | .ssl d h lo hi=>if okD N o d then trSsl P o d h lo hi else none
 | .slen d h=>if okD N o d then trSlen P o d h else none
 | .fa d h _=>if okD N o d then trFa P o d h else none
 | .fld d _ _ h _=>if okD N o d then trFld P o d h else none
 | .ia d _ h1 h2=>if okD N o d then trIa P o d h1 h2 else none
 | .ix d h1 h2=>if okD N o d then trIx P o d h1 h2 else none
 | .ext d h _=>if okD N o d then trExt o d h else none
 | .fun d _ hf hc=>if okD N o d then trFun o d hf hc else none
 | .app d _ _ h1 h2=>if okD N o d then trApp P o d h1 h2 else none
 | .len d h=>if okD N o d then trLen P o d h else none
 | .mx d m hs=>if okD N o d then trMx o d m hs else none
 | .int d _ h=>if okD N o d then trInt P o d h else none
 | .str d h=>if okD N o d then trStr P o d h else none
 | .st _ h1 h2=>if decide (o.dst=none)then trSt P o h1 h2 else none
 | .call d f xs m=>if okDst N o d then trCall o d f xs m else none
 | .mkm d=>if okD N o d then trMkm o d else none
 | .mset h1 h2 h3=>if decide (o.dst=none)then trMset P o h1 h2 h3 else none
 | .mget d h1 h2=>if okD N o d then trMget P o d h1 h2 else none
 | .men d h1 h2=>if okD N o d then trMen P o d h1 h2 else none
 | .mes h1 h2 h3=>if decide (o.dst=none)then trMes o h1 h2 h3 else none
 | .cpy .. | .byt .. | .gd .. =>none
section
variable {P:Program} {N:Nat} {o:Oper} {E:Env} {c:Cnt} {st st':St} {a:Act} {call:Call} {ai:AI}
theorem r_call(hC:CallsOk P call) {d:Option Nat} {h:AO} {hs':List AO} {m:Md} (hd:okDst N o d=true) (ht:trCall o d h hs' m=some ai) (hs:astep call st ai=some st') (hf:FRel N E st a.tmps c):
 Com P N E c st' a o.dst ((execOp a.eval o).run P E.w):=by
 simp only [okDst,Bool.and_eq_true,decide_eq_true_eq]at hd
 obtain ⟨hd,hn⟩:=hd
 unfold trCall at ht
 split at ht
 case h_2=>cases ht
 rename_i cl ho
 split at ht
 case h_2=>cases ht
 rename_i f hfn
 obtain ⟨f',xs',h1,h2,rfl⟩:=opt2_some ht
 simp only [astep]at hs
 split at hs
 case h_2=>cases hs
 rename_i fv hfv
 split at hs
 case h_2=>cases hs
 rename_i g first caps xs hcal hxs
 have hrf:=ev_rel hf.σ h1 hfv
 have hrx:=evL_rel hf.σ h2 hxs
 unfold callee at hcal
 split at hcal
 case h_2=>cases hcal
 rename_i g0 fi0 ca0
 simp only [Option.some.injEq,Prod.mk.injEq]at hcal
 obtain ⟨rfl,rfl,rfl⟩:=hcal
 simp only [Rel]at hrf
 obtain ⟨fs,cs,c1,c2,hv,hr1,hr2,hcc⟩:=hrf
 obtain ⟨rfl,rfl⟩:=cz hcc.symm.symm rfl
 have hL:RelL E (_++xs++_) (fs.toList++cl.args.toList.map a.eval++cs.toList) c0:=relL_append (relL_append hr1 hrx) hr2
 have hA:=doCall_rel hC hs hL hf (fun t ht=>by subst ht;simpa using hn)
 have hrun:(execOp a.eval o).run P E.w=(callFunc g0 (fs.toList++cl.args.toList.map a.eval++cs.toList).toArray).run P E.w:=by
  rw [execOp];simp only [ho,resolve,hfn,hv,Deferred.ofValue,invoke,Sem.run_bind,Sem.run_pure,Result.andThen_ok]
  congr 2
  apply Array.ext'
  simp
 rw [hrun,hd]
 unfold After at hA
 unfold Com
 split at hA
 ·rename_i g' args w' he
  rw [he]
  exact ⟨hA.1,hA.2.mono fun e w'' ⟨y,h1,E',c',h2,h3,h4,h5⟩=>⟨y,E',c',h1,h2,h3,h4,h5⟩⟩
 ·rename_i y w' he
  rw [he]
  exact hA
 ·exact hA.elim
theorem trI1_sound(hC:CallsOk P call) {h:AI} (ht:trI1 P N o h=some ai) (hs:astep call st ai=some st') (hf:FRel N E st a.tmps c):
 Com P N E c st' a o.dst ((execOp a.eval o).run P E.w):=by
 cases h<;>simp only [trI1]at ht<;>(first|(cases ht;done)|skip)<;>(split at ht)<;>(first|(cases ht;done)|skip)<;>rename_i hd
 case mv.isTrue=>exact ((r_mv hd ht hs hf).to1 hf).com
 case pick.isTrue=>exact ((r_pick hd ht hs hf).to1 hf).com
 case new.isTrue=>exact (r_new hd ht hs hf).com
 case build.isTrue=>exact ((r_build hd ht hs hf).to1 hf).com
 case mks.isTrue=>exact (r_mks hd ht hs hf).com
 case mk.isTrue=>exact (r_mk hd ht hs hf).com
 case ld.isTrue=>exact (r_ld hd ht hs hf).com
 case ldq.isTrue=>exact ((r_ldq hd ht hs hf).to1 hf).com
 case nilc.isTrue=>exact ((r_nilc hd ht hs hf).to1 hf).com
 case bin.isTrue=>exact ((r_bin hd ht hs hf).to1 hf).com
 case eqs.isTrue=>exact ((r_eqs hd ht hs hf).to1 hf).com
 case un.isTrue=>exact ((r_un hd ht hs hf).to1 hf).com
 case sl.isTrue=>exact ((r_sl hd ht hs hf).to1 hf).com
 case ssl.isTrue=>exact ((r_ssl hd ht hs hf).to1 hf).com
 case slen.isTrue=>exact ((r_slen hd ht hs hf).to1 hf).com
 case fa.isTrue=>exact ((r_fa hd ht hs hf).to1 hf).com
 case fld.isTrue=>exact ((r_fld hd ht hs hf).to1 hf).com
 case ia.isTrue=>exact ((r_ia hd ht hs hf).to1 hf).com
 case ix.isTrue=>exact ((r_ix hd ht hs hf).to1 hf).com
 case ext.isTrue=>exact ((r_ext hd ht hs hf).to1 hf).com
 case fun.isTrue=>exact ((r_fun hd ht hs hf).to1 hf).com
 case app.isTrue=>exact (r_app hd ht hs hf).com
 case len.isTrue=>exact ((r_len hd ht hs hf).to1 hf).com
 case mx.isTrue=>exact ((r_mx hd ht hs hf).to1 hf).com
 case int.isTrue=>exact ((r_int hd ht hs hf).to1 hf).com
 case str.isTrue=>exact ((r_str hd ht hs hf).to1 hf).com
 case st.isTrue=>exact (r_st (by simpa using hd) ht hs hf).com
 case mkm.isTrue=>exact (r_mkm hd ht hs hf).com
 case mset.isTrue=>exact (r_mset (by simpa using hd) ht hs hf).com
 case mget.isTrue=>exact ((r_mget hd ht hs hf).to1 hf).com
 case men.isTrue=>exact (r_men hd ht hs hf).com
 case mes.isTrue=>exact (r_mes (by simpa using hd) ht hs hf).com
 case call.isTrue=>exact r_call hC hd ht hs hf
end
end Go.Vm
set_option autoImplicit false
set_option linter.unusedSectionVars false
set_option linter.unusedVariables false
set_option linter.unusedSimpArgs false
namespace Go.Vm
variable [Lay]
def KN(n:Nat) (E E':Env):Prop:= ∀ k:Key,k.1 < n→E'.μ k=E.μ k
theorem KN.refl {n:Nat} {E:Env}:KN n E E:=fun _ _=>rfl
theorem KN.trans {n:Nat} {E E' E'':Env} (h:KN n E E') (h':KN n E' E''):KN n E E'':=fun k hk=>(h' k hk).trans (h k hk)
theorem Keeps.kn {n:Nat} {d:Option Nat} {E E':Env} (h:Keeps d E E') (hd: ∀ t,d=some t→n≤t):KN n E E':=fun k hk=>h k fun e=>by
 have:=hd k.1 e;omega
def dstN(n:Nat) (o:Oper):Bool:=match o.dst with|some d=>decide (n≤d)|none=>true
def trI(P:Program) (N n:Nat) (ops:Array Oper) (o:Oper):AI→Option AI
 | .gd j want d i=>match o.guard with
   |some (k,w)=>if decide (w=want)&&dstN n o&&okDst N o d&&decide ((ops[k]?).bind (·.dst)=some j)then (trI1 P N o i).map (.gd j want d)else none
   |none=>none
 | .mv d h=>if o.guard.isNone&&okD N o d then trMv o d h else none
 |i=>if o.guard.isNone&&dstN n o then trI1 P N o i else none
section
variable {P:Program} {N n:Nat} {ops:Array Oper} {o:Oper} {E:Env} {c:Cnt} {st st':St} {a:Act} {call:Call} {ai:AI}
def Steps1(n N:Nat) (E:Env) (c:Cnt) (st':St) (a:Act) (dst:Option Tmp) (K:Act→World→Prop):Prop:=
 ∀ y E' c',FRel N E' st' (a.put dst y).tmps c'→KN n E E'→Keeps dst E E'→Adv E c E' c'→K (a.put dst y) E'.w
theorem put_defers(a:Act) (d:Option Nat) (v:Value):(a.put d v).defers=a.defers:=by cases d<;>rfl
theorem com_wp {Q:Exit→Act→World→Prop} {K:Act→World→Prop} (h:Com P N E c st' a o.dst ((execOp a.eval o).run P E.w)) (hd:dstN n o=true) (hK:Steps1 n N E c st' a o.dst K):o.wp P a E.w K Q:=by
 have hn: ∀ t,o.dst=some t→n≤t:=fun t ht=>by unfold dstN at hd;rw [ht]at hd;simpa using hd
 unfold Com at h
 unfold Oper.wp
 split at h
 ·rename_i f args w' he
  rw [he]
  obtain ⟨rfl,hc⟩:=h
  refine hc.mono ?_
  rintro e w'' ⟨y,E',c',rfl,rfl,h2,h3,h4⟩
  exact hK _ E' c' h3 (h2.kn hn) h2 h4
 ·rename_i hne
  unfold Comes1 at h
  split at h
  ·rename_i y w' he
   rw [he]
   obtain ⟨E',c',rfl,h2,h3,h4⟩:=h
   exact hK _ E' c' h3 (h2.kn hn) h2 h4
  ·rename_i w' he
   rw [he]
   obtain ⟨E',c',rfl,h2,h3,h4⟩:=h
   exact hK _ E' c' h3 (h2.kn hn) h2 h4
  ·exact h.elim
theorem mv_wp {Q:Exit→Act→World→Prop} {K:Act→World→Prop} {d:Nat} {h:AO} (hd:okD N o d=true) (ht:trMv o d h=some ai) (hs:astep call st ai=some st') (hf:FRel N E st a.tmps c)
 (hK:Steps1 n N E c st' a o.dst K):o.wp P a E.w K Q:=by
 obtain ⟨hd,hn⟩:=okD_some hd
 unfold trMv at ht
 unfold Oper.wp
 split at ht
 all_goals (first|(cases ht;done)|skip)
 all_goals
  rename_i x ho
  rw [Option.map_eq_some_iff]at ht
  obtain ⟨x',h1,rfl⟩:=ht
  rw [execOp];simp only [ho]
  simp only [astep,Option.map_eq_some_iff]at hs
  obtain ⟨z,hz,rfl⟩:=hs
  refine hK _ E c ?_ KN.refl Keeps.refl (Adv.refl _ _)
  rw [hd]
  exact hf.put (ev_rel hf.σ h1 hz) hn
theorem undef_rel:Rel E undefV undef c0:=by simp [undefV,undef,Rel,aggB]
theorem gd_not(call:Call) (i:AI) (h: ∀ j w d i',i ≠ .gd j w d i'):gstep call st i=astep call st i:=by
 cases i<;>first|rfl|exact absurd rfl (h _ _ _ _)
theorem trI_wp(hC:CallsOk P call) {h:AI} (ht:trI P N n ops o h=some ai) (hs:gstep call st ai=some st') (hf:FRel N E st a.tmps c) {Q:Exit→Act→World→Prop} {K:Act→World→Prop}
 (hK:Steps1 n N E c st' a o.dst K):if Region.wanted o (yielded ops a.tmps)then o.wp P a E.w K Q∨(o.asks P a E.w∧LetsOut Q)else K (a.put o.dst undef) E.w:=by
 have hplain: ∀ i,o.guard.isNone=true→dstN n o=true→trI1 P N o i=some ai→if Region.wanted o (yielded ops a.tmps)then o.wp P a E.w K Q∨(o.asks P a E.w∧LetsOut Q)else K (a.put o.dst undef) E.w:=by
  intro i hg hd hi
  have hw:Region.wanted o (yielded ops a.tmps)=true:=by
   unfold Region.wanted
   split
   ·rfl
   ·rename_i he;rw [he]at hg;cases hg
  rw [if_pos hw]
  have hng: ∀ j w d i',ai ≠ .gd j w d i':=by
   rintro j w d i' rfl
   cases i<;>simp only [trI1]at hi<;>(first|(cases hi;done)|skip)<;>(split at hi)<;>(first|(cases hi;done)|skip)<;>
    simp only [trMv,trPick,trNew,trBuild,trMks,trMk,trLd,trLdq,trNilc,trBin,trEqs,trUn,trSl,trSsl,trSlen,trFa,trFld,trIa,trIx,trExt,trFun,trApp,trLen,trMx,trInt,trStr,trSt,trCall,trMkm,trMset,trMget,trMen,trMes,opt2]at hi<;>
    (repeat' (split at hi))<;>simp_all
  rw [gd_not call ai hng]at hs
  exact .inl (com_wp (trI1_sound hC hi hs hf) hd hK)
 unfold trI at ht
 split at ht
 ·rename_i j want d i
  split at ht
  case h_2=>cases ht
  rename_i k w hg
  split at ht
  case isFalse=>cases ht
  rename_i hc
  simp only [Bool.and_eq_true,decide_eq_true_eq]at hc
  obtain ⟨⟨⟨rfl,hdn⟩,hdst⟩,hj⟩:=hc
  rw [Option.map_eq_some_iff]at ht
  obtain ⟨i',hi',rfl⟩:=ht
  simp only [okDst,Bool.and_eq_true,decide_eq_true_eq]at hdst
  obtain ⟨hod,hdN⟩:=hdst
  simp only [gstep]at hs
  have hno:(d=none→st'=st)→(∀ t,d=some t→st'=st.put t undefV)→K (a.put o.dst undef) E.w:=by
   intro h1 h2
   refine hK _ E c ?_ KN.refl Keeps.refl (Adv.refl _ _)
   rw [hod]
   cases d with
   |some d=>rw [h2 d rfl];exact hf.put undef_rel (by simpa using hdN)
   |none=>rw [h1 rfl];exact hf
  split at hs
  ·rename_i b hb
   obtain ⟨v,hv,hr⟩:=hf.σ _ _ hb
   simp only [Rel]at hr
   have hy:yielded ops a.tmps k=some b:=by simp only [yielded,hj,Option.bind_some,hv,hr.1]
   by_cases hbw:b=w
   ·subst hbw
    rw [if_pos rfl]at hs
    have hw:Region.wanted o (yielded ops a.tmps)=true:=by simp only [Region.wanted,hg,hy,beq_self_eq_true]
    rw [if_pos hw]
    exact .inl (com_wp (trI1_sound hC hi' hs hf) hdn hK)
   ·rw [if_neg hbw]at hs
    have hw:Region.wanted o (yielded ops a.tmps)=false:=by
     simp only [Region.wanted,hg,hy]
     simp [hbw]
    rw [hw,if_neg (by simp)]
    exact hno (fun e=>by subst e;simpa using hs.symm) (fun t e=>by subst e;simpa using hs.symm)
  ·rename_i x hnb hx
   obtain ⟨v,hv,hr⟩:=hf.σ _ _ hx
   simp only [Rel]at hr
   have hy:yielded ops a.tmps k=none:=by
    simp only [yielded,hj,Option.bind_some,hv,hr.1]
    cases x<;>first|rfl|exact absurd rfl (hnb _)
   have hw:Region.wanted o (yielded ops a.tmps)=false:=by
    simp only [Region.wanted,hg,hy];rfl
   rw [hw,if_neg (by simp)]
   exact hno (fun e=>by subst e;simpa using hs.symm) (fun t e=>by subst e;simpa using hs.symm)
  ·cases hs
 ·rename_i d h'
  split at ht
  case isFalse=>cases ht
  rename_i hc
  simp only [Bool.and_eq_true]at hc
  have hw:Region.wanted o (yielded ops a.tmps)=true:=by
   unfold Region.wanted
   split
   ·rfl
   ·rename_i he;have:=hc.1;rw [he]at this;cases this
  rw [if_pos hw]
  have hmv: ∃ x,ai= .mv d x:=by
   unfold trMv at ht
   split at ht<;>(first|(cases ht;done)|skip)<;>
    (rw [Option.map_eq_some_iff]at ht;obtain ⟨x',h1,rfl⟩:=ht;exact ⟨_,rfl⟩)
  obtain ⟨x,rfl⟩:=hmv
  exact .inl (mv_wp (call:=call) hc.2 ht hs hf hK)
 ·split at ht
  case isFalse=>cases ht
  rename_i hc
  simp only [Bool.and_eq_true]at hc
  exact hplain _ hc.1 hc.2 ht
end
def trOps(P:Program) (N n:Nat) (ops:Array Oper):List Oper→List AI→Option (List AI)
 |[],[]=>some []
 |o::os,h::hs=>match trI P N n ops o h,trOps P N n ops os hs with
  |some i,some is=>some (i::is)
  |_,_=>none
 |_,_=>none
end Go.Vm
set_option autoImplicit false
set_option linter.unusedSectionVars false
set_option linter.unusedSimpArgs false
set_option linter.unusedVariables false
set_option linter.unusedVariables false
namespace Go.Vm
section
variable {S:Type} (F:Nat→S→Option S)
def runL:List Nat→S→Option S
 |[],s=>some s
 |i::l,s=>match F i s with
  |some s'=>runL l s'
  |none=>none
def Swaps(j i:Nat):Prop:= ∀ s s1 s2,F j s=some s1→F i s1=some s2→ ∃ s1',F i s=some s1'∧F j s1'=some s2
theorem runL_front {i:Nat} {l2:List Nat} {s':S}: ∀ {l1:List Nat} {s:S},runL F (l1++i::l2) s=some s'→(∀ j ∈ l1,Swaps F j i)→
 ∃ s1,F i s=some s1∧runL F (l1++l2) s1=some s'
 |[],s,h,hs=>by
  simp only [List.nil_append,runL]at h
  split at h
  ·rename_i s1 h1;exact ⟨s1,h1,h⟩
  ·cases h
 |j::l1,s,h,hs=>by
  simp only [List.cons_append,runL]at h
  split at h
  case h_2=>cases h
  rename_i sj hj
  obtain ⟨si,h1,h2⟩:=runL_front h (fun k hk=>hs k (List.mem_cons_of_mem _ hk))
  obtain ⟨s1,h3,h4⟩:=hs j (List.mem_cons_self) _ _ _ hj h1
  exact ⟨s1,h3,by simp only [List.cons_append,runL,h4,h2]⟩
end
def remL(n:Nat) (listed:Array Bool):List Nat:=(List.range n).filter fun k=> !listed.getD k true
theorem remL_split {n i:Nat} {listed:Array Bool} (hs:listed.size=n) (hi:i < n) (hl:listed.getD i true=false):
 ∃ l1 l2,remL n listed=l1++i::l2∧remL n (listed.setIfInBounds i true)=l1++l2∧ ∀ j ∈ l1,j < i∧listed.getD j true=false:=by
 have hr:List.range n=List.range' 0 i++i::List.range' (i+1) (n - i - 1):=by
  rw [List.range_eq_range',show n=i+(1+(n - i - 1))by omega, ← List.range'_append_1, ← List.range'_append_1]
  simp only [Nat.zero_add,List.range'_one,List.singleton_append,List.cons_append,List.nil_append]
  congr 3
  omega
 refine ⟨(List.range' 0 i).filter fun k=> !listed.getD k true,(List.range' (i+1) (n - i - 1)).filter fun k=> !listed.getD k true, ?_, ?_, ?_⟩
 ·unfold remL
  rw [hr,List.filter_append,List.filter_cons_of_pos (by simp only [hl];rfl)]
 ·unfold remL
  have hne: ∀ k,k ≠ i→(listed.setIfInBounds i true).getD k true=listed.getD k true:=fun k hk=>getD_set_ne true (Ne.symm hk)
  have hii:(listed.setIfInBounds i true).getD i true=true:=by simp [Array.getD_eq_getD_getElem?,hs,hi]
  rw [hr,List.filter_append,List.filter_cons_of_neg (by rw [hii];decide)]
  congr 1
  ·apply List.filter_congr
   intro k hk
   rw [hne k (by have:=List.mem_range'_1.1 hk;omega)]
  ·apply List.filter_congr
   intro k hk
   rw [hne k (by have:=List.mem_range'_1.1 hk;omega)]
 ·intro j hj
  obtain ⟨h1,h2⟩:=List.mem_filter.1 hj
  exact ⟨by have:=List.mem_range'_1.1 h1;omega,by simpa using h2⟩
def direct(ops:Array Oper) (i j:Nat):Bool:=
 match ops[i]? with
 |some o=>o.after.any fun e=>Region.binds .any e&&e.on==j
 |none=>false
def okAnc(ops:Array Oper) (anc:List (List Nat)):Bool:=
 (List.range ops.size).all fun i=>(anc.getD i []).all fun j=>direct ops i j||(List.range i).any fun k=>direct ops i k&&(anc.getD k []).contains j
def okBack(ops:Array Oper):Bool:=
 (List.range ops.size).all fun i=>match ops[i]? with
  |some o=>o.after.all fun e=> !Region.binds .any e||decide (e.on < i)
  |none=>true
def Closed(ops:Array Oper) (listed:Array Bool):Prop:=
 ∀ k o,ops[k]? =some o→listed.getD k true=true→ ∀ e ∈ o.after,Region.binds .any e=true→listed.getD e.on false=true
theorem anc_listed {ops:Array Oper} {anc:List (List Nat)} {listed:Array Bool} (ha:okAnc ops anc=true) (hc:Closed ops listed):
 ∀ (i:Nat) (o:Oper),ops[i]? =some o→(∀ e ∈ o.after,Region.binds .any e=true→listed.getD e.on false=true)→ ∀ j ∈ anc.getD i [],listed.getD j false=true:=by
 intro i
 induction i using Nat.strongRecOn with
 |_ i ih=>
  intro o ho hall j hj
  have hi:i < ops.size:=(Array.getElem?_eq_some_iff.1 ho).1
  simp only [okAnc,List.all_eq_true,List.mem_range]at ha
  have h1:=ha i hi j hj
  have hd: ∀ k,direct ops i k=true→listed.getD k false=true:=by
   intro k hk
   simp only [direct,ho,Array.any_eq_true',Bool.and_eq_true,beq_iff_eq]at hk
   obtain ⟨e,he,hb,rfl⟩:=hk
   exact hall e he hb
  simp only [Bool.or_eq_true,List.any_eq_true,List.mem_range,Bool.and_eq_true,List.contains_iff_mem]at h1
  rcases h1 with h1|⟨k,hk,h2,h3⟩
  ·exact hd j h1
  ·have hkl:=hd k h2
   have hks:k < ops.size:=by omega
   refine ih k hk ops[k] (by simp [hks]) (hc k _ (by simp [hks]) ?_) j h3
   rw [Array.getD_eq_getD_getElem?]at hkl ⊢
   cases h:listed[k]? with
   |none=>rw [h]at hkl;cases hkl
   |some b=>rw [h]at hkl;simpa using hkl
theorem closed_set {ops:Array Oper} {listed:Array Bool} (hc:Closed ops listed) {i:Nat} (hr:i ∈ Region.ready .any ops listed):Closed ops (listed.setIfInBounds i true):=by
 obtain ⟨h0,o,ho,hall⟩:=mem_ready.1 hr
 intro k ok hk hl e he hb
 by_cases hki:k=i
 ·subst hki
  rw [ho]at hk;cases hk
  exact getD_set_true (hall e he hb)
 ·rw [getD_set_ne true (Ne.symm hki)]at hl
  exact getD_set_true (hc k ok hk hl e he hb)
section
variable {P:Program} {ops:Array Oper} {Q:Exit→Act→World→Prop} {S:Type} {F:Nat→S→Option S}
theorem wpAny_lex {anc:List (List Nat)} (ha:okAnc ops anc=true) (hb:okBack ops=true) (hsw: ∀ j i,j < i→i < ops.size→(anc.getD i []).contains j=false→Swaps F j i)
 (Inv:Array Bool→S→Act→World→Prop)
 (hstep: ∀ listed i s s1 a w (K:Act→World→Prop),listed.size=ops.size→i ∈ Region.ready .any ops listed→F i s=some s1→Inv listed s a w→
  (∀ a' w',Inv (listed.setIfInBounds i true) s1 a' w'→K a' w')→wpOp P ops Q i K a w)
 {s':S} (hQ: ∀ listed a w,Inv listed s' a w→Q .normal a w):
 ∀ (fuel:Nat) (listed:Array Bool) (s:S) (a:Act) (w:World),listed.size=ops.size→(remL ops.size listed).length≤fuel→Closed ops listed→
  runL F (remL ops.size listed) s=some s'→Inv listed s a w→wpAny P .any ops Q fuel listed a w:=by
 have hfirst: ∀ listed:Array Bool,listed.size=ops.size→Region.ready .any ops listed=[]→remL ops.size listed=[]:=by
  intro listed hs hr
  cases hrem:remL ops.size listed with
  |nil=>rfl
  |cons i l=>
   exfalso
   have hi:i ∈ remL ops.size listed:=by rw [hrem];exact List.mem_cons_self
   obtain ⟨hi1,hi2⟩:=List.mem_filter.1 hi
   have hin:i < ops.size:=List.mem_range.1 hi1
   have hil:listed.getD i true=false:=by simpa using hi2
   obtain ⟨l1,l2,h1,-,h3⟩:=remL_split hs hin hil
   have hl1:l1=[]:=by
    cases l1 with
    |nil=>rfl
    |cons j t=>
     exfalso
     rw [hrem]at h1
     simp only [List.cons_append,List.cons.injEq]at h1
     have:=(h3 j (List.mem_cons_self)).1
     omega
   have:i ∈ Region.ready .any ops listed:=by
    refine mem_ready.2 ⟨hil,ops[i],by simp [hin],fun e he hbe=> ?_⟩
    simp only [okBack,List.all_eq_true,List.mem_range]at hb
    have h4:=hb i hin
    simp only [hin,Array.getElem?_eq_getElem,Array.all_eq_true',Bool.or_eq_true,Bool.not_eq_true',decide_eq_true_eq]at h4
    have h5:e.on < i:=(h4 e he).resolve_left (by rw [hbe];decide)
    have hsz:e.on < listed.size:=by omega
    cases h6:listed.getD e.on true with
    |true=>simpa [Array.getD_eq_getD_getElem?,hsz]using h6
    |false=>
     exfalso
     have h7:e.on ∈ remL ops.size listed:=List.mem_filter.2 ⟨List.mem_range.2 (by omega),by rw [h6];rfl⟩
     rw [h1,hl1]at h7
     have hsorted:List.Pairwise (· < ·) (remL ops.size listed):=List.Pairwise.filter _ List.pairwise_lt_range
     rw [h1,hl1]at hsorted
     simp only [List.nil_append]at h7 hsorted
     rcases List.mem_cons.1 h7 with h8|h8
     ·omega
     ·have:=(List.pairwise_cons.1 hsorted).1 _ h8
      omega
   rw [hr]at this;cases this
 have hend: ∀ listed s a w,listed.size=ops.size→Region.ready .any ops listed=[]→runL F (remL ops.size listed) s=some s'→Inv listed s a w→Q .normal a w:=by
  intro listed s a w hs hr hrun hI
  rw [hfirst listed hs hr]at hrun
  simp only [runL,Option.some.injEq]at hrun
  subst hrun
  exact hQ _ _ _ hI
 intro fuel
 induction fuel with
 |zero=>
  intro listed s a w hs hlen hc hrun hI
  have hrem:remL ops.size listed=[]:=List.length_eq_zero_iff.1 (by omega)
  have hr:Region.ready .any ops listed=[]:=by
   rw [List.eq_nil_iff_forall_not_mem]
   intro i hi
   obtain ⟨h0,o,ho,-⟩:=mem_ready.1 hi
   have:i ∈ remL ops.size listed:=List.mem_filter.2 ⟨List.mem_range.2 (Array.getElem?_eq_some_iff.1 ho).1,by rw [h0];rfl⟩
   rw [hrem]at this;cases this
  exact ⟨hr,hend listed s a w hs hr hrun hI⟩
 |succ fuel ih=>
  intro listed s a w hs hlen hc hrun hI
  refine ⟨fun hr=>hend listed s a w hs hr hrun hI,fun i hi=> ?_⟩
  obtain ⟨h0,o,ho,hall⟩:=mem_ready.1 hi
  have hin:i < ops.size:=(Array.getElem?_eq_some_iff.1 ho).1
  obtain ⟨l1,l2,h1,h2,h3⟩:=remL_split hs hin h0
  rw [h1]at hrun
  obtain ⟨s1,hF,hrun'⟩:=runL_front F hrun (fun j hj=>by
   obtain ⟨hj1,hj2⟩:=h3 j hj
   refine hsw j i hj1 hin ?_
   cases hcon:(anc.getD i []).contains j with
   |false=>rfl
   |true=>
    exfalso
    have:=anc_listed ha hc i o ho hall j (by simpa using hcon)
    have hjs:j < listed.size:=by omega
    simp only [Array.getD_eq_getD_getElem?,hjs,Array.getElem?_eq_getElem,Option.getD_some]at this hj2
    rw [this]at hj2;cases hj2)
  refine hstep listed i s s1 a w _ hs hi hF hI ?_
  intro a' w' hI'
  refine ih _ s1 a' w' (by simpa using hs) ?_ (closed_set hc hi) (by rw [h2];exact hrun') hI'
  rw [h2];rw [h1]at hlen
  simp only [List.length_append,List.length_cons]at hlen ⊢
  omega
end
end Go.Vm
set_option autoImplicit false
set_option linter.unusedSectionVars false
set_option linter.unusedVariables false
set_option linter.unusedSimpArgs false
namespace Go.Vm
abbrev FS:=(Nat→Option V) × (Key→Option Ob)
def toFS(st:St):FS:=(getS st.σ,getK st.T)
def pickF(f:Nat→Option V):List Nat→Sl
 |[]=>[]
 |t::r=>match f t with
  |some x=>(t,x)::pickF f r
  |none=>pickF f r
def pickFK(f:Key→Option Ob):List Key→Mem
 |[]=>[]
 |k::r=>match f k with
  |some x=>(k,x)::pickFK f r
  |none=>pickFK f r
def updK(p:Dp) (d:Option Nat) (T':Mem) (g:Key→Option Ob):Key→Option Ob:=fun k=>if p.own d k then getK T' k else g k
def stepF(call:Call) (p:Dp) (i:AI) (s:FS):Option FS:=
 match gstep call {σ:=pickF s.1 (usesI i),T:=pickFK s.2 p.ks} i with
 |none=>none
 |some st'=>match dstI i with
  |none=>some (s.1,updK p none st'.T s.2)
  |some d=>match getS st'.σ d with
   |some x=>some (fun t=>if d=t then some x else s.1 t,updK p (some d) st'.T s.2)
   |none=>none
theorem pickS_F(σ:Sl): ∀ us,pickS σ us=pickF (getS σ) us
 |[]=>rfl
 |u::us=>by simp only [pickS,pickF,pickS_F σ us];rfl
theorem pickK_F(T:Mem): ∀ ks,pickK T ks=pickFK (getK T) ks
 |[]=>rfl
 |k::ks=>by simp only [pickK,pickFK,pickK_F T ks];rfl
theorem pickF_congr {f g:Nat→Option V}: ∀ {us:List Nat},(∀ u ∈ us,f u=g u)→pickF f us=pickF g us
 |[],h=>rfl
 |u::us,h=>by simp only [pickF,h u (List.mem_cons_self),pickF_congr (fun v hv=>h v (List.mem_cons_of_mem _ hv))]
theorem pickFK_congr {f g:Key→Option Ob}: ∀ {us:List Key},(∀ u ∈ us,f u=g u)→pickFK f us=pickFK g us
 |[],h=>rfl
 |u::us,h=>by simp only [pickFK,h u (List.mem_cons_self),pickFK_congr (fun v hv=>h v (List.mem_cons_of_mem _ hv))]
theorem getK_filt(f:Key→Bool): ∀ (T:Mem) (k:Key),getK (filtT f T) k=if f k then getK T k else none
 |[],k=>by simp [filtT,getK]
 |(u,x)::r,k=>by
  simp only [filtT]
  split
  ·rename_i hu
   simp only [getK,getK_filt f r k]
   split
   ·rename_i e;subst e;rw [if_pos hu]
   ·rfl
  ·rename_i hu
   simp only [getK,getK_filt f r k]
   split
   ·rename_i hk
    rw [if_neg (by rintro rfl;exact hu hk)]
   ·rfl
theorem getK_append: ∀ (A B:Mem) (k:Key),getK (A++B) k=(getK A k).or (getK B k)
 |[],B,k=>by simp [getK]
 |(u,x)::r,B,k=>by
  simp only [List.cons_append,getK,getK_append r B k]
  split<;>rfl
theorem own_zero {p:Dp} {d:Option Nat} (h:p.k=0) (k:Key):p.own d k=false:=by simp [Dp.own,h]
theorem getK_memD(p:Dp) (d:Option Nat) (T' T:Mem):getK (memD p d T' T)=updK p d T' (getK T):=by
 funext k
 unfold memD updK
 split
 ·rename_i h;rw [own_zero h];rfl
 ·rw [getK_append,getK_filt,getK_filt]
  cases p.own d k<;>simp
theorem stepD_F {call:Call} {p:Dp} {i:AI} {st st1:St} (h:stepD call p i st=some st1):stepF call p i (toFS st)=some (toFS st1):=by
 unfold stepD at h
 unfold stepF
 rw [pickS_F,pickK_F]at h
 simp only [toFS]at h ⊢
 split at h
 ·cases h
 ·rename_i st' hg
  rw [hg]
  simp only
  split at h
  ·rename_i hd
   simp only [Option.some.injEq]at h;subst h
   rw [hd]
   simp only [getK_memD]
  ·rename_i d hd
   rw [hd]
   simp only
   split at h
   ·rename_i x hx
    simp only [Option.some.injEq]at h;subst h
    rw [hx]
    simp only [getK_memD]
    rfl
   ·cases h
def offD(d:Option Nat) (us:List Nat):Bool:=match d with|some d=> !us.contains d|none=>true
def twoD(d e:Option Nat):Bool:=match d,e with|some d,some e=>d != e|_,_=>true
def swapOk(pj:Dp) (aj:AI) (pi:Dp) (ai:AI):Bool:=
 offD (dstI aj) (usesI ai)&&offD (dstI ai) (usesI aj)&&twoD (dstI aj) (dstI ai)&&pi.ks.all (fun k=> !pj.own (dstI aj) k)&&pj.ks.all (fun k=> !pi.own (dstI ai) k)
def putF(d:Option Nat) (σ':Sl) (f:Nat→Option V):Nat→Option V:=fun t=>if d=some t then getS σ' t else f t
theorem stepF_iff {call:Call} {p:Dp} {i:AI} {s s1:FS}:stepF call p i s=some s1↔
 ∃ st',gstep call {σ:=pickF s.1 (usesI i),T:=pickFK s.2 p.ks} i=some st'∧(∀ d,dstI i=some d→(getS st'.σ d).isSome=true)∧s1=(putF (dstI i) st'.σ s.1,updK p (dstI i) st'.T s.2):=by
 unfold stepF
 cases hg:gstep call {σ:=pickF s.1 (usesI i),T:=pickFK s.2 p.ks} i with
 |none=>simp
 |some st'=>
  simp only [Option.some.injEq,exists_eq_left']
  cases hd:dstI i with
  |none=>
   simp only [Option.some.injEq,reduceCtorEq,false_implies,implies_true,true_and]
   have he:putF none st'.σ s.1=s.1:=by funext t;simp [putF]
   rw [he]
   exact ⟨fun h=>h.symm,fun h=>h.symm⟩
  |some d=>
   simp only [Option.some.injEq,forall_eq']
   have he: ∀ x,getS st'.σ d=some x→(fun t=>if d=t then some x else s.1 t)=putF (some d) st'.σ s.1:=by
    intro x hx;funext t
    simp only [putF,Option.some.injEq]
    split
    ·rename_i e;subst e;exact hx.symm
    ·rfl
   cases hx:getS st'.σ d with
   |none=>simp
   |some x=>
    simp only [Option.some.injEq,Option.isSome_some,true_and]
    rw [he x hx]
    exact ⟨fun h=>h.symm,fun h=>h.symm⟩
theorem swaps_ok {call:Call} {pj pi:Dp} {aj ai:AI} (h:swapOk pj aj pi ai=true) {s s1 s2:FS} (h1:stepF call pj aj s=some s1) (h2:stepF call pi ai s1=some s2):
 ∃ s1',stepF call pi ai s=some s1'∧stepF call pj aj s1'=some s2:=by
 simp only [swapOk,Bool.and_eq_true,List.all_eq_true,Bool.not_eq_true']at h
 obtain ⟨⟨⟨⟨hu1,hu2⟩,hdd⟩,hk1⟩,hk2⟩:=h
 obtain ⟨stj,g1,x1,rfl⟩:=stepF_iff.1 h1
 obtain ⟨sti,g2,x2,rfl⟩:=stepF_iff.1 h2
 have off: ∀ (d:Option Nat) (us:List Nat) (σ':Sl) (f:Nat→Option V),offD d us=true→ ∀ u ∈ us,putF d σ' f u=f u:=by
  intro d us σ' f ho u hu
  unfold putF
  rw [if_neg]
  rintro rfl
  simp only [offD,Bool.not_eq_true',List.contains_eq_mem,decide_eq_false_iff_not]at ho
  exact ho hu
 have upd: ∀ (p:Dp) (d:Option Nat) (T':Mem) (g:Key→Option Ob) (k:Key),p.own d k=false→updK p d T' g k=g k:=by
  intro p d T' g k hk;simp [updK,hk]
 have e1:pickF (putF (dstI aj) stj.σ s.1) (usesI ai)=pickF s.1 (usesI ai):=pickF_congr (off _ _ _ _ hu1)
 have e2:pickFK (updK pj (dstI aj) stj.T s.2) pi.ks=pickFK s.2 pi.ks:=pickFK_congr fun k hk=>upd _ _ _ _ _ (hk1 k hk)
 have e3:pickF (putF (dstI ai) sti.σ s.1) (usesI aj)=pickF s.1 (usesI aj):=pickF_congr (off _ _ _ _ hu2)
 have e4:pickFK (updK pi (dstI ai) sti.T s.2) pj.ks=pickFK s.2 pj.ks:=pickFK_congr fun k hk=>upd _ _ _ _ _ (hk2 k hk)
 simp only [e1,e2]at g2
 refine ⟨(putF (dstI ai) sti.σ s.1,updK pi (dstI ai) sti.T s.2),stepF_iff.2 ⟨sti,g2,x2,rfl⟩,stepF_iff.2 ⟨stj,by simp only [e3,e4];exact g1,x1, ?_⟩⟩
 refine Prod.ext (funext fun t=> ?_) (funext fun k=> ?_)
 ·simp only [putF]
  by_cases a1:dstI aj=some t
  ·by_cases a2:dstI ai=some t
   ·exfalso;rw [a1,a2]at hdd;simp [twoD]at hdd
   ·rw [if_neg a2,if_pos a1,if_pos a1]
  ·rw [if_neg a1,if_neg a1]
 ·simp only [updK]
  cases b1:pj.own (dstI aj) k with
  |false=>rfl
  |true=>
   cases b2:pi.own (dstI ai) k with
   |false=>rfl
   |true=>
    exfalso
    have c1:=b1;have c2:=b2
    simp only [Dp.own,Bool.or_eq_true,Bool.and_eq_true,List.contains_iff_mem,beq_iff_eq,bne_iff_ne]at b1 b2
    rcases b1 with ⟨-,b1⟩|⟨-,b1⟩
    ·rw [hk2 k b1]at c2;cases c2
    ·rcases b2 with ⟨-,b2⟩|⟨-,b2⟩
     ·rw [hk1 k b2]at c1;cases c1
     ·rw [b1,b2]at hdd;simp [twoD]at hdd
end Go.Vm
set_option autoImplicit false
set_option linter.unusedSectionVars false
set_option linter.unusedVariables false
set_option linter.unusedSimpArgs false
namespace Go.Vm
variable [Lay]
def quietI:AI→Bool
 | .mv .. | .pick .. | .build .. | .ldq .. | .nilc .. | .bin .. | .eqs .. | .un .. | .sl .. | .ssl .. | .slen .. | .fa .. | .fld .. | .ia .. | .ix .. | .ext .. | .fun .. | .len .. | .mx .. | .int .. | .str .. | .mget .. =>true
 |_=>false
def roI:AI→Bool
 | .call _ _ _ (.ro _)=>true
 |_=>false
def baseI:AI→AI
 | .gd _ _ _ i=>i
 |i=>i
section
variable {P:Program} {N n:Nat} {ops:Array Oper} {o:Oper} {E:Env} {c:Cnt} {st st':St} {a:Act} {call:Call} {ai h:AI}
theorem trI1_quiet(hq:quietI h=true) (ht:trI1 P N o h=some ai) (hs:astep call st ai=some st') (hf:FRel N E st a.tmps c):
 ComesQ N E st st' o.dst ((execOp a.eval o).run P E.w):=by
 cases h<;>simp only [quietI]at hq<;>(first|(cases hq;done)|skip)<;>simp only [trI1]at ht<;>(split at ht)<;>(first|(cases ht;done)|skip)<;>rename_i hd
 case mv.isTrue=>exact r_mv hd ht hs hf
 case pick.isTrue=>exact r_pick hd ht hs hf
 case build.isTrue=>exact r_build hd ht hs hf
 case ldq.isTrue=>exact r_ldq hd ht hs hf
 case nilc.isTrue=>exact r_nilc hd ht hs hf
 case bin.isTrue=>exact r_bin hd ht hs hf
 case eqs.isTrue=>exact r_eqs hd ht hs hf
 case un.isTrue=>exact r_un hd ht hs hf
 case sl.isTrue=>exact r_sl hd ht hs hf
 case ssl.isTrue=>exact r_ssl hd ht hs hf
 case slen.isTrue=>exact r_slen hd ht hs hf
 case fa.isTrue=>exact r_fa hd ht hs hf
 case fld.isTrue=>exact r_fld hd ht hs hf
 case ia.isTrue=>exact r_ia hd ht hs hf
 case ix.isTrue=>exact r_ix hd ht hs hf
 case ext.isTrue=>exact r_ext hd ht hs hf
 case fun.isTrue=>exact r_fun hd ht hs hf
 case len.isTrue=>exact r_len hd ht hs hf
 case mx.isTrue=>exact r_mx hd ht hs hf
 case int.isTrue=>exact r_int hd ht hs hf
 case str.isTrue=>exact r_str hd ht hs hf
 case mget.isTrue=>exact r_mget hd ht hs hf
theorem comesQ_wp {Q:Exit→Act→World→Prop} {K:Act→World→Prop} (h:ComesQ N E st st' o.dst ((execOp a.eval o).run P E.w))
 (hK: ∀ d x y,o.dst=some d→d < N→st'=st.put d x→Rel E x y c0→K (a.put o.dst y) E.w):o.wp P a E.w K Q:=by
 obtain ⟨d,x,y,hd,hn,hr,hs,hx⟩:=h
 unfold Oper.wp
 rw [hr]
 exact hK d x y hd hn hs hx
theorem trI1_dst(ht:trI1 P N o h=some ai):dstI ai=o.dst:=by
 cases h<;>simp only [trI1]at ht<;>(first|(cases ht;done)|skip)<;>(split at ht)<;>(first|(cases ht;done)|skip)<;>rename_i hd
 case st.isTrue=>
  have hd':o.dst=none:=by simpa using hd
  unfold trSt at ht
  (repeat' (split at ht))<;>simp_all [dstI]
  subst ht;simp [dstI]
 case mset.isTrue=>
  have hd':o.dst=none:=by simpa using hd
  unfold trMset at ht
  (repeat' (split at ht))<;>simp_all [dstI]<;>(subst ht;simp [dstI])
 case mes.isTrue=>
  have hd':o.dst=none:=by simpa using hd
  unfold trMes at ht
  (repeat' (split at ht))<;>simp_all [dstI]
  subst ht;simp [dstI]
 case call.isTrue=>
  simp only [okDst,Bool.and_eq_true,decide_eq_true_eq]at hd
  unfold trCall at ht
  split at ht
  case h_2=>cases ht
  split at ht
  case h_2=>cases ht
  obtain ⟨x,y,-,-,rfl⟩:=opt2_some ht
  simp only [dstI];exact hd.1.symm
 all_goals
  rw [(okD_some hd).1]
  simp only [trMv,trPick,trNew,trBuild,trMks,trMk,trLd,trLdq,trNilc,trBin,trEqs,trUn,trSl,trSsl,trSlen,trFa,trFld,trIa,trIx,trExt,trFun,trApp,trLen,trMx,trInt,trStr,trMkm,trMget,trMen,opt2]at ht
  (repeat' (split at ht))<;>(first|(cases ht;done)|skip)<;>simp only [Option.map_eq_some_iff,Option.some.injEq]at ht<;>
   (first|(subst ht;rfl)|(obtain ⟨x,-,rfl⟩:=ht;rfl))
theorem trI_cases(ht:trI P N n ops o h=some ai) (hs:gstep call st ai=some st') (hf:FRel N E st a.tmps c):
 dstI ai=o.dst∧((Region.wanted o (yielded ops a.tmps)=false∧(o.dst=none→st'=st)∧(∀ d,o.dst=some d→d < N∧st'=st.put d undefV))∨
 (Region.wanted o (yielded ops a.tmps)=true∧ ∃ ai1,trI1 P N o (baseI h)=some ai1∧astep call st ai1=some st')):=by
 have hwant:o.guard.isNone=true→Region.wanted o (yielded ops a.tmps)=true:=by
  intro hg
  unfold Region.wanted
  split
  ·rfl
  ·rename_i he;rw [he]at hg;cases hg
 have hplain: ∀ i,o.guard.isNone=true→trI1 P N o i=some ai→Region.wanted o (yielded ops a.tmps)=true∧ ∃ ai1,trI1 P N o i=some ai1∧astep call st ai1=some st':=by
  intro i hg hi
  refine ⟨hwant hg,ai,hi, ?_⟩
  have hng: ∀ j w d i',ai ≠ .gd j w d i':=by
   rintro j w d i' rfl
   cases i<;>simp only [trI1]at hi<;>(first|(cases hi;done)|skip)<;>(split at hi)<;>(first|(cases hi;done)|skip)<;>
    simp only [trMv,trPick,trNew,trBuild,trMks,trMk,trLd,trLdq,trNilc,trBin,trEqs,trUn,trSl,trSsl,trSlen,trFa,trFld,trIa,trIx,trExt,trFun,trApp,trLen,trMx,trInt,trStr,trSt,trCall,trMkm,trMset,trMget,trMen,trMes,opt2]at hi<;>
    (repeat' (split at hi))<;>simp_all
  rw [gd_not call ai hng]at hs
  exact hs
 unfold trI at ht
 split at ht
 ·rename_i j want d i
  split at ht
  case h_2=>cases ht
  rename_i k w hg
  split at ht
  case isFalse=>cases ht
  rename_i hc
  simp only [Bool.and_eq_true,decide_eq_true_eq]at hc
  obtain ⟨⟨⟨rfl,hdn⟩,hdst⟩,hj⟩:=hc
  rw [Option.map_eq_some_iff]at ht
  obtain ⟨i',hi',rfl⟩:=ht
  simp only [okDst,Bool.and_eq_true,decide_eq_true_eq]at hdst
  obtain ⟨hod,hdN⟩:=hdst
  refine ⟨by simp only [dstI];exact hod.symm, ?_⟩
  simp only [gstep]at hs
  have hno:(d=none→st'=st)→(∀ t,d=some t→st'=st.put t undefV)→(o.dst=none→st'=st)∧(∀ d,o.dst=some d→d < N∧st'=st.put d undefV):=by
   intro h1 h2
   rw [hod]
   refine ⟨h1,fun t e=>⟨?_,h2 t e⟩⟩
   subst e;simpa using hdN
  split at hs
  ·rename_i b hb
   obtain ⟨v,hv,hr⟩:=hf.σ _ _ hb
   simp only [Rel]at hr
   have hy:yielded ops a.tmps k=some b:=by simp only [yielded,hj,Option.bind_some,hv,hr.1]
   by_cases hbw:b=w
   ·subst hbw
    rw [if_pos rfl]at hs
    exact .inr ⟨by simp only [Region.wanted,hg,hy,beq_self_eq_true],i',hi',hs⟩
   ·rw [if_neg hbw]at hs
    refine .inl ⟨by simp only [Region.wanted,hg,hy];simp [hbw], ?_⟩
    exact hno (fun e=>by subst e;simpa using hs.symm) (fun t e=>by subst e;simpa using hs.symm)
  ·rename_i x hnb hx
   obtain ⟨v,hv,hr⟩:=hf.σ _ _ hx
   simp only [Rel]at hr
   have hy:yielded ops a.tmps k=none:=by
    simp only [yielded,hj,Option.bind_some,hv,hr.1]
    cases x<;>first|rfl|exact absurd rfl (hnb _)
   refine .inl ⟨by simp only [Region.wanted,hg,hy];rfl, ?_⟩
   exact hno (fun e=>by subst e;simpa using hs.symm) (fun t e=>by subst e;simpa using hs.symm)
  ·cases hs
 ·rename_i d h'
  split at ht
  case isFalse=>cases ht
  rename_i hc
  simp only [Bool.and_eq_true]at hc
  have hi:trI1 P N o (.mv d h')=some ai:=by simp only [trI1,hc.2,if_true];exact ht
  exact ⟨trI1_dst hi,.inr (hplain _ hc.1 hi)⟩
 ·rename_i i hn1 hn2
  split at ht
  case isFalse=>cases ht
  rename_i hc
  simp only [Bool.and_eq_true]at hc
  have hb:baseI h=h:=by cases h<;>first|rfl|exact absurd rfl (hn1 _ _ _ _)
  rw [hb]
  exact ⟨trI1_dst ht,.inr (hplain _ hc.1 ht)⟩
end
end Go.Vm
set_option autoImplicit false
set_option linter.unusedSectionVars false
set_option linter.unusedVariables false
set_option linter.unusedSimpArgs false
namespace Go.Vm
variable [Lay]
section
variable {E:Env}
theorem tRel_filt(f:Key→Bool): ∀ {T:Mem} {c:Cnt},TRel E T c→ ∃ c',TRel E (filtT f T) c'∧cle c' c
 |[],c,h=>⟨c,h,cle_refl _⟩
 |(k,ob)::r,c,h=>by
  obtain ⟨c1,c2,h1,h2,rfl⟩:=h
  obtain ⟨c3,h3,h4⟩:=tRel_filt f h2
  simp only [filtT]
  split
  ·exact ⟨cadd c1 c3,⟨c1,c3,h1,h3,rfl⟩,cle_add (cle_refl _) h4⟩
  ·exact ⟨c3,h3,cle_trans h4 (cle_right _ _)⟩
theorem getK_del_ne: ∀ {T:Mem} {k k':Key},k' ≠ k→getK (delK T k) k'=getK T k'
 |[],k,k',h=>rfl
 |(u,x)::r,k,k',h=>by
  simp only [delK]
  split
  ·rename_i e;subst e
   simp only [getK];rw [if_neg (Ne.symm h)]
  ·simp only [getK,getK_del_ne h]
theorem filt_filt(f g:Key→Bool): ∀ T:Mem,filtT f (filtT g T)=filtT (fun u=>g u&&f u) T
 |[]=>rfl
 |(k,x)::r=>by
  by_cases hg:g k=true
  ·by_cases hf:f k=true
   ·simp [filtT,hg,hf,filt_filt f g r]
   ·simp [filtT,hg,hf,filt_filt f g r]
  ·simp [filtT,hg,filt_filt f g r]
theorem filt_del {f:Key→Bool} {k:Key} (h:f k=false): ∀ {T:Mem},filtT f (delK T k)=filtT f T
 |[]=>rfl
 |(u,x)::r=>by
  simp only [delK]
  split
  ·rename_i e;subst e
   simp only [filtT,h,Bool.false_eq_true,if_false]
  ·simp only [filtT,filt_del h]
theorem tRel_splitK: ∀ (ks:List Key) {L:Mem} {c:Cnt},ks.Nodup→TRel E L c→
 ∃ c1 c2,TRel E (pickFK (getK L) ks) c1∧TRel E (filtT (fun k=> !ks.contains k) L) c2∧cle (cadd c1 c2) c
 |[],L,c,hn,h=>by
  obtain ⟨c2,h2,h3⟩:=tRel_filt (fun k=> !([]:List Key).contains k) h
  exact ⟨c0,c2,rfl,h2,by rw [c0_cadd];exact h3⟩
 |k::ks,L,c,hn,h=>by
  obtain ⟨hk,hn⟩:=List.nodup_cons.1 hn
  cases hg:getK L k with
  |none=>
   obtain ⟨c1,c2,h1,h2,h3⟩:=tRel_splitK ks hn h
   refine ⟨c1,c2,by simp only [pickFK,hg];exact h1, ?_,h3⟩
   have:filtT (fun u=> !(k::ks).contains u) L=filtT (fun u=> !ks.contains u) L:=by
    clear h h1 h2
    induction L with
    |nil=>rfl
    |cons x r ih=>
     obtain ⟨u,y⟩:=x
     simp only [getK]at hg
     split at hg
     ·cases hg
     ·rename_i hu
      simp only [filtT,ih hg]
      have:(k::ks).contains u=ks.contains u:=by
       simp only [List.contains_cons]
       have:(u==k)=false:=by simpa using hu
       rw [this,Bool.false_or]
      rw [this]
   rw [this];exact h2
  |some ob=>
   obtain ⟨d1,d2,ho,hr,rfl⟩:=tRel_get h hg
   obtain ⟨c1,c2,h1,h2,h3⟩:=tRel_splitK ks hn hr
   obtain ⟨c3,h4,h5⟩:=tRel_filt (fun u=>u != k) h2
   refine ⟨cadd d1 c1,c3, ?_, ?_,fun b=>by have:=h3 b;have:=h5 b;simp only [cadd]at*;omega⟩
   ·simp only [pickFK,hg]
    refine ⟨d1,c1,ho, ?_,rfl⟩
    rw [pickFK_congr (g:=getK (delK L k)) (fun u hu=>(getK_del_ne (by rintro rfl;exact hk hu)).symm)]
    exact h1
   ·have:filtT (fun u=> !(k::ks).contains u) L=filtT (fun u=>u != k) (filtT (fun u=> !ks.contains u) (delK L k)):=by
     rw [filt_filt,filt_del (by simp)]
     congr 1
     funext u
     simp only [List.contains_cons,Bool.not_or,bne]
     exact Bool.and_comm _ _
    rw [this];exact h4
theorem tRel_same: ∀ {T:Mem} {L:Mem} {c:Cnt},nodupK T=true→TRel E L c→(∀ k x,getK T k=some x→getK L k=some x)→ ∃ c',TRel E T c'∧cle c' c
 |[],L,c,hn,h,hs=>⟨c0,rfl,fun _=>Nat.zero_le _⟩
 |(k,ob)::r,L,c,hn,h,hs=>by
  simp only [nodupK,Bool.and_eq_true,Option.isNone_iff_eq_none]at hn
  have hg:getK L k=some ob:=hs k ob (by simp [getK])
  obtain ⟨d1,d2,ho,hr,rfl⟩:=tRel_get h hg
  obtain ⟨c',h1,h2⟩:=tRel_same (T:=r) hn.2 hr (fun u x hu=>by
   have hne:u ≠ k:=by rintro rfl;rw [hn.1]at hu;cases hu
   rw [getK_del_ne hne]
   exact hs u x (by simp only [getK];rw [if_neg (Ne.symm hne)];exact hu))
  exact ⟨cadd d1 c',⟨d1,c',ho,h1,rfl⟩,cle_add (cle_refl _) h2⟩
end
end Go.Vm
