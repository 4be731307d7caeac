import Derived.Test.YtbbkmeicdhnihaaDoorT04
import Derived.Test.YtbbkmeicdhnihaaDoorT05
import Derived.Test.YtbbkmeicdhnihaaDoorProg
import Derived.KernelRfl
set_option autoImplicit false
set_option maxRecDepth 100000
set_option maxHeartbeats 8000000
namespace Go.Vm
open Go.Proofs
theorem qhJ:qD Tryd.prog Tryd.f3 jI=some jI:=by kernel_rfl
theorem qhT:qD Tryd.prog Tryd.f4 ji=some ji:=by kernel_rfl
theorem qh3:qD Tryd.prog Tryd.f5 jj=some jj:=by kernel_rfl
theorem qhW:qD Tryd.prog Tryd.f6 Zh=some Zh:=by kernel_rfl
theorem qhL:qD Tryd.prog Tryd.f8 Zb=some Zb:=by kernel_rfl
theorem qhK:qD Tryd.prog Tryd.f9 jh=some jh:=by kernel_rfl
theorem qhP:qD Tryd.prog Tryd.f10 Ze=some Ze:=by kernel_rfl
theorem qhQ:qD Tryd.prog Tryd.f11 Zf=some Zf:=by kernel_rfl
theorem qhN:qD Tryd.prog Tryd.f12 Zc=some Zc:=by kernel_rfl
theorem qhU:qD Tryd.prog Tryd.f13 jJ=some jJ:=by kernel_rfl
theorem qii:qD Tryd.prog Tryd.f14 jl=some jl:=by kernel_rfl
theorem qij:qD Tryd.prog Tryd.f15 Zq=some Zq:=by kernel_rfl
theorem qhX:qD Tryd.prog Tryd.f16 Zi=some Zi:=by kernel_rfl
theorem qhx:qD Tryd.prog Tryd.f17 yW=some yW:=by kernel_rfl
theorem qhB:qD Tryd.prog Tryd.f18 jH=some jH:=by kernel_rfl
theorem qhM:qD Tryd.prog Tryd.f19 XN=some XN:=by kernel_rfl
theorem qhR:qD Tryd.prog Tryd.f20 Zg=some Zg:=by kernel_rfl
theorem qhO:qD Tryd.prog Tryd.f21 Zd=some Zd:=by kernel_rfl
theorem qhV:qD Tryd.prog Tryd.f22 XO=some XO:=by kernel_rfl
theorem qh4:qD Tryd.prog Tryd.f23 Zl=some Zl:=by kernel_rfl
theorem qif:qD Tryd.prog Tryd.f24 jM=some jM:=by kernel_rfl
theorem qik:qD Tryd.prog Tryd.f25 Zr=some Zr:=by kernel_rfl
theorem qhY:qD Tryd.prog Tryd.f26 Zj=some Zj:=by kernel_rfl
theorem qhy:qD Tryd.prog Tryd.f27 jG=some jG:=by kernel_rfl
theorem qhz:qD Tryd.prog Tryd.f28 Qf=some Qf:=by kernel_rfl
theorem qhv:qD Tryd.prog Tryd.f29 Q4=some Q4:=by kernel_rfl
theorem qhC:qD Tryd.prog Tryd.f30 Q7=some Q7:=by kernel_rfl
theorem qhA:qD Tryd.prog Tryd.f31 Q6=some Q6:=by kernel_rfl
theorem qhH:qD Tryd.prog Tryd.f32 Q9=some Q9:=by kernel_rfl
theorem qhS:qD Tryd.prog Tryd.f33 Qi=some Qi:=by kernel_rfl
theorem qih:qD Tryd.prog Tryd.f34 jN=some jN:=by kernel_rfl
theorem qh9:qD Tryd.prog Tryd.f35 Zo=some Zo:=by kernel_rfl
theorem qie:qD Tryd.prog Tryd.f36 Qm=some Qm:=by kernel_rfl
theorem qhw:qD Tryd.prog Tryd.f37 Q5=some Q5:=by kernel_rfl
theorem qhG:qD Tryd.prog Tryd.f38 zy=some zy:=by kernel_rfl
theorem qhZ:qD Tryd.prog Tryd.f39 Zk=some Zk:=by kernel_rfl
theorem qhF:qD Tryd.prog Tryd.f40 Qh=some Qh:=by kernel_rfl
theorem qhD:qD Tryd.prog Tryd.f41 Q8=some Q8:=by kernel_rfl
theorem qh6:qD Tryd.prog Tryd.f42 Qk=some Qk:=by kernel_rfl
theorem qig:qD Tryd.prog Tryd.f43 xN=some xN:=by kernel_rfl
theorem qhI:qD Tryd.prog Tryd.f45 Za=some Za:=by kernel_rfl
theorem qhE:qD Tryd.prog Tryd.f46 Qg=some Qg:=by kernel_rfl
theorem qh0:qD Tryd.prog Tryd.f47 Qj=some Qj:=by kernel_rfl
theorem qia:qD Tryd.prog Tryd.f48 Zp=some Zp:=by kernel_rfl
theorem qid:qD Tryd.prog Tryd.f49 jk=some jk:=by kernel_rfl
theorem qh5:qD Tryd.prog Tryd.f50 jL=some jL:=by kernel_rfl
theorem qh1:qD Tryd.prog Tryd.f51 zk=some zk:=by kernel_rfl
theorem qic:qD Tryd.prog Tryd.f53 yl=some yl:=by kernel_rfl
theorem qh2:qD Tryd.prog Tryd.f54 jK=some jK:=by kernel_rfl
theorem qh8:qD Tryd.prog Tryd.f56 Zn=some Zn:=by kernel_rfl
theorem qib:qD Tryd.prog Tryd.f57 Ql=some Ql:=by kernel_rfl
theorem qh7:qD Tryd.prog Tryd.f58 Zm=some Zm:=by kernel_rfl
theorem qim:jR Tryd.prog KY:=by
 intro f e h
 unfold KY at h
 split at h
 ·simp only [Option.some.injEq]at h;subst h;exact ⟨Tryd.f3,jI,Tryd.func3,qhJ⟩
 ·simp only [Option.some.injEq]at h;subst h;exact ⟨Tryd.f4,ji,Tryd.func4,qhT⟩
 ·simp only [Option.some.injEq]at h;subst h;exact ⟨Tryd.f5,jj,Tryd.func5,qh3⟩
 ·simp only [Option.some.injEq]at h;subst h;exact ⟨Tryd.f6,Zh,Tryd.func6,qhW⟩
 ·simp only [Option.some.injEq]at h;subst h;exact ⟨Tryd.f8,Zb,Tryd.func8,qhL⟩
 ·simp only [Option.some.injEq]at h;subst h;exact ⟨Tryd.f9,jh,Tryd.func9,qhK⟩
 ·simp only [Option.some.injEq]at h;subst h;exact ⟨Tryd.f10,Ze,Tryd.func10,qhP⟩
 ·simp only [Option.some.injEq]at h;subst h;exact ⟨Tryd.f11,Zf,Tryd.func11,qhQ⟩
 ·simp only [Option.some.injEq]at h;subst h;exact ⟨Tryd.f12,Zc,Tryd.func12,qhN⟩
 ·simp only [Option.some.injEq]at h;subst h;exact ⟨Tryd.f13,jJ,Tryd.func13,qhU⟩
 ·simp only [Option.some.injEq]at h;subst h;exact ⟨Tryd.f14,jl,Tryd.func14,qii⟩
 ·simp only [Option.some.injEq]at h;subst h;exact ⟨Tryd.f15,Zq,Tryd.func15,qij⟩
 ·simp only [Option.some.injEq]at h;subst h;exact ⟨Tryd.f16,Zi,Tryd.func16,qhX⟩
 ·simp only [Option.some.injEq]at h;subst h;exact ⟨Tryd.f17,yW,Tryd.func17,qhx⟩
 ·simp only [Option.some.injEq]at h;subst h;exact ⟨Tryd.f18,jH,Tryd.func18,qhB⟩
 ·simp only [Option.some.injEq]at h;subst h;exact ⟨Tryd.f19,XN,Tryd.func19,qhM⟩
 ·simp only [Option.some.injEq]at h;subst h;exact ⟨Tryd.f20,Zg,Tryd.func20,qhR⟩
 ·simp only [Option.some.injEq]at h;subst h;exact ⟨Tryd.f21,Zd,Tryd.func21,qhO⟩
 ·simp only [Option.some.injEq]at h;subst h;exact ⟨Tryd.f22,XO,Tryd.func22,qhV⟩
 ·simp only [Option.some.injEq]at h;subst h;exact ⟨Tryd.f23,Zl,Tryd.func23,qh4⟩
 ·simp only [Option.some.injEq]at h;subst h;exact ⟨Tryd.f24,jM,Tryd.func24,qif⟩
 ·simp only [Option.some.injEq]at h;subst h;exact ⟨Tryd.f25,Zr,Tryd.func25,qik⟩
 ·simp only [Option.some.injEq]at h;subst h;exact ⟨Tryd.f26,Zj,Tryd.func26,qhY⟩
 ·simp only [Option.some.injEq]at h;subst h;exact ⟨Tryd.f27,jG,Tryd.func27,qhy⟩
 ·simp only [Option.some.injEq]at h;subst h;exact ⟨Tryd.f28,Qf,Tryd.func28,qhz⟩
 ·simp only [Option.some.injEq]at h;subst h;exact ⟨Tryd.f29,Q4,Tryd.func29,qhv⟩
 ·simp only [Option.some.injEq]at h;subst h;exact ⟨Tryd.f30,Q7,Tryd.func30,qhC⟩
 ·simp only [Option.some.injEq]at h;subst h;exact ⟨Tryd.f31,Q6,Tryd.func31,qhA⟩
 ·simp only [Option.some.injEq]at h;subst h;exact ⟨Tryd.f32,Q9,Tryd.func32,qhH⟩
 ·simp only [Option.some.injEq]at h;subst h;exact ⟨Tryd.f33,Qi,Tryd.func33,qhS⟩
 ·simp only [Option.some.injEq]at h;subst h;exact ⟨Tryd.f34,jN,Tryd.func34,qih⟩
 ·simp only [Option.some.injEq]at h;subst h;exact ⟨Tryd.f35,Zo,Tryd.func35,qh9⟩
 ·simp only [Option.some.injEq]at h;subst h;exact ⟨Tryd.f36,Qm,Tryd.func36,qie⟩
 ·simp only [Option.some.injEq]at h;subst h;exact ⟨Tryd.f37,Q5,Tryd.func37,qhw⟩
 ·simp only [Option.some.injEq]at h;subst h;exact ⟨Tryd.f38,zy,Tryd.func38,qhG⟩
 ·simp only [Option.some.injEq]at h;subst h;exact ⟨Tryd.f39,Zk,Tryd.func39,qhZ⟩
 ·simp only [Option.some.injEq]at h;subst h;exact ⟨Tryd.f40,Qh,Tryd.func40,qhF⟩
 ·simp only [Option.some.injEq]at h;subst h;exact ⟨Tryd.f41,Q8,Tryd.func41,qhD⟩
 ·simp only [Option.some.injEq]at h;subst h;exact ⟨Tryd.f42,Qk,Tryd.func42,qh6⟩
 ·simp only [Option.some.injEq]at h;subst h;exact ⟨Tryd.f43,xN,Tryd.func43,qig⟩
 ·simp only [Option.some.injEq]at h;subst h;exact qhs
 ·simp only [Option.some.injEq]at h;subst h;exact ⟨Tryd.f45,Za,Tryd.func45,qhI⟩
 ·simp only [Option.some.injEq]at h;subst h;exact ⟨Tryd.f46,Qg,Tryd.func46,qhE⟩
 ·simp only [Option.some.injEq]at h;subst h;exact ⟨Tryd.f47,Qj,Tryd.func47,qh0⟩
 ·simp only [Option.some.injEq]at h;subst h;exact ⟨Tryd.f48,Zp,Tryd.func48,qia⟩
 ·simp only [Option.some.injEq]at h;subst h;exact ⟨Tryd.f49,jk,Tryd.func49,qid⟩
 ·simp only [Option.some.injEq]at h;subst h;exact ⟨Tryd.f50,jL,Tryd.func50,qh5⟩
 ·simp only [Option.some.injEq]at h;subst h;exact ⟨Tryd.f51,zk,Tryd.func51,qh1⟩
 ·simp only [Option.some.injEq]at h;subst h;exact ⟨Tryd.f53,yl,Tryd.func53,qic⟩
 ·cases h
theorem qin:jR Tryd.prog qaW:=by
 intro f e h
 unfold qaW at h
 split at h
 ·simp only [Option.some.injEq]at h;subst h;exact ⟨Tryd.f54,jK,Tryd.func54,qh2⟩
 ·simp only [Option.some.injEq]at h;subst h;exact ⟨Tryd.f56,Zn,Tryd.func56,qh8⟩
 ·simp only [Option.some.injEq]at h;subst h;exact ⟨Tryd.f57,Ql,Tryd.func57,qib⟩
 ·simp only [Option.some.injEq]at h;subst h;exact ⟨Tryd.f58,Zm,Tryd.func58,qh7⟩
 ·cases h
theorem qdC:jR Tryd.prog qj:=by
 intro f e h
 unfold qj at h
 cases h0:KY f with
 |some x=>rw [h0]at h;cases h;exact qim f e h0
 |none=>
 rw [h0]at h
 simp only at h
 exact qin f e h
end Go.Vm
