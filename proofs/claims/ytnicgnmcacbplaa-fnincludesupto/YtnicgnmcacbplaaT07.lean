import Derived.Test.YtnicgnmcacbplaaT04
import Derived.Test.YtnicgnmcacbplaaT06
import Derived.Test.YtnicgnmcacbplaaProg
import Derived.KernelRfl
set_option autoImplicit false
set_option maxRecDepth 100000
set_option maxHeartbeats 8000000
namespace Go.Vm
open Go.Proofs
theorem qlp:qw Try.prog Try.f3 jL=some jL:=by kernel_rfl
theorem qlq:qw Try.prog Try.f4 Ya=some Ya:=by kernel_rfl
theorem qlw:qw Try.prog Try.f5 Yd=some Yd:=by kernel_rfl
theorem qkO:qw Try.prog Try.f7 ZW=some ZW:=by kernel_rfl
theorem qkL:qw Try.prog Try.f8 ZU=some ZU:=by kernel_rfl
theorem qlx:qw Try.prog Try.f9 Za=some Za:=by kernel_rfl
theorem qkP:qw Try.prog Try.f10 ZX=some ZX:=by kernel_rfl
theorem qlr:qw Try.prog Try.f11 Q7=some Q7:=by kernel_rfl
theorem qlN:qw Try.prog Try.f12 Ze=some Ze:=by kernel_rfl
theorem qlt:qw Try.prog Try.f14 Yc=some Yc:=by kernel_rfl
theorem qk1:qw Try.prog Try.f15 Q2=some Q2:=by kernel_rfl
theorem qkN:qw Try.prog Try.f16 QY=some QY:=by kernel_rfl
theorem qlh:qw Try.prog Try.f17 Z4=some Z4:=by kernel_rfl
theorem qls:qw Try.prog Try.f18 Yb=some Yb:=by kernel_rfl
theorem qkM:qw Try.prog Try.f19 ZV=some ZV:=by kernel_rfl
theorem qkS:qw Try.prog Try.f20 QZ=some QZ:=by kernel_rfl
theorem qk2:qw Try.prog Try.f21 Z1=some Z1:=by kernel_rfl
theorem qk8:qw Try.prog Try.f22 jK=some jK:=by kernel_rfl
theorem qlE:qw Try.prog Try.f23 Yh=some Yh:=by kernel_rfl
theorem qlG:qw Try.prog Try.f24 Yj=some Yj:=by kernel_rfl
theorem qlF:qw Try.prog Try.f25 Yi=some Yi:=by kernel_rfl
theorem qlJ:qw Try.prog Try.f26 Qg=some Qg:=by kernel_rfl
theorem qlO:qw Try.prog Try.f27 Yn=some Yn:=by kernel_rfl
theorem qlv:qw Try.prog Try.f28 Q9=some Q9:=by kernel_rfl
theorem qlu:qw Try.prog Try.f29 Q8=some Q8:=by kernel_rfl
theorem qkU:qw Try.prog Try.f30 Q0=some Q0:=by kernel_rfl
theorem qkT:qw Try.prog Try.f31 xB=some xB:=by kernel_rfl
theorem qlA:qw Try.prog Try.f32 Ye=some Ye:=by kernel_rfl
theorem qlK:qw Try.prog Try.f33 Yl=some Yl:=by kernel_rfl
theorem qlD:qw Try.prog Try.f34 Yg=some Yg:=by kernel_rfl
theorem qlz:qw Try.prog Try.f35 kN=some kN:=by kernel_rfl
theorem qlP:qw Try.prog Try.f36 Yo=some Yo:=by kernel_rfl
theorem qli:qw Try.prog Try.f37 Z5=some Z5:=by kernel_rfl
theorem qkV:qw Try.prog Try.f38 ZY=some ZY:=by kernel_rfl
theorem qk5:qw Try.prog Try.f39 zV=some zV:=by kernel_rfl
theorem qln:qw Try.prog Try.f40 Z8=some Z8:=by kernel_rfl
theorem qle:qw Try.prog Try.f41 kh=some kh:=by kernel_rfl
theorem qld:qw Try.prog Try.f42 Q6=some Q6:=by kernel_rfl
theorem qkX:qw Try.prog Try.f43 Q1=some Q1:=by kernel_rfl
theorem qlB:qw Try.prog Try.f44 Zc=some Zc:=by kernel_rfl
theorem qlM:qw Try.prog Try.f45 Ym=some Ym:=by kernel_rfl
theorem qly:qw Try.prog Try.f46 Zb=some Zb:=by kernel_rfl
theorem qkZ:qw Try.prog Try.f47 kM=some kM:=by kernel_rfl
theorem qk3:qw Try.prog Try.f48 Qb=some Qb:=by kernel_rfl
theorem qll:qw Try.prog Try.f49 Qe=some Qe:=by kernel_rfl
theorem qlo:qw Try.prog Try.f50 Z9=some Z9:=by kernel_rfl
theorem qk0:qw Try.prog Try.f51 Qa=some Qa:=by kernel_rfl
theorem qkW:qw Try.prog Try.f52 ZZ=some ZZ:=by kernel_rfl
theorem qk6:qw Try.prog Try.f54 jd=some jd:=by kernel_rfl
theorem qlc:qw Try.prog Try.f55 zI=some zI:=by kernel_rfl
theorem qkQ:qw Try.prog Try.f56 yh=some yh:=by kernel_rfl
theorem qlk:qw Try.prog Try.f57 Z6=some Z6:=by kernel_rfl
theorem qlj:qw Try.prog Try.f58 zJ=some zJ:=by kernel_rfl
theorem qlI:qw Try.prog Try.f59 Yk=some Yk:=by kernel_rfl
theorem qlL:qw Try.prog Try.f60 Zd=some Zd:=by kernel_rfl
theorem qkR:qw Try.prog Try.f62 jJ=some jJ:=by kernel_rfl
theorem qlb:qw Try.prog Try.f63 Q5=some Q5:=by kernel_rfl
theorem qlf:qw Try.prog Try.f64 Z3=some Z3:=by kernel_rfl
theorem qk9:qw Try.prog Try.f65 Q4=some Q4:=by kernel_rfl
theorem qkY:qw Try.prog Try.f66 Z0=some Z0:=by kernel_rfl
theorem qla:qw Try.prog Try.f67 Qc=some Qc:=by kernel_rfl
theorem qk7:qw Try.prog Try.f68 Z2=some Z2:=by kernel_rfl
theorem qlg:qw Try.prog Try.f69 Qd=some Qd:=by kernel_rfl
theorem qk4:qw Try.prog Try.f70 Q3=some Q3:=by kernel_rfl
theorem qlH:qw Try.prog Try.f71 Qf=some Qf:=by kernel_rfl
theorem qlC:qw Try.prog Try.f72 Yf=some Yf:=by kernel_rfl
theorem qlm:qw Try.prog Try.f74 Z7=some Z7:=by kernel_rfl
theorem qlR:Ql Try.prog qaA:=by
 intro f e h
 unfold qaA at h
 split at h
 ·simp only [Option.some.injEq]at h;subst h;exact ⟨Try.f3,jL,Try.func3,qlp⟩
 ·simp only [Option.some.injEq]at h;subst h;exact ⟨Try.f4,Ya,Try.func4,qlq⟩
 ·simp only [Option.some.injEq]at h;subst h;exact ⟨Try.f5,Yd,Try.func5,qlw⟩
 ·simp only [Option.some.injEq]at h;subst h;exact ⟨Try.f7,ZW,Try.func7,qkO⟩
 ·simp only [Option.some.injEq]at h;subst h;exact ⟨Try.f8,ZU,Try.func8,qkL⟩
 ·simp only [Option.some.injEq]at h;subst h;exact ⟨Try.f9,Za,Try.func9,qlx⟩
 ·simp only [Option.some.injEq]at h;subst h;exact ⟨Try.f10,ZX,Try.func10,qkP⟩
 ·simp only [Option.some.injEq]at h;subst h;exact ⟨Try.f11,Q7,Try.func11,qlr⟩
 ·simp only [Option.some.injEq]at h;subst h;exact ⟨Try.f12,Ze,Try.func12,qlN⟩
 ·simp only [Option.some.injEq]at h;subst h;exact ⟨Try.f14,Yc,Try.func14,qlt⟩
 ·simp only [Option.some.injEq]at h;subst h;exact ⟨Try.f15,Q2,Try.func15,qk1⟩
 ·simp only [Option.some.injEq]at h;subst h;exact ⟨Try.f16,QY,Try.func16,qkN⟩
 ·simp only [Option.some.injEq]at h;subst h;exact ⟨Try.f17,Z4,Try.func17,qlh⟩
 ·simp only [Option.some.injEq]at h;subst h;exact ⟨Try.f18,Yb,Try.func18,qls⟩
 ·simp only [Option.some.injEq]at h;subst h;exact ⟨Try.f19,ZV,Try.func19,qkM⟩
 ·simp only [Option.some.injEq]at h;subst h;exact ⟨Try.f20,QZ,Try.func20,qkS⟩
 ·simp only [Option.some.injEq]at h;subst h;exact ⟨Try.f21,Z1,Try.func21,qk2⟩
 ·simp only [Option.some.injEq]at h;subst h;exact ⟨Try.f22,jK,Try.func22,qk8⟩
 ·simp only [Option.some.injEq]at h;subst h;exact ⟨Try.f23,Yh,Try.func23,qlE⟩
 ·simp only [Option.some.injEq]at h;subst h;exact ⟨Try.f24,Yj,Try.func24,qlG⟩
 ·simp only [Option.some.injEq]at h;subst h;exact ⟨Try.f25,Yi,Try.func25,qlF⟩
 ·simp only [Option.some.injEq]at h;subst h;exact ⟨Try.f26,Qg,Try.func26,qlJ⟩
 ·simp only [Option.some.injEq]at h;subst h;exact ⟨Try.f27,Yn,Try.func27,qlO⟩
 ·simp only [Option.some.injEq]at h;subst h;exact ⟨Try.f28,Q9,Try.func28,qlv⟩
 ·simp only [Option.some.injEq]at h;subst h;exact ⟨Try.f29,Q8,Try.func29,qlu⟩
 ·simp only [Option.some.injEq]at h;subst h;exact ⟨Try.f30,Q0,Try.func30,qkU⟩
 ·simp only [Option.some.injEq]at h;subst h;exact ⟨Try.f31,xB,Try.func31,qkT⟩
 ·simp only [Option.some.injEq]at h;subst h;exact ⟨Try.f32,Ye,Try.func32,qlA⟩
 ·simp only [Option.some.injEq]at h;subst h;exact ⟨Try.f33,Yl,Try.func33,qlK⟩
 ·simp only [Option.some.injEq]at h;subst h;exact ⟨Try.f34,Yg,Try.func34,qlD⟩
 ·simp only [Option.some.injEq]at h;subst h;exact ⟨Try.f35,kN,Try.func35,qlz⟩
 ·simp only [Option.some.injEq]at h;subst h;exact ⟨Try.f36,Yo,Try.func36,qlP⟩
 ·simp only [Option.some.injEq]at h;subst h;exact ⟨Try.f37,Z5,Try.func37,qli⟩
 ·simp only [Option.some.injEq]at h;subst h;exact ⟨Try.f38,ZY,Try.func38,qkV⟩
 ·simp only [Option.some.injEq]at h;subst h;exact ⟨Try.f39,zV,Try.func39,qk5⟩
 ·simp only [Option.some.injEq]at h;subst h;exact ⟨Try.f40,Z8,Try.func40,qln⟩
 ·simp only [Option.some.injEq]at h;subst h;exact ⟨Try.f41,kh,Try.func41,qle⟩
 ·simp only [Option.some.injEq]at h;subst h;exact ⟨Try.f42,Q6,Try.func42,qld⟩
 ·simp only [Option.some.injEq]at h;subst h;exact ⟨Try.f43,Q1,Try.func43,qkX⟩
 ·simp only [Option.some.injEq]at h;subst h;exact ⟨Try.f44,Zc,Try.func44,qlB⟩
 ·simp only [Option.some.injEq]at h;subst h;exact ⟨Try.f45,Ym,Try.func45,qlM⟩
 ·simp only [Option.some.injEq]at h;subst h;exact ⟨Try.f46,Zb,Try.func46,qly⟩
 ·simp only [Option.some.injEq]at h;subst h;exact ⟨Try.f47,kM,Try.func47,qkZ⟩
 ·simp only [Option.some.injEq]at h;subst h;exact ⟨Try.f48,Qb,Try.func48,qk3⟩
 ·simp only [Option.some.injEq]at h;subst h;exact ⟨Try.f49,Qe,Try.func49,qll⟩
 ·simp only [Option.some.injEq]at h;subst h;exact ⟨Try.f50,Z9,Try.func50,qlo⟩
 ·simp only [Option.some.injEq]at h;subst h;exact ⟨Try.f51,Qa,Try.func51,qk0⟩
 ·simp only [Option.some.injEq]at h;subst h;exact ⟨Try.f52,ZZ,Try.func52,qkW⟩
 ·simp only [Option.some.injEq]at h;subst h;exact qkI
 ·simp only [Option.some.injEq]at h;subst h;exact ⟨Try.f54,jd,Try.func54,qk6⟩
 ·cases h
theorem qlS:Ql Try.prog qcQ:=by
 intro f e h
 unfold qcQ at h
 split at h
 ·simp only [Option.some.injEq]at h;subst h;exact ⟨Try.f55,zI,Try.func55,qlc⟩
 ·simp only [Option.some.injEq]at h;subst h;exact ⟨Try.f56,yh,Try.func56,qkQ⟩
 ·simp only [Option.some.injEq]at h;subst h;exact ⟨Try.f57,Z6,Try.func57,qlk⟩
 ·simp only [Option.some.injEq]at h;subst h;exact ⟨Try.f58,zJ,Try.func58,qlj⟩
 ·simp only [Option.some.injEq]at h;subst h;exact ⟨Try.f59,Yk,Try.func59,qlI⟩
 ·simp only [Option.some.injEq]at h;subst h;exact ⟨Try.f60,Zd,Try.func60,qlL⟩
 ·simp only [Option.some.injEq]at h;subst h;exact ⟨Try.f62,jJ,Try.func62,qkR⟩
 ·simp only [Option.some.injEq]at h;subst h;exact ⟨Try.f63,Q5,Try.func63,qlb⟩
 ·simp only [Option.some.injEq]at h;subst h;exact ⟨Try.f64,Z3,Try.func64,qlf⟩
 ·simp only [Option.some.injEq]at h;subst h;exact ⟨Try.f65,Q4,Try.func65,qk9⟩
 ·simp only [Option.some.injEq]at h;subst h;exact ⟨Try.f66,Z0,Try.func66,qkY⟩
 ·simp only [Option.some.injEq]at h;subst h;exact ⟨Try.f67,Qc,Try.func67,qla⟩
 ·simp only [Option.some.injEq]at h;subst h;exact ⟨Try.f68,Z2,Try.func68,qk7⟩
 ·simp only [Option.some.injEq]at h;subst h;exact ⟨Try.f69,Qd,Try.func69,qlg⟩
 ·simp only [Option.some.injEq]at h;subst h;exact ⟨Try.f70,Q3,Try.func70,qk4⟩
 ·simp only [Option.some.injEq]at h;subst h;exact ⟨Try.f71,Qf,Try.func71,qlH⟩
 ·simp only [Option.some.injEq]at h;subst h;exact ⟨Try.f72,Yf,Try.func72,qlC⟩
 ·simp only [Option.some.injEq]at h;subst h;exact ⟨Try.f74,Z7,Try.func74,qlm⟩
 ·cases h
theorem xJ:Ql Try.prog qh:=by
 intro f e h
 unfold qh at h
 cases h0:qaA f with
 |some x=>rw [h0]at h;cases h;exact qlR f e h0
 |none=>
 rw [h0]at h
 simp only at h
 exact qlS f e h
end Go.Vm
