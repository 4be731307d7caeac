import Derived.Test.YtcaejgdpplbcbaaDoorT04
import Derived.Test.YtcaejgdpplbcbaaDoorT05
import Derived.Test.YtcaejgdpplbcbaaDoorProg
import Derived.KernelRfl
set_option autoImplicit false
set_option maxRecDepth 100000
set_option maxHeartbeats 8000000
namespace Go.Vm
open Go.Proofs
theorem qfD:qA Tryd.prog Tryd.f4 jm=some jm:=by kernel_rfl
theorem qfN:qA Tryd.prog Tryd.f5 Yk=some Yk:=by kernel_rfl
theorem qfQ:qA Tryd.prog Tryd.f7 Yn=some Yn:=by kernel_rfl
theorem qfH:qA Tryd.prog Tryd.f9 Yh=some Yh:=by kernel_rfl
theorem qfE:qA Tryd.prog Tryd.f10 Yf=some Yf:=by kernel_rfl
theorem qfY:qA Tryd.prog Tryd.f14 kJ=some kJ:=by kernel_rfl
theorem qfn:qA Tryd.prog Tryd.f15 xK=some xK:=by kernel_rfl
theorem qfG:qA Tryd.prog Tryd.f16 Yg=some Yg:=by kernel_rfl
theorem qfK:qA Tryd.prog Tryd.f17 jW=some jW:=by kernel_rfl
theorem qfJ:qA Tryd.prog Tryd.f18 jV=some jV:=by kernel_rfl
theorem qfO:qA Tryd.prog Tryd.f19 Yl=some Yl:=by kernel_rfl
theorem qgf:qA Tryd.prog Tryd.f21 YC=some YC:=by kernel_rfl
theorem qfR:qA Tryd.prog Tryd.f22 Yo=some Yo:=by kernel_rfl
theorem qfI:qA Tryd.prog Tryd.f25 Yi=some Yi:=by kernel_rfl
theorem qfL:qA Tryd.prog Tryd.f26 Yj=some Yj:=by kernel_rfl
theorem qgd:qA Tryd.prog Tryd.f28 jr=some jr:=by kernel_rfl
theorem qgb:qA Tryd.prog Tryd.f29 jp=some jp:=by kernel_rfl
theorem qge:qA Tryd.prog Tryd.f30 xL=some xL:=by kernel_rfl
theorem qfZ:qA Tryd.prog Tryd.f31 xf=some xf:=by kernel_rfl
theorem qfw:qA Tryd.prog Tryd.f34 kI=some kI:=by kernel_rfl
theorem qgh:qA Tryd.prog Tryd.f35 jY=some jY:=by kernel_rfl
theorem qfo:qA Tryd.prog Tryd.f36 xd=some xd:=by kernel_rfl
theorem qfF:qA Tryd.prog Tryd.f37 kf=some kf:=by kernel_rfl
theorem qfM:qA Tryd.prog Tryd.f38 jn=some jn:=by kernel_rfl
theorem qfP:qA Tryd.prog Tryd.f39 Ym=some Ym:=by kernel_rfl
theorem qgg:qA Tryd.prog Tryd.f42 YD=some YD:=by kernel_rfl
theorem qfS:qA Tryd.prog Tryd.f43 Yp=some Yp:=by kernel_rfl
theorem qfp:qA Tryd.prog Tryd.f45 Z8=some Z8:=by kernel_rfl
theorem qfm:qA Tryd.prog Tryd.f46 Z7=some Z7:=by kernel_rfl
theorem qfq:qA Tryd.prog Tryd.f47 Z9=some Z9:=by kernel_rfl
theorem qfz:qA Tryd.prog Tryd.f49 Ye=some Ye:=by kernel_rfl
theorem qga:qA Tryd.prog Tryd.f50 kL=some kL:=by kernel_rfl
theorem qgc:qA Tryd.prog Tryd.f51 jq=some jq:=by kernel_rfl
theorem qf9:qA Tryd.prog Tryd.f52 jo=some jo:=by kernel_rfl
theorem qfB:qA Tryd.prog Tryd.f61 jk=some jk:=by kernel_rfl
theorem qfs:qA Tryd.prog Tryd.f62 jj=some jj:=by kernel_rfl
theorem qf7:qA Tryd.prog Tryd.f65 YB=some YB:=by kernel_rfl
theorem qfy:qA Tryd.prog Tryd.f67 Yd=some Yd:=by kernel_rfl
theorem qfT:qA Tryd.prog Tryd.f68 Yq=some Yq:=by kernel_rfl
theorem qfv:qA Tryd.prog Tryd.f69 Yc=some Yc:=by kernel_rfl
theorem qfr:qA Tryd.prog Tryd.f70 Ya=some Ya:=by kernel_rfl
theorem qf8:qA Tryd.prog Tryd.f71 kK=some kK:=by kernel_rfl
theorem qf2:qA Tryd.prog Tryd.f72 jX=some jX:=by kernel_rfl
theorem qfC:qA Tryd.prog Tryd.f80 jl=some jl:=by kernel_rfl
theorem qfA:qA Tryd.prog Tryd.f81 jU=some jU:=by kernel_rfl
theorem qfx:qA Tryd.prog Tryd.f82 jT=some jT:=by kernel_rfl
theorem qft:qA Tryd.prog Tryd.f83 kH=some kH:=by kernel_rfl
theorem qf0:qA Tryd.prog Tryd.f84 Yv=some Yv:=by kernel_rfl
theorem qfu:qA Tryd.prog Tryd.f87 Yb=some Yb:=by kernel_rfl
theorem qfU:qA Tryd.prog Tryd.f88 Yr=some Yr:=by kernel_rfl
theorem qf3:qA Tryd.prog Tryd.f95 Yx=some Yx:=by kernel_rfl
theorem qf6:qA Tryd.prog Tryd.f96 YA=some YA:=by kernel_rfl
theorem qfX:qA Tryd.prog Tryd.f97 Yu=some Yu:=by kernel_rfl
theorem qfV:qA Tryd.prog Tryd.f98 Ys=some Ys:=by kernel_rfl
theorem qf5:qA Tryd.prog Tryd.f106 Yz=some Yz:=by kernel_rfl
theorem qfW:qA Tryd.prog Tryd.f107 Yt=some Yt:=by kernel_rfl
theorem qf4:qA Tryd.prog Tryd.f111 Yy=some Yy:=by kernel_rfl
theorem qf1:qA Tryd.prog Tryd.f112 Yw=some Yw:=by kernel_rfl
theorem qgj:jt Tryd.prog XF:=by
 intro f e h
 unfold XF at h
 split at h
 ·simp only [Option.some.injEq]at h;subst h;exact ⟨Tryd.f4,jm,Tryd.func4,qfD⟩
 ·simp only [Option.some.injEq]at h;subst h;exact ⟨Tryd.f5,Yk,Tryd.func5,qfN⟩
 ·simp only [Option.some.injEq]at h;subst h;exact ⟨Tryd.f7,Yn,Tryd.func7,qfQ⟩
 ·simp only [Option.some.injEq]at h;subst h;exact ⟨Tryd.f9,Yh,Tryd.func9,qfH⟩
 ·simp only [Option.some.injEq]at h;subst h;exact ⟨Tryd.f10,Yf,Tryd.func10,qfE⟩
 ·simp only [Option.some.injEq]at h;subst h;exact ⟨Tryd.f14,kJ,Tryd.func14,qfY⟩
 ·simp only [Option.some.injEq]at h;subst h;exact ⟨Tryd.f15,xK,Tryd.func15,qfn⟩
 ·simp only [Option.some.injEq]at h;subst h;exact ⟨Tryd.f16,Yg,Tryd.func16,qfG⟩
 ·simp only [Option.some.injEq]at h;subst h;exact ⟨Tryd.f17,jW,Tryd.func17,qfK⟩
 ·simp only [Option.some.injEq]at h;subst h;exact ⟨Tryd.f18,jV,Tryd.func18,qfJ⟩
 ·simp only [Option.some.injEq]at h;subst h;exact ⟨Tryd.f19,Yl,Tryd.func19,qfO⟩
 ·simp only [Option.some.injEq]at h;subst h;exact ⟨Tryd.f21,YC,Tryd.func21,qgf⟩
 ·simp only [Option.some.injEq]at h;subst h;exact ⟨Tryd.f22,Yo,Tryd.func22,qfR⟩
 ·simp only [Option.some.injEq]at h;subst h;exact ⟨Tryd.f25,Yi,Tryd.func25,qfI⟩
 ·simp only [Option.some.injEq]at h;subst h;exact ⟨Tryd.f26,Yj,Tryd.func26,qfL⟩
 ·simp only [Option.some.injEq]at h;subst h;exact ⟨Tryd.f28,jr,Tryd.func28,qgd⟩
 ·simp only [Option.some.injEq]at h;subst h;exact ⟨Tryd.f29,jp,Tryd.func29,qgb⟩
 ·simp only [Option.some.injEq]at h;subst h;exact ⟨Tryd.f30,xL,Tryd.func30,qge⟩
 ·simp only [Option.some.injEq]at h;subst h;exact ⟨Tryd.f31,xf,Tryd.func31,qfZ⟩
 ·simp only [Option.some.injEq]at h;subst h;exact qiM
 ·simp only [Option.some.injEq]at h;subst h;exact qi3
 ·simp only [Option.some.injEq]at h;subst h;exact ⟨Tryd.f34,kI,Tryd.func34,qfw⟩
 ·simp only [Option.some.injEq]at h;subst h;exact ⟨Tryd.f35,jY,Tryd.func35,qgh⟩
 ·simp only [Option.some.injEq]at h;subst h;exact ⟨Tryd.f36,xd,Tryd.func36,qfo⟩
 ·simp only [Option.some.injEq]at h;subst h;exact ⟨Tryd.f37,kf,Tryd.func37,qfF⟩
 ·simp only [Option.some.injEq]at h;subst h;exact ⟨Tryd.f38,jn,Tryd.func38,qfM⟩
 ·simp only [Option.some.injEq]at h;subst h;exact ⟨Tryd.f39,Ym,Tryd.func39,qfP⟩
 ·simp only [Option.some.injEq]at h;subst h;exact ⟨Tryd.f42,YD,Tryd.func42,qgg⟩
 ·simp only [Option.some.injEq]at h;subst h;exact ⟨Tryd.f43,Yp,Tryd.func43,qfS⟩
 ·simp only [Option.some.injEq]at h;subst h;exact ⟨Tryd.f45,Z8,Tryd.func45,qfp⟩
 ·simp only [Option.some.injEq]at h;subst h;exact ⟨Tryd.f46,Z7,Tryd.func46,qfm⟩
 ·simp only [Option.some.injEq]at h;subst h;exact ⟨Tryd.f47,Z9,Tryd.func47,qfq⟩
 ·simp only [Option.some.injEq]at h;subst h;exact ⟨Tryd.f49,Ye,Tryd.func49,qfz⟩
 ·simp only [Option.some.injEq]at h;subst h;exact ⟨Tryd.f50,kL,Tryd.func50,qga⟩
 ·simp only [Option.some.injEq]at h;subst h;exact ⟨Tryd.f51,jq,Tryd.func51,qgc⟩
 ·simp only [Option.some.injEq]at h;subst h;exact ⟨Tryd.f52,jo,Tryd.func52,qf9⟩
 ·cases h
theorem qgk:jt Tryd.prog XG:=by
 intro f e h
 unfold XG at h
 split at h
 ·simp only [Option.some.injEq]at h;subst h;exact ⟨Tryd.f61,jk,Tryd.func61,qfB⟩
 ·simp only [Option.some.injEq]at h;subst h;exact ⟨Tryd.f62,jj,Tryd.func62,qfs⟩
 ·simp only [Option.some.injEq]at h;subst h;exact ⟨Tryd.f65,YB,Tryd.func65,qf7⟩
 ·simp only [Option.some.injEq]at h;subst h;exact ⟨Tryd.f67,Yd,Tryd.func67,qfy⟩
 ·simp only [Option.some.injEq]at h;subst h;exact ⟨Tryd.f68,Yq,Tryd.func68,qfT⟩
 ·simp only [Option.some.injEq]at h;subst h;exact ⟨Tryd.f69,Yc,Tryd.func69,qfv⟩
 ·simp only [Option.some.injEq]at h;subst h;exact ⟨Tryd.f70,Ya,Tryd.func70,qfr⟩
 ·simp only [Option.some.injEq]at h;subst h;exact ⟨Tryd.f71,kK,Tryd.func71,qf8⟩
 ·simp only [Option.some.injEq]at h;subst h;exact ⟨Tryd.f72,jX,Tryd.func72,qf2⟩
 ·simp only [Option.some.injEq]at h;subst h;exact ⟨Tryd.f80,jl,Tryd.func80,qfC⟩
 ·simp only [Option.some.injEq]at h;subst h;exact ⟨Tryd.f81,jU,Tryd.func81,qfA⟩
 ·simp only [Option.some.injEq]at h;subst h;exact ⟨Tryd.f82,jT,Tryd.func82,qfx⟩
 ·simp only [Option.some.injEq]at h;subst h;exact ⟨Tryd.f83,kH,Tryd.func83,qft⟩
 ·simp only [Option.some.injEq]at h;subst h;exact ⟨Tryd.f84,Yv,Tryd.func84,qf0⟩
 ·simp only [Option.some.injEq]at h;subst h;exact ⟨Tryd.f87,Yb,Tryd.func87,qfu⟩
 ·simp only [Option.some.injEq]at h;subst h;exact ⟨Tryd.f88,Yr,Tryd.func88,qfU⟩
 ·simp only [Option.some.injEq]at h;subst h;exact ⟨Tryd.f95,Yx,Tryd.func95,qf3⟩
 ·simp only [Option.some.injEq]at h;subst h;exact ⟨Tryd.f96,YA,Tryd.func96,qf6⟩
 ·simp only [Option.some.injEq]at h;subst h;exact ⟨Tryd.f97,Yu,Tryd.func97,qfX⟩
 ·simp only [Option.some.injEq]at h;subst h;exact ⟨Tryd.f98,Ys,Tryd.func98,qfV⟩
 ·simp only [Option.some.injEq]at h;subst h;exact ⟨Tryd.f106,Yz,Tryd.func106,qf5⟩
 ·simp only [Option.some.injEq]at h;subst h;exact ⟨Tryd.f107,Yt,Tryd.func107,qfW⟩
 ·simp only [Option.some.injEq]at h;subst h;exact ⟨Tryd.f111,Yy,Tryd.func111,qf4⟩
 ·simp only [Option.some.injEq]at h;subst h;exact ⟨Tryd.f112,Yw,Tryd.func112,qf1⟩
 ·cases h
theorem qgl:jt Tryd.prog Ji:=by
 intro f e h
 unfold Ji at h
 split at h
 ·cases h
theorem qgi:jt Tryd.prog qp:=by
 intro f e h
 unfold qp at h
 cases h0:XF f with
 |some x=>rw [h0]at h;cases h;exact qgj f e h0
 |none=>
 rw [h0]at h
 simp only at h
 cases h1:XG f with
 |some x=>rw [h1]at h;cases h;exact qgk f e h1
 |none=>
 rw [h1]at h
 simp only at h
 exact qgl f e h
end Go.Vm
