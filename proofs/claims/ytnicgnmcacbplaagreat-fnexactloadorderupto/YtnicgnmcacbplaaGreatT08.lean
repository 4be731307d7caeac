import Derived.Test.YtnicgnmcacbplaaGreatT04
import Derived.Test.YtnicgnmcacbplaaGreatT07
import Derived.Test.YtnicgnmcacbplaaGreatProg
import Derived.KernelRfl
set_option autoImplicit false
set_option maxRecDepth 100000
set_option maxHeartbeats 8000000
namespace Go.Vm
open Go.Proofs
theorem qom:qr Tryz.prog Tryz.f3 jQ=some jQ:=by kernel_rfl
theorem qov:qr Tryz.prog Tryz.f4 qbj=some qbj:=by kernel_rfl
theorem qoH:qr Tryz.prog Tryz.f5 Z6=some Z6:=by kernel_rfl
theorem qox:qr Tryz.prog Tryz.f6 Xi=some Xi:=by kernel_rfl
theorem qop:qr Tryz.prog Tryz.f8 Q5=some Q5:=by kernel_rfl
theorem qoo:qr Tryz.prog Tryz.f9 qbi=some qbi:=by kernel_rfl
theorem qor:qr Tryz.prog Tryz.f10 Xf=some Xf:=by kernel_rfl
theorem qos:qr Tryz.prog Tryz.f11 Xg=some Xg:=by kernel_rfl
theorem qoq:qr Tryz.prog Tryz.f12 Xe=some Xe:=by kernel_rfl
theorem qou:qr Tryz.prog Tryz.f13 Q6=some Q6:=by kernel_rfl
theorem qoC:qr Tryz.prog Tryz.f14 Z4=some Z4:=by kernel_rfl
theorem qpn:qr Tryz.prog Tryz.f15 Zc=some Zc:=by kernel_rfl
theorem qow:qr Tryz.prog Tryz.f16 Xh=some Xh:=by kernel_rfl
theorem qnI:qr Tryz.prog Tryz.f17 YY=some YY:=by kernel_rfl
theorem qoz:qr Tryz.prog Tryz.f19 Xk=some Xk:=by kernel_rfl
theorem qnY:qr Tryz.prog Tryz.f20 ZW=some ZW:=by kernel_rfl
theorem qnK:qr Tryz.prog Tryz.f21 ZS=some ZS:=by kernel_rfl
theorem qon:qr Tryz.prog Tryz.f22 Q4=some Q4:=by kernel_rfl
theorem qot:qr Tryz.prog Tryz.f23 Z1=some Z1:=by kernel_rfl
theorem qoE:qr Tryz.prog Tryz.f24 Xl=some Xl:=by kernel_rfl
theorem qpm:qr Tryz.prog Tryz.f25 Yf=some Yf:=by kernel_rfl
theorem qpl:qr Tryz.prog Tryz.f26 Ye=some Ye:=by kernel_rfl
theorem qoD:qr Tryz.prog Tryz.f27 Z5=some Z5:=by kernel_rfl
theorem qpk:qr Tryz.prog Tryz.f28 QB=some QB:=by kernel_rfl
theorem qoy:qr Tryz.prog Tryz.f29 Xj=some Xj:=by kernel_rfl
theorem qnL:qr Tryz.prog Tryz.f30 Y0=some Y0:=by kernel_rfl
theorem qnJ:qr Tryz.prog Tryz.f31 YZ=some YZ:=by kernel_rfl
theorem qoe:qr Tryz.prog Tryz.f32 Y8=some Y8:=by kernel_rfl
theorem qoB:qr Tryz.prog Tryz.f33 Z3=some Z3:=by kernel_rfl
theorem qnM:qr Tryz.prog Tryz.f34 Y1=some Y1:=by kernel_rfl
theorem qoF:qr Tryz.prog Tryz.f35 Xm=some Xm:=by kernel_rfl
theorem qoA:qr Tryz.prog Tryz.f36 Z2=some Z2:=by kernel_rfl
theorem qn5:qr Tryz.prog Tryz.f37 Qv=some Qv:=by kernel_rfl
theorem qnP:qr Tryz.prog Tryz.f38 ZT=some ZT:=by kernel_rfl
theorem qnZ:qr Tryz.prog Tryz.f39 Y5=some Y5:=by kernel_rfl
theorem qoJ:qr Tryz.prog Tryz.f40 Z7=some Z7:=by kernel_rfl
theorem qoR:qr Tryz.prog Tryz.f41 Xq=some Xq:=by kernel_rfl
theorem qnR:qr Tryz.prog Tryz.f42 ZU=some ZU:=by kernel_rfl
theorem qnQ:qr Tryz.prog Tryz.f43 xY=some xY:=by kernel_rfl
theorem qoL:qr Tryz.prog Tryz.f44 Z8=some Z8:=by kernel_rfl
theorem qoK:qr Tryz.prog Tryz.f45 jR=some jR:=by kernel_rfl
theorem qof:qr Tryz.prog Tryz.f46 Y9=some Y9:=by kernel_rfl
theorem qnS:qr Tryz.prog Tryz.f47 Y2=some Y2:=by kernel_rfl
theorem qn2:qr Tryz.prog Tryz.f48 z6=some z6:=by kernel_rfl
theorem qok:qr Tryz.prog Tryz.f49 Xc=some Xc:=by kernel_rfl
theorem qob:qr Tryz.prog Tryz.f50 kM=some kM:=by kernel_rfl
theorem qoa:qr Tryz.prog Tryz.f51 Z0=some Z0:=by kernel_rfl
theorem qnU:qr Tryz.prog Tryz.f52 ZV=some ZV:=by kernel_rfl
theorem qoY:qr Tryz.prog Tryz.f53 Xu=some Xu:=by kernel_rfl
theorem qo4:qr Tryz.prog Tryz.f54 yd=some yd:=by kernel_rfl
theorem qo7:qr Tryz.prog Tryz.f55 Qy=some Qy:=by kernel_rfl
theorem qoO:qr Tryz.prog Tryz.f56 Xn=some Xn:=by kernel_rfl
theorem qph:qr Tryz.prog Tryz.f57 js=some js:=by kernel_rfl
theorem qpa:qr Tryz.prog Tryz.f58 jS=some jS:=by kernel_rfl
theorem qoN:qr Tryz.prog Tryz.f59 Ya=some Ya:=by kernel_rfl
theorem qnW:qr Tryz.prog Tryz.f60 jq=some jq:=by kernel_rfl
theorem qn0:qr Tryz.prog Tryz.f61 Q0=some Q0:=by kernel_rfl
theorem qoi:qr Tryz.prog Tryz.f62 Q3=some Q3:=by kernel_rfl
theorem qol:qr Tryz.prog Tryz.f63 Xd=some Xd:=by kernel_rfl
theorem qnX:qr Tryz.prog Tryz.f64 QZ=some QZ:=by kernel_rfl
theorem qnT:qr Tryz.prog Tryz.f65 Y3=some Y3:=by kernel_rfl
theorem qn3:qr Tryz.prog Tryz.f67 jP=some jP:=by kernel_rfl
theorem qn9:qr Tryz.prog Tryz.f68 zN=some zN:=by kernel_rfl
theorem qnN:qr Tryz.prog Tryz.f69 yy=some yy:=by kernel_rfl
theorem qoh:qr Tryz.prog Tryz.f70 Xa=some Xa:=by kernel_rfl
theorem qog:qr Tryz.prog Tryz.f71 zO=some zO:=by kernel_rfl
theorem qo5:qr Tryz.prog Tryz.f72 Q9=some Q9:=by kernel_rfl
theorem qo1:qr Tryz.prog Tryz.f73 Xv=some Xv:=by kernel_rfl
theorem qo3:qr Tryz.prog Tryz.f74 Xw=some Xw:=by kernel_rfl
theorem qo0:qr Tryz.prog Tryz.f75 Q7=some Q7:=by kernel_rfl
theorem qo2:qr Tryz.prog Tryz.f76 Q8=some Q8:=by kernel_rfl
theorem qoZ:qr Tryz.prog Tryz.f77 kx=some kx:=by kernel_rfl
theorem qoM:qr Tryz.prog Tryz.f78 Z9=some Z9:=by kernel_rfl
theorem qpd:qr Tryz.prog Tryz.f79 jr=some jr:=by kernel_rfl
theorem qo9:qr Tryz.prog Tryz.f80 Qz=some Qz:=by kernel_rfl
theorem qoW:qr Tryz.prog Tryz.f81 Xs=some Xs:=by kernel_rfl
theorem qoQ:qr Tryz.prog Tryz.f82 Xp=some Xp:=by kernel_rfl
theorem qoV:qr Tryz.prog Tryz.f83 Qx=some Qx:=by kernel_rfl
theorem qnO:qr Tryz.prog Tryz.f85 Qu=some Qu:=by kernel_rfl
theorem qn8:qr Tryz.prog Tryz.f86 ZZ=some ZZ:=by kernel_rfl
theorem qoc:qr Tryz.prog Tryz.f87 Y7=some Y7:=by kernel_rfl
theorem qn6:qr Tryz.prog Tryz.f88 ZY=some ZY:=by kernel_rfl
theorem qnV:qr Tryz.prog Tryz.f89 Y4=some Y4:=by kernel_rfl
theorem qn7:qr Tryz.prog Tryz.f90 Q1=some Q1:=by kernel_rfl
theorem qn4:qr Tryz.prog Tryz.f91 Y6=some Y6:=by kernel_rfl
theorem qod:qr Tryz.prog Tryz.f92 Q2=some Q2:=by kernel_rfl
theorem qn1:qr Tryz.prog Tryz.f93 ZX=some ZX:=by kernel_rfl
theorem qo6:qr Tryz.prog Tryz.f94 Xx=some Xx:=by kernel_rfl
theorem qoS:qr Tryz.prog Tryz.f95 Yb=some Yb:=by kernel_rfl
theorem qo8:qr Tryz.prog Tryz.f96 xF=some xF:=by kernel_rfl
theorem qpb:qr Tryz.prog Tryz.f97 Yc=some Yc:=by kernel_rfl
theorem qpe:qr Tryz.prog Tryz.f98 jT=some jT:=by kernel_rfl
theorem qpf:qr Tryz.prog Tryz.f99 QA=some QA:=by kernel_rfl
theorem qoT:qr Tryz.prog Tryz.f100 Xr=some Xr:=by kernel_rfl
theorem qpi:qr Tryz.prog Tryz.f101 jU=some jU:=by kernel_rfl
theorem qoG:qr Tryz.prog Tryz.f102 Jd=some Jd:=by kernel_rfl
theorem qoU:qr Tryz.prog Tryz.f103 yW=some yW:=by kernel_rfl
theorem qoj:qr Tryz.prog Tryz.f105 Xb=some Xb:=by kernel_rfl
theorem qpg:qr Tryz.prog Tryz.f106 Zb=some Zb:=by kernel_rfl
theorem qpc:qr Tryz.prog Tryz.f107 Za=some Za:=by kernel_rfl
theorem qoI:qr Tryz.prog Tryz.f108 Qw=some Qw:=by kernel_rfl
theorem qoP:qr Tryz.prog Tryz.f109 Xo=some Xo:=by kernel_rfl
theorem qpj:qr Tryz.prog Tryz.f110 Yd=some Yd:=by kernel_rfl
theorem qoX:qr Tryz.prog Tryz.f111 Xt=some Xt:=by kernel_rfl
theorem qpp:QG Tryz.prog qcT:=by
 intro f e h
 unfold qcT at h
 split at h
 ·simp only [Option.some.injEq]at h;subst h;exact ⟨Tryz.f3,jQ,Tryz.func3,qom⟩
 ·simp only [Option.some.injEq]at h;subst h;exact ⟨Tryz.f4,qbj,Tryz.func4,qov⟩
 ·simp only [Option.some.injEq]at h;subst h;exact ⟨Tryz.f5,Z6,Tryz.func5,qoH⟩
 ·simp only [Option.some.injEq]at h;subst h;exact ⟨Tryz.f6,Xi,Tryz.func6,qox⟩
 ·simp only [Option.some.injEq]at h;subst h;exact ⟨Tryz.f8,Q5,Tryz.func8,qop⟩
 ·simp only [Option.some.injEq]at h;subst h;exact ⟨Tryz.f9,qbi,Tryz.func9,qoo⟩
 ·simp only [Option.some.injEq]at h;subst h;exact ⟨Tryz.f10,Xf,Tryz.func10,qor⟩
 ·simp only [Option.some.injEq]at h;subst h;exact ⟨Tryz.f11,Xg,Tryz.func11,qos⟩
 ·simp only [Option.some.injEq]at h;subst h;exact ⟨Tryz.f12,Xe,Tryz.func12,qoq⟩
 ·simp only [Option.some.injEq]at h;subst h;exact ⟨Tryz.f13,Q6,Tryz.func13,qou⟩
 ·simp only [Option.some.injEq]at h;subst h;exact ⟨Tryz.f14,Z4,Tryz.func14,qoC⟩
 ·simp only [Option.some.injEq]at h;subst h;exact ⟨Tryz.f15,Zc,Tryz.func15,qpn⟩
 ·simp only [Option.some.injEq]at h;subst h;exact ⟨Tryz.f16,Xh,Tryz.func16,qow⟩
 ·simp only [Option.some.injEq]at h;subst h;exact ⟨Tryz.f17,YY,Tryz.func17,qnI⟩
 ·simp only [Option.some.injEq]at h;subst h;exact ⟨Tryz.f19,Xk,Tryz.func19,qoz⟩
 ·simp only [Option.some.injEq]at h;subst h;exact ⟨Tryz.f20,ZW,Tryz.func20,qnY⟩
 ·simp only [Option.some.injEq]at h;subst h;exact ⟨Tryz.f21,ZS,Tryz.func21,qnK⟩
 ·simp only [Option.some.injEq]at h;subst h;exact ⟨Tryz.f22,Q4,Tryz.func22,qon⟩
 ·simp only [Option.some.injEq]at h;subst h;exact ⟨Tryz.f23,Z1,Tryz.func23,qot⟩
 ·simp only [Option.some.injEq]at h;subst h;exact ⟨Tryz.f24,Xl,Tryz.func24,qoE⟩
 ·simp only [Option.some.injEq]at h;subst h;exact ⟨Tryz.f25,Yf,Tryz.func25,qpm⟩
 ·simp only [Option.some.injEq]at h;subst h;exact ⟨Tryz.f26,Ye,Tryz.func26,qpl⟩
 ·simp only [Option.some.injEq]at h;subst h;exact ⟨Tryz.f27,Z5,Tryz.func27,qoD⟩
 ·simp only [Option.some.injEq]at h;subst h;exact ⟨Tryz.f28,QB,Tryz.func28,qpk⟩
 ·simp only [Option.some.injEq]at h;subst h;exact ⟨Tryz.f29,Xj,Tryz.func29,qoy⟩
 ·simp only [Option.some.injEq]at h;subst h;exact ⟨Tryz.f30,Y0,Tryz.func30,qnL⟩
 ·simp only [Option.some.injEq]at h;subst h;exact ⟨Tryz.f31,YZ,Tryz.func31,qnJ⟩
 ·simp only [Option.some.injEq]at h;subst h;exact ⟨Tryz.f32,Y8,Tryz.func32,qoe⟩
 ·simp only [Option.some.injEq]at h;subst h;exact ⟨Tryz.f33,Z3,Tryz.func33,qoB⟩
 ·simp only [Option.some.injEq]at h;subst h;exact ⟨Tryz.f34,Y1,Tryz.func34,qnM⟩
 ·simp only [Option.some.injEq]at h;subst h;exact ⟨Tryz.f35,Xm,Tryz.func35,qoF⟩
 ·simp only [Option.some.injEq]at h;subst h;exact ⟨Tryz.f36,Z2,Tryz.func36,qoA⟩
 ·simp only [Option.some.injEq]at h;subst h;exact ⟨Tryz.f37,Qv,Tryz.func37,qn5⟩
 ·simp only [Option.some.injEq]at h;subst h;exact ⟨Tryz.f38,ZT,Tryz.func38,qnP⟩
 ·simp only [Option.some.injEq]at h;subst h;exact ⟨Tryz.f39,Y5,Tryz.func39,qnZ⟩
 ·simp only [Option.some.injEq]at h;subst h;exact ⟨Tryz.f40,Z7,Tryz.func40,qoJ⟩
 ·simp only [Option.some.injEq]at h;subst h;exact ⟨Tryz.f41,Xq,Tryz.func41,qoR⟩
 ·simp only [Option.some.injEq]at h;subst h;exact ⟨Tryz.f42,ZU,Tryz.func42,qnR⟩
 ·simp only [Option.some.injEq]at h;subst h;exact ⟨Tryz.f43,xY,Tryz.func43,qnQ⟩
 ·simp only [Option.some.injEq]at h;subst h;exact ⟨Tryz.f44,Z8,Tryz.func44,qoL⟩
 ·simp only [Option.some.injEq]at h;subst h;exact ⟨Tryz.f45,jR,Tryz.func45,qoK⟩
 ·simp only [Option.some.injEq]at h;subst h;exact ⟨Tryz.f46,Y9,Tryz.func46,qof⟩
 ·simp only [Option.some.injEq]at h;subst h;exact ⟨Tryz.f47,Y2,Tryz.func47,qnS⟩
 ·simp only [Option.some.injEq]at h;subst h;exact ⟨Tryz.f48,z6,Tryz.func48,qn2⟩
 ·simp only [Option.some.injEq]at h;subst h;exact ⟨Tryz.f49,Xc,Tryz.func49,qok⟩
 ·simp only [Option.some.injEq]at h;subst h;exact ⟨Tryz.f50,kM,Tryz.func50,qob⟩
 ·simp only [Option.some.injEq]at h;subst h;exact ⟨Tryz.f51,Z0,Tryz.func51,qoa⟩
 ·simp only [Option.some.injEq]at h;subst h;exact ⟨Tryz.f52,ZV,Tryz.func52,qnU⟩
 ·simp only [Option.some.injEq]at h;subst h;exact ⟨Tryz.f53,Xu,Tryz.func53,qoY⟩
 ·simp only [Option.some.injEq]at h;subst h;exact ⟨Tryz.f54,yd,Tryz.func54,qo4⟩
 ·cases h
theorem qpq:QG Tryz.prog qcU:=by
 intro f e h
 unfold qcU at h
 split at h
 ·simp only [Option.some.injEq]at h;subst h;exact ⟨Tryz.f55,Qy,Tryz.func55,qo7⟩
 ·simp only [Option.some.injEq]at h;subst h;exact ⟨Tryz.f56,Xn,Tryz.func56,qoO⟩
 ·simp only [Option.some.injEq]at h;subst h;exact ⟨Tryz.f57,js,Tryz.func57,qph⟩
 ·simp only [Option.some.injEq]at h;subst h;exact ⟨Tryz.f58,jS,Tryz.func58,qpa⟩
 ·simp only [Option.some.injEq]at h;subst h;exact ⟨Tryz.f59,Ya,Tryz.func59,qoN⟩
 ·simp only [Option.some.injEq]at h;subst h;exact ⟨Tryz.f60,jq,Tryz.func60,qnW⟩
 ·simp only [Option.some.injEq]at h;subst h;exact ⟨Tryz.f61,Q0,Tryz.func61,qn0⟩
 ·simp only [Option.some.injEq]at h;subst h;exact ⟨Tryz.f62,Q3,Tryz.func62,qoi⟩
 ·simp only [Option.some.injEq]at h;subst h;exact ⟨Tryz.f63,Xd,Tryz.func63,qol⟩
 ·simp only [Option.some.injEq]at h;subst h;exact ⟨Tryz.f64,QZ,Tryz.func64,qnX⟩
 ·simp only [Option.some.injEq]at h;subst h;exact ⟨Tryz.f65,Y3,Tryz.func65,qnT⟩
 ·simp only [Option.some.injEq]at h;subst h;exact qnE
 ·simp only [Option.some.injEq]at h;subst h;exact ⟨Tryz.f67,jP,Tryz.func67,qn3⟩
 ·simp only [Option.some.injEq]at h;subst h;exact ⟨Tryz.f68,zN,Tryz.func68,qn9⟩
 ·simp only [Option.some.injEq]at h;subst h;exact ⟨Tryz.f69,yy,Tryz.func69,qnN⟩
 ·simp only [Option.some.injEq]at h;subst h;exact ⟨Tryz.f70,Xa,Tryz.func70,qoh⟩
 ·simp only [Option.some.injEq]at h;subst h;exact ⟨Tryz.f71,zO,Tryz.func71,qog⟩
 ·simp only [Option.some.injEq]at h;subst h;exact ⟨Tryz.f72,Q9,Tryz.func72,qo5⟩
 ·simp only [Option.some.injEq]at h;subst h;exact ⟨Tryz.f73,Xv,Tryz.func73,qo1⟩
 ·simp only [Option.some.injEq]at h;subst h;exact ⟨Tryz.f74,Xw,Tryz.func74,qo3⟩
 ·simp only [Option.some.injEq]at h;subst h;exact ⟨Tryz.f75,Q7,Tryz.func75,qo0⟩
 ·simp only [Option.some.injEq]at h;subst h;exact ⟨Tryz.f76,Q8,Tryz.func76,qo2⟩
 ·simp only [Option.some.injEq]at h;subst h;exact ⟨Tryz.f77,kx,Tryz.func77,qoZ⟩
 ·simp only [Option.some.injEq]at h;subst h;exact ⟨Tryz.f78,Z9,Tryz.func78,qoM⟩
 ·simp only [Option.some.injEq]at h;subst h;exact ⟨Tryz.f79,jr,Tryz.func79,qpd⟩
 ·simp only [Option.some.injEq]at h;subst h;exact ⟨Tryz.f80,Qz,Tryz.func80,qo9⟩
 ·simp only [Option.some.injEq]at h;subst h;exact ⟨Tryz.f81,Xs,Tryz.func81,qoW⟩
 ·simp only [Option.some.injEq]at h;subst h;exact ⟨Tryz.f82,Xp,Tryz.func82,qoQ⟩
 ·simp only [Option.some.injEq]at h;subst h;exact ⟨Tryz.f83,Qx,Tryz.func83,qoV⟩
 ·simp only [Option.some.injEq]at h;subst h;exact ⟨Tryz.f85,Qu,Tryz.func85,qnO⟩
 ·simp only [Option.some.injEq]at h;subst h;exact ⟨Tryz.f86,ZZ,Tryz.func86,qn8⟩
 ·simp only [Option.some.injEq]at h;subst h;exact ⟨Tryz.f87,Y7,Tryz.func87,qoc⟩
 ·simp only [Option.some.injEq]at h;subst h;exact ⟨Tryz.f88,ZY,Tryz.func88,qn6⟩
 ·simp only [Option.some.injEq]at h;subst h;exact ⟨Tryz.f89,Y4,Tryz.func89,qnV⟩
 ·simp only [Option.some.injEq]at h;subst h;exact ⟨Tryz.f90,Q1,Tryz.func90,qn7⟩
 ·simp only [Option.some.injEq]at h;subst h;exact ⟨Tryz.f91,Y6,Tryz.func91,qn4⟩
 ·simp only [Option.some.injEq]at h;subst h;exact ⟨Tryz.f92,Q2,Tryz.func92,qod⟩
 ·simp only [Option.some.injEq]at h;subst h;exact ⟨Tryz.f93,ZX,Tryz.func93,qn1⟩
 ·simp only [Option.some.injEq]at h;subst h;exact ⟨Tryz.f94,Xx,Tryz.func94,qo6⟩
 ·simp only [Option.some.injEq]at h;subst h;exact ⟨Tryz.f95,Yb,Tryz.func95,qoS⟩
 ·simp only [Option.some.injEq]at h;subst h;exact ⟨Tryz.f96,xF,Tryz.func96,qo8⟩
 ·simp only [Option.some.injEq]at h;subst h;exact ⟨Tryz.f97,Yc,Tryz.func97,qpb⟩
 ·simp only [Option.some.injEq]at h;subst h;exact ⟨Tryz.f98,jT,Tryz.func98,qpe⟩
 ·simp only [Option.some.injEq]at h;subst h;exact ⟨Tryz.f99,QA,Tryz.func99,qpf⟩
 ·simp only [Option.some.injEq]at h;subst h;exact ⟨Tryz.f100,Xr,Tryz.func100,qoT⟩
 ·simp only [Option.some.injEq]at h;subst h;exact ⟨Tryz.f101,jU,Tryz.func101,qpi⟩
 ·simp only [Option.some.injEq]at h;subst h;exact ⟨Tryz.f102,Jd,Tryz.func102,qoG⟩
 ·simp only [Option.some.injEq]at h;subst h;exact ⟨Tryz.f103,yW,Tryz.func103,qoU⟩
 ·simp only [Option.some.injEq]at h;subst h;exact ⟨Tryz.f105,Xb,Tryz.func105,qoj⟩
 ·cases h
theorem qpr:QG Tryz.prog qft:=by
 intro f e h
 unfold qft at h
 split at h
 ·simp only [Option.some.injEq]at h;subst h;exact ⟨Tryz.f106,Zb,Tryz.func106,qpg⟩
 ·simp only [Option.some.injEq]at h;subst h;exact ⟨Tryz.f107,Za,Tryz.func107,qpc⟩
 ·simp only [Option.some.injEq]at h;subst h;exact ⟨Tryz.f108,Qw,Tryz.func108,qoI⟩
 ·simp only [Option.some.injEq]at h;subst h;exact ⟨Tryz.f109,Xo,Tryz.func109,qoP⟩
 ·simp only [Option.some.injEq]at h;subst h;exact ⟨Tryz.f110,Yd,Tryz.func110,qpj⟩
 ·simp only [Option.some.injEq]at h;subst h;exact ⟨Tryz.f111,Xt,Tryz.func111,qoX⟩
 ·cases h
theorem kg:QG Tryz.prog qg:=by
 intro f e h
 unfold qg at h
 cases h0:qcT f with
 |some x=>rw [h0]at h;cases h;exact qpp f e h0
 |none=>
 rw [h0]at h
 simp only at h
 cases h1:qcU f with
 |some x=>rw [h1]at h;cases h;exact qpq f e h1
 |none=>
 rw [h1]at h
 simp only at h
 exact qpr f e h
end Go.Vm
