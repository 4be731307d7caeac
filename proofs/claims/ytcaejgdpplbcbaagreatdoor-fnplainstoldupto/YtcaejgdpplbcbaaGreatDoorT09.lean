import Derived.Test.YtcaejgdpplbcbaaGreatDoorT04
import Derived.Test.YtcaejgdpplbcbaaGreatDoorT08
import Derived.Test.YtcaejgdpplbcbaaGreatDoorProg
import Derived.KernelRfl
set_option autoImplicit false
set_option maxRecDepth 100000
set_option maxHeartbeats 8000000
namespace Go.Vm
open Go.Proofs
theorem qst:qi Tryz.prog Tryz.f5 YF=some YF:=by kernel_rfl
theorem qsD:qi Tryz.prog Tryz.f11 qcV=some qcV:=by kernel_rfl
theorem qsJ:qi Tryz.prog Tryz.f13 qc1=some qc1:=by kernel_rfl
theorem qsx:qi Tryz.prog Tryz.f15 qcP=some qcP:=by kernel_rfl
theorem qsu:qi Tryz.prog Tryz.f20 X2=some X2:=by kernel_rfl
theorem qs5:qi Tryz.prog Tryz.f21 YJ=some YJ:=by kernel_rfl
theorem qs1:qi Tryz.prog Tryz.f22 X5=some X5:=by kernel_rfl
theorem qs2:qi Tryz.prog Tryz.f23 X6=some X6:=by kernel_rfl
theorem qs3:qi Tryz.prog Tryz.f24 X7=some X7:=by kernel_rfl
theorem qrK:qi Tryz.prog Tryz.f25 YA=some YA:=by kernel_rfl
theorem qtk:qi Tryz.prog Tryz.f26 YN=some YN:=by kernel_rfl
theorem qry:qi Tryz.prog Tryz.f27 Qb=some Qb:=by kernel_rfl
theorem qs9:qi Tryz.prog Tryz.f28 Qe=some Qe:=by kernel_rfl
theorem qrz:qi Tryz.prog Tryz.f29 XM=some XM:=by kernel_rfl
theorem qta:qi Tryz.prog Tryz.f30 X9=some X9:=by kernel_rfl
theorem qrC:qi Tryz.prog Tryz.f31 Yx=some Yx:=by kernel_rfl
theorem qtd:qi Tryz.prog Tryz.f32 Q1=some Q1:=by kernel_rfl
theorem qtf:qi Tryz.prog Tryz.f34 Q2=some Q2:=by kernel_rfl
theorem qsT:qi Tryz.prog Tryz.f37 QZ=some QZ:=by kernel_rfl
theorem qsU:qi Tryz.prog Tryz.f39 X3=some X3:=by kernel_rfl
theorem qtl:qi Tryz.prog Tryz.f40 YO=some YO:=by kernel_rfl
theorem qsW:qi Tryz.prog Tryz.f44 ZG=some ZG:=by kernel_rfl
theorem qrx:qi Tryz.prog Tryz.f67 qcq=some qcq:=by kernel_rfl
theorem qs7:qi Tryz.prog Tryz.f68 qc9=some qc9:=by kernel_rfl
theorem qsC:qi Tryz.prog Tryz.f73 qcU=some qcU:=by kernel_rfl
theorem qsE:qi Tryz.prog Tryz.f74 qcW=some qcW:=by kernel_rfl
theorem qsI:qi Tryz.prog Tryz.f75 qc0=some qc0:=by kernel_rfl
theorem qsK:qi Tryz.prog Tryz.f76 qc2=some qc2:=by kernel_rfl
theorem qsw:qi Tryz.prog Tryz.f77 qcO=some qcO:=by kernel_rfl
theorem qsy:qi Tryz.prog Tryz.f78 qcQ=some qcQ:=by kernel_rfl
theorem qut:qi Tryz.prog Tryz.f80 KA=some KA:=by kernel_rfl
theorem qso:qi Tryz.prog Tryz.f82 X0=some X0:=by kernel_rfl
theorem qrA:qi Tryz.prog Tryz.f84 qcr=some qcr:=by kernel_rfl
theorem qtq:qi Tryz.prog Tryz.f92 Ke=some Ke:=by kernel_rfl
theorem qtr:qi Tryz.prog Tryz.f93 Kf=some Kf:=by kernel_rfl
theorem qs4:qi Tryz.prog Tryz.f94 YI=some YI:=by kernel_rfl
theorem qtu:qi Tryz.prog Tryz.f95 Qg=some Qg:=by kernel_rfl
theorem qs0:qi Tryz.prog Tryz.f96 YH=some YH:=by kernel_rfl
theorem qua:qi Tryz.prog Tryz.f97 Q7=some Q7:=by kernel_rfl
theorem qrI:qi Tryz.prog Tryz.f98 Yz=some Yz:=by kernel_rfl
theorem qse:qi Tryz.prog Tryz.f99 XV=some XV:=by kernel_rfl
theorem qti:qi Tryz.prog Tryz.f100 YM=some YM:=by kernel_rfl
theorem quq:qi Tryz.prog Tryz.f101 jI=some jI:=by kernel_rfl
theorem qrt:qi Tryz.prog Tryz.f102 XK=some XK:=by kernel_rfl
theorem qrW:qi Tryz.prog Tryz.f103 XR=some XR:=by kernel_rfl
theorem qr0:qi Tryz.prog Tryz.f104 XU=some XU:=by kernel_rfl
theorem qrO:qi Tryz.prog Tryz.f105 YB=some YB:=by kernel_rfl
theorem qum:qi Tryz.prog Tryz.f106 Kx=some Kx:=by kernel_rfl
theorem qtz:qi Tryz.prog Tryz.f107 Kk=some Kk:=by kernel_rfl
theorem qun:qi Tryz.prog Tryz.f108 YY=some YY:=by kernel_rfl
theorem qrX:qi Tryz.prog Tryz.f109 QY=some QY:=by kernel_rfl
theorem qrw:qi Tryz.prog Tryz.f110 yG=some yG:=by kernel_rfl
theorem qs6:qi Tryz.prog Tryz.f111 qal=some qal:=by kernel_rfl
theorem qtF:qi Tryz.prog Tryz.f112 YR=some YR:=by kernel_rfl
theorem qtg:qi Tryz.prog Tryz.f113 YK=some YK:=by kernel_rfl
theorem qte:qi Tryz.prog Tryz.f114 Qf=some Qf:=by kernel_rfl
theorem quf:qi Tryz.prog Tryz.f115 YW=some YW:=by kernel_rfl
theorem quc:qi Tryz.prog Tryz.f116 ku=some ku:=by kernel_rfl
theorem qur:qi Tryz.prog Tryz.f117 Ky=some Ky:=by kernel_rfl
theorem qtj:qi Tryz.prog Tryz.f119 qda=some qda:=by kernel_rfl
theorem qud:qi Tryz.prog Tryz.f120 Kt=some Kt:=by kernel_rfl
theorem quv:qi Tryz.prog Tryz.f121 KC=some KC:=by kernel_rfl
theorem qt8:qi Tryz.prog Tryz.f122 xE=some xE:=by kernel_rfl
theorem qub:qi Tryz.prog Tryz.f128 ZQ=some ZQ:=by kernel_rfl
theorem qrL:qi Tryz.prog Tryz.f131 qcv=some qcv:=by kernel_rfl
theorem qtm:qi Tryz.prog Tryz.f132 Ka=some Ka:=by kernel_rfl
theorem qus:qi Tryz.prog Tryz.f135 Kz=some Kz:=by kernel_rfl
theorem qtp:qi Tryz.prog Tryz.f139 Kc=some Kc:=by kernel_rfl
theorem qsl:qi Tryz.prog Tryz.f144 XZ=some XZ:=by kernel_rfl
theorem qtG:qi Tryz.prog Tryz.f150 YS=some YS:=by kernel_rfl
theorem qrT:qi Tryz.prog Tryz.f155 qcy=some qcy:=by kernel_rfl
theorem quk:qi Tryz.prog Tryz.f156 qdf=some qdf:=by kernel_rfl
theorem qrv:qi Tryz.prog Tryz.f167 XL=some XL:=by kernel_rfl
theorem qrE:qi Tryz.prog Tryz.f169 qct=some qct:=by kernel_rfl
theorem qsB:qi Tryz.prog Tryz.f170 qcT=some qcT:=by kernel_rfl
theorem qsH:qi Tryz.prog Tryz.f171 qcZ=some qcZ:=by kernel_rfl
theorem qsv:qi Tryz.prog Tryz.f172 qcN=some qcN:=by kernel_rfl
theorem que:qi Tryz.prog Tryz.f173 Ku=some Ku:=by kernel_rfl
theorem qtb:qi Tryz.prog Tryz.f175 ZJ=some ZJ:=by kernel_rfl
theorem quu:qi Tryz.prog Tryz.f177 KB=some KB:=by kernel_rfl
theorem qt5:qi Tryz.prog Tryz.f186 Kr=some Kr:=by kernel_rfl
theorem qtA:qi Tryz.prog Tryz.f187 kr=some kr:=by kernel_rfl
theorem qsZ:qi Tryz.prog Tryz.f188 X4=some X4:=by kernel_rfl
theorem qsk:qi Tryz.prog Tryz.f189 zZ=some zZ:=by kernel_rfl
theorem qsr:qi Tryz.prog Tryz.f190 kq=some kq:=by kernel_rfl
theorem qsf:qi Tryz.prog Tryz.f191 XW=some XW:=by kernel_rfl
theorem qsg:qi Tryz.prog Tryz.f192 XX=some XX:=by kernel_rfl
theorem qsj:qi Tryz.prog Tryz.f193 YE=some YE:=by kernel_rfl
theorem qtx:qi Tryz.prog Tryz.f194 Kj=some Kj:=by kernel_rfl
theorem qtE:qi Tryz.prog Tryz.f195 Q3=some Q3:=by kernel_rfl
theorem qup:qi Tryz.prog Tryz.f196 ZR=some ZR:=by kernel_rfl
theorem qsS:qi Tryz.prog Tryz.f197 Qd=some Qd:=by kernel_rfl
theorem qrP:qi Tryz.prog Tryz.f198 XP=some XP:=by kernel_rfl
theorem qtw:qi Tryz.prog Tryz.f199 Ki=some Ki:=by kernel_rfl
theorem qtJ:qi Tryz.prog Tryz.f200 Kn=some Kn:=by kernel_rfl
theorem qtP:qi Tryz.prog Tryz.f201 yp=some yp:=by kernel_rfl
theorem qtS:qi Tryz.prog Tryz.f202 Q4=some Q4:=by kernel_rfl
theorem qt2:qi Tryz.prog Tryz.f203 jH=some jH:=by kernel_rfl
theorem qtV:qi Tryz.prog Tryz.f204 Qh=some Qh:=by kernel_rfl
theorem quh:qi Tryz.prog Tryz.f205 Kv=some Kv:=by kernel_rfl
theorem qsR:qi Tryz.prog Tryz.f206 YG=some YG:=by kernel_rfl
theorem qs8:qi Tryz.prog Tryz.f207 X8=some X8:=by kernel_rfl
theorem qug:qi Tryz.prog Tryz.f208 YX=some YX:=by kernel_rfl
theorem qtv:qi Tryz.prog Tryz.f209 qdb=some qdb:=by kernel_rfl
theorem qtI:qi Tryz.prog Tryz.f210 qdd=some qdd:=by kernel_rfl
theorem quw:qi Tryz.prog Tryz.f211 KD=some KD:=by kernel_rfl
theorem qsX:qi Tryz.prog Tryz.f212 ZH=some ZH:=by kernel_rfl
theorem qt6:qi Tryz.prog Tryz.f213 Ks=some Ks:=by kernel_rfl
theorem qt7:qi Tryz.prog Tryz.f214 ZP=some ZP:=by kernel_rfl
theorem qsq:qi Tryz.prog Tryz.f218 qcL=some qcL:=by kernel_rfl
theorem qtn:qi Tryz.prog Tryz.f219 YP=some YP:=by kernel_rfl
theorem qrJ:qi Tryz.prog Tryz.f224 qcu=some qcu:=by kernel_rfl
theorem qsh:qi Tryz.prog Tryz.f225 YD=some YD:=by kernel_rfl
theorem qru:qi Tryz.prog Tryz.f228 qcp=some qcp:=by kernel_rfl
theorem qrN:qi Tryz.prog Tryz.f231 qcx=some qcx:=by kernel_rfl
theorem qrU:qi Tryz.prog Tryz.f234 qcz=some qcz:=by kernel_rfl
theorem qsP:qi Tryz.prog Tryz.f235 qc7=some qc7:=by kernel_rfl
theorem qrV:qi Tryz.prog Tryz.f255 qcA=some qcA:=by kernel_rfl
theorem qsF:qi Tryz.prog Tryz.f256 qcX=some qcX:=by kernel_rfl
theorem qsL:qi Tryz.prog Tryz.f257 qc3=some qc3:=by kernel_rfl
theorem qsz:qi Tryz.prog Tryz.f258 qcR=some qcR:=by kernel_rfl
theorem qts:qi Tryz.prog Tryz.f261 Kg=some Kg:=by kernel_rfl
theorem qtH:qi Tryz.prog Tryz.f262 Km=some Km:=by kernel_rfl
theorem qtC:qi Tryz.prog Tryz.f263 Kl=some Kl:=by kernel_rfl
theorem qtt:qi Tryz.prog Tryz.f264 Kh=some Kh:=by kernel_rfl
theorem qsY:qi Tryz.prog Tryz.f265 ZI=some ZI:=by kernel_rfl
theorem qr2:qi Tryz.prog Tryz.f266 YC=some YC:=by kernel_rfl
theorem qrY:qi Tryz.prog Tryz.f267 XS=some XS:=by kernel_rfl
theorem qrs:qi Tryz.prog Tryz.f268 Qa=some Qa:=by kernel_rfl
theorem qrZ:qi Tryz.prog Tryz.f269 XT=some XT:=by kernel_rfl
theorem qtD:qi Tryz.prog Tryz.f271 xc=some xc:=by kernel_rfl
theorem qrQ:qi Tryz.prog Tryz.f272 XQ=some XQ:=by kernel_rfl
theorem qtQ:qi Tryz.prog Tryz.f273 ZM=some ZM:=by kernel_rfl
theorem qtM:qi Tryz.prog Tryz.f274 Ko=some Ko:=by kernel_rfl
theorem qtO:qi Tryz.prog Tryz.f275 Kp=some Kp:=by kernel_rfl
theorem qtL:qi Tryz.prog Tryz.f276 ZK=some ZK:=by kernel_rfl
theorem qtN:qi Tryz.prog Tryz.f277 ZL=some ZL:=by kernel_rfl
theorem qtK:qi Tryz.prog Tryz.f278 kL=some kL:=by kernel_rfl
theorem qth:qi Tryz.prog Tryz.f279 YL=some YL:=by kernel_rfl
theorem qtY:qi Tryz.prog Tryz.f280 jG=some jG:=by kernel_rfl
theorem qtU:qi Tryz.prog Tryz.f281 Q5=some Q5:=by kernel_rfl
theorem qt9:qi Tryz.prog Tryz.f282 YV=some YV:=by kernel_rfl
theorem qui:qi Tryz.prog Tryz.f283 Kw=some Kw:=by kernel_rfl
theorem qsV:qi Tryz.prog Tryz.f284 zF=some zF:=by kernel_rfl
theorem qty:qi Tryz.prog Tryz.f285 qdc=some qdc:=by kernel_rfl
theorem qto:qi Tryz.prog Tryz.f286 Kb=some Kb:=by kernel_rfl
theorem qtc:qi Tryz.prog Tryz.f287 Q0=some Q0:=by kernel_rfl
theorem qss:qi Tryz.prog Tryz.f290 qcM=some qcM:=by kernel_rfl
theorem qrM:qi Tryz.prog Tryz.f294 qcw=some qcw:=by kernel_rfl
theorem qsO:qi Tryz.prog Tryz.f296 qc6=some qc6:=by kernel_rfl
theorem qul:qi Tryz.prog Tryz.f301 qdg=some qdg:=by kernel_rfl
theorem qsi:qi Tryz.prog Tryz.f311 XY=some XY:=by kernel_rfl
theorem qr1:qi Tryz.prog Tryz.f312 ZE=some ZE:=by kernel_rfl
theorem qsG:qi Tryz.prog Tryz.f321 qcY=some qcY:=by kernel_rfl
theorem qsM:qi Tryz.prog Tryz.f322 qc4=some qc4:=by kernel_rfl
theorem qsA:qi Tryz.prog Tryz.f323 qcS=some qcS:=by kernel_rfl
theorem qrB:qi Tryz.prog Tryz.f325 QX=some QX:=by kernel_rfl
theorem qrF:qi Tryz.prog Tryz.f326 Yy=some Yy:=by kernel_rfl
theorem qtB:qi Tryz.prog Tryz.f330 YQ=some YQ:=by kernel_rfl
theorem qtR:qi Tryz.prog Tryz.f331 Kq=some Kq:=by kernel_rfl
theorem qtT:qi Tryz.prog Tryz.f332 xW=some xW:=by kernel_rfl
theorem qtW:qi Tryz.prog Tryz.f333 YT=some YT:=by kernel_rfl
theorem qtZ:qi Tryz.prog Tryz.f334 Qi=some Qi:=by kernel_rfl
theorem qt0:qi Tryz.prog Tryz.f335 Q6=some Q6:=by kernel_rfl
theorem qt3:qi Tryz.prog Tryz.f336 Qj=some Qj:=by kernel_rfl
theorem qsN:qi Tryz.prog Tryz.f343 qc5=some qc5:=by kernel_rfl
theorem qsQ:qi Tryz.prog Tryz.f344 qc8=some qc8:=by kernel_rfl
theorem quj:qi Tryz.prog Tryz.f346 qde=some qde:=by kernel_rfl
theorem qrD:qi Tryz.prog Tryz.f357 qcs=some qcs:=by kernel_rfl
theorem qrG:qi Tryz.prog Tryz.f361 XN=some XN:=by kernel_rfl
theorem qr3:qi Tryz.prog Tryz.f362 yl=some yl:=by kernel_rfl
theorem qt1:qi Tryz.prog Tryz.f365 ZO=some ZO:=by kernel_rfl
theorem qtX:qi Tryz.prog Tryz.f366 ZN=some ZN:=by kernel_rfl
theorem qt4:qi Tryz.prog Tryz.f367 YU=some YU:=by kernel_rfl
theorem qsb:qi Tryz.prog Tryz.f387 qcH=some qcH:=by kernel_rfl
theorem qsa:qi Tryz.prog Tryz.f388 qcG=some qcG:=by kernel_rfl
theorem qrR:qi Tryz.prog Tryz.f395 jF=some jF:=by kernel_rfl
theorem qsm:qi Tryz.prog Tryz.f396 ZF=some ZF:=by kernel_rfl
theorem qsp:qi Tryz.prog Tryz.f397 X1=some X1:=by kernel_rfl
theorem qrS:qi Tryz.prog Tryz.f398 ZD=some ZD:=by kernel_rfl
theorem qrH:qi Tryz.prog Tryz.f399 XO=some XO:=by kernel_rfl
theorem qr4:qi Tryz.prog Tryz.f400 Qc=some Qc:=by kernel_rfl
theorem qr9:qi Tryz.prog Tryz.f418 qcF=some qcF:=by kernel_rfl
theorem qsn:qi Tryz.prog Tryz.f425 qcK=some qcK:=by kernel_rfl
theorem qr8:qi Tryz.prog Tryz.f429 qcE=some qcE:=by kernel_rfl
theorem qsc:qi Tryz.prog Tryz.f430 qcI=some qcI:=by kernel_rfl
theorem qr6:qi Tryz.prog Tryz.f431 qcC=some qcC:=by kernel_rfl
theorem qr7:qi Tryz.prog Tryz.f432 qcD=some qcD:=by kernel_rfl
theorem qr5:qi Tryz.prog Tryz.f433 qcB=some qcB:=by kernel_rfl
theorem qsd:qi Tryz.prog Tryz.f434 qcJ=some qcJ:=by kernel_rfl
theorem quy:kM Tryz.prog qe0:=by
 intro f e h
 unfold qe0 at h
 split at h
 ·simp only [Option.some.injEq]at h;subst h;exact ⟨Tryz.f5,YF,Tryz.func5,qst⟩
 ·simp only [Option.some.injEq]at h;subst h;exact ⟨Tryz.f11,qcV,Tryz.func11,qsD⟩
 ·simp only [Option.some.injEq]at h;subst h;exact ⟨Tryz.f13,qc1,Tryz.func13,qsJ⟩
 ·simp only [Option.some.injEq]at h;subst h;exact ⟨Tryz.f15,qcP,Tryz.func15,qsx⟩
 ·simp only [Option.some.injEq]at h;subst h;exact ⟨Tryz.f20,X2,Tryz.func20,qsu⟩
 ·simp only [Option.some.injEq]at h;subst h;exact ⟨Tryz.f21,YJ,Tryz.func21,qs5⟩
 ·simp only [Option.some.injEq]at h;subst h;exact ⟨Tryz.f22,X5,Tryz.func22,qs1⟩
 ·simp only [Option.some.injEq]at h;subst h;exact ⟨Tryz.f23,X6,Tryz.func23,qs2⟩
 ·simp only [Option.some.injEq]at h;subst h;exact ⟨Tryz.f24,X7,Tryz.func24,qs3⟩
 ·simp only [Option.some.injEq]at h;subst h;exact ⟨Tryz.f25,YA,Tryz.func25,qrK⟩
 ·simp only [Option.some.injEq]at h;subst h;exact ⟨Tryz.f26,YN,Tryz.func26,qtk⟩
 ·simp only [Option.some.injEq]at h;subst h;exact ⟨Tryz.f27,Qb,Tryz.func27,qry⟩
 ·simp only [Option.some.injEq]at h;subst h;exact ⟨Tryz.f28,Qe,Tryz.func28,qs9⟩
 ·simp only [Option.some.injEq]at h;subst h;exact ⟨Tryz.f29,XM,Tryz.func29,qrz⟩
 ·simp only [Option.some.injEq]at h;subst h;exact ⟨Tryz.f30,X9,Tryz.func30,qta⟩
 ·simp only [Option.some.injEq]at h;subst h;exact ⟨Tryz.f31,Yx,Tryz.func31,qrC⟩
 ·simp only [Option.some.injEq]at h;subst h;exact ⟨Tryz.f32,Q1,Tryz.func32,qtd⟩
 ·simp only [Option.some.injEq]at h;subst h;exact ⟨Tryz.f34,Q2,Tryz.func34,qtf⟩
 ·simp only [Option.some.injEq]at h;subst h;exact ⟨Tryz.f37,QZ,Tryz.func37,qsT⟩
 ·simp only [Option.some.injEq]at h;subst h;exact ⟨Tryz.f39,X3,Tryz.func39,qsU⟩
 ·simp only [Option.some.injEq]at h;subst h;exact ⟨Tryz.f40,YO,Tryz.func40,qtl⟩
 ·simp only [Option.some.injEq]at h;subst h;exact ⟨Tryz.f44,ZG,Tryz.func44,qsW⟩
 ·cases h
theorem quz:kM Tryz.prog qe1:=by
 intro f e h
 unfold qe1 at h
 split at h
 ·simp only [Option.some.injEq]at h;subst h;exact ⟨Tryz.f67,qcq,Tryz.func67,qrx⟩
 ·simp only [Option.some.injEq]at h;subst h;exact ⟨Tryz.f68,qc9,Tryz.func68,qs7⟩
 ·simp only [Option.some.injEq]at h;subst h;exact ⟨Tryz.f73,qcU,Tryz.func73,qsC⟩
 ·simp only [Option.some.injEq]at h;subst h;exact ⟨Tryz.f74,qcW,Tryz.func74,qsE⟩
 ·simp only [Option.some.injEq]at h;subst h;exact ⟨Tryz.f75,qc0,Tryz.func75,qsI⟩
 ·simp only [Option.some.injEq]at h;subst h;exact ⟨Tryz.f76,qc2,Tryz.func76,qsK⟩
 ·simp only [Option.some.injEq]at h;subst h;exact ⟨Tryz.f77,qcO,Tryz.func77,qsw⟩
 ·simp only [Option.some.injEq]at h;subst h;exact ⟨Tryz.f78,qcQ,Tryz.func78,qsy⟩
 ·simp only [Option.some.injEq]at h;subst h;exact ⟨Tryz.f80,KA,Tryz.func80,qut⟩
 ·simp only [Option.some.injEq]at h;subst h;exact ⟨Tryz.f82,X0,Tryz.func82,qso⟩
 ·simp only [Option.some.injEq]at h;subst h;exact ⟨Tryz.f84,qcr,Tryz.func84,qrA⟩
 ·simp only [Option.some.injEq]at h;subst h;exact ⟨Tryz.f92,Ke,Tryz.func92,qtq⟩
 ·simp only [Option.some.injEq]at h;subst h;exact ⟨Tryz.f93,Kf,Tryz.func93,qtr⟩
 ·simp only [Option.some.injEq]at h;subst h;exact ⟨Tryz.f94,YI,Tryz.func94,qs4⟩
 ·simp only [Option.some.injEq]at h;subst h;exact ⟨Tryz.f95,Qg,Tryz.func95,qtu⟩
 ·simp only [Option.some.injEq]at h;subst h;exact ⟨Tryz.f96,YH,Tryz.func96,qs0⟩
 ·simp only [Option.some.injEq]at h;subst h;exact ⟨Tryz.f97,Q7,Tryz.func97,qua⟩
 ·simp only [Option.some.injEq]at h;subst h;exact ⟨Tryz.f98,Yz,Tryz.func98,qrI⟩
 ·simp only [Option.some.injEq]at h;subst h;exact ⟨Tryz.f99,XV,Tryz.func99,qse⟩
 ·simp only [Option.some.injEq]at h;subst h;exact ⟨Tryz.f100,YM,Tryz.func100,qti⟩
 ·simp only [Option.some.injEq]at h;subst h;exact ⟨Tryz.f101,jI,Tryz.func101,quq⟩
 ·simp only [Option.some.injEq]at h;subst h;exact ⟨Tryz.f102,XK,Tryz.func102,qrt⟩
 ·simp only [Option.some.injEq]at h;subst h;exact ⟨Tryz.f103,XR,Tryz.func103,qrW⟩
 ·cases h
theorem quA:kM Tryz.prog qe2:=by
 intro f e h
 unfold qe2 at h
 split at h
 ·simp only [Option.some.injEq]at h;subst h;exact ⟨Tryz.f104,XU,Tryz.func104,qr0⟩
 ·simp only [Option.some.injEq]at h;subst h;exact ⟨Tryz.f105,YB,Tryz.func105,qrO⟩
 ·simp only [Option.some.injEq]at h;subst h;exact ⟨Tryz.f106,Kx,Tryz.func106,qum⟩
 ·simp only [Option.some.injEq]at h;subst h;exact ⟨Tryz.f107,Kk,Tryz.func107,qtz⟩
 ·simp only [Option.some.injEq]at h;subst h;exact ⟨Tryz.f108,YY,Tryz.func108,qun⟩
 ·simp only [Option.some.injEq]at h;subst h;exact ⟨Tryz.f109,QY,Tryz.func109,qrX⟩
 ·simp only [Option.some.injEq]at h;subst h;exact ⟨Tryz.f110,yG,Tryz.func110,qrw⟩
 ·simp only [Option.some.injEq]at h;subst h;exact ⟨Tryz.f111,qal,Tryz.func111,qs6⟩
 ·simp only [Option.some.injEq]at h;subst h;exact ⟨Tryz.f112,YR,Tryz.func112,qtF⟩
 ·simp only [Option.some.injEq]at h;subst h;exact ⟨Tryz.f113,YK,Tryz.func113,qtg⟩
 ·simp only [Option.some.injEq]at h;subst h;exact ⟨Tryz.f114,Qf,Tryz.func114,qte⟩
 ·simp only [Option.some.injEq]at h;subst h;exact ⟨Tryz.f115,YW,Tryz.func115,quf⟩
 ·simp only [Option.some.injEq]at h;subst h;exact ⟨Tryz.f116,ku,Tryz.func116,quc⟩
 ·simp only [Option.some.injEq]at h;subst h;exact ⟨Tryz.f117,Ky,Tryz.func117,qur⟩
 ·simp only [Option.some.injEq]at h;subst h;exact ⟨Tryz.f119,qda,Tryz.func119,qtj⟩
 ·simp only [Option.some.injEq]at h;subst h;exact ⟨Tryz.f120,Kt,Tryz.func120,qud⟩
 ·simp only [Option.some.injEq]at h;subst h;exact ⟨Tryz.f121,KC,Tryz.func121,quv⟩
 ·simp only [Option.some.injEq]at h;subst h;exact ⟨Tryz.f122,xE,Tryz.func122,qt8⟩
 ·simp only [Option.some.injEq]at h;subst h;exact ⟨Tryz.f128,ZQ,Tryz.func128,qub⟩
 ·simp only [Option.some.injEq]at h;subst h;exact ⟨Tryz.f131,qcv,Tryz.func131,qrL⟩
 ·simp only [Option.some.injEq]at h;subst h;exact ⟨Tryz.f132,Ka,Tryz.func132,qtm⟩
 ·simp only [Option.some.injEq]at h;subst h;exact ⟨Tryz.f135,Kz,Tryz.func135,qus⟩
 ·simp only [Option.some.injEq]at h;subst h;exact ⟨Tryz.f139,Kc,Tryz.func139,qtp⟩
 ·simp only [Option.some.injEq]at h;subst h;exact ⟨Tryz.f144,XZ,Tryz.func144,qsl⟩
 ·simp only [Option.some.injEq]at h;subst h;exact ⟨Tryz.f150,YS,Tryz.func150,qtG⟩
 ·simp only [Option.some.injEq]at h;subst h;exact ⟨Tryz.f155,qcy,Tryz.func155,qrT⟩
 ·cases h
theorem quB:kM Tryz.prog qe3:=by
 intro f e h
 unfold qe3 at h
 split at h
 ·simp only [Option.some.injEq]at h;subst h;exact ⟨Tryz.f156,qdf,Tryz.func156,quk⟩
 ·simp only [Option.some.injEq]at h;subst h;exact qzW
 ·simp only [Option.some.injEq]at h;subst h;exact qAg
 ·simp only [Option.some.injEq]at h;subst h;exact ⟨Tryz.f167,XL,Tryz.func167,qrv⟩
 ·simp only [Option.some.injEq]at h;subst h;exact ⟨Tryz.f169,qct,Tryz.func169,qrE⟩
 ·simp only [Option.some.injEq]at h;subst h;exact ⟨Tryz.f170,qcT,Tryz.func170,qsB⟩
 ·simp only [Option.some.injEq]at h;subst h;exact ⟨Tryz.f171,qcZ,Tryz.func171,qsH⟩
 ·simp only [Option.some.injEq]at h;subst h;exact ⟨Tryz.f172,qcN,Tryz.func172,qsv⟩
 ·simp only [Option.some.injEq]at h;subst h;exact ⟨Tryz.f173,Ku,Tryz.func173,que⟩
 ·simp only [Option.some.injEq]at h;subst h;exact ⟨Tryz.f175,ZJ,Tryz.func175,qtb⟩
 ·simp only [Option.some.injEq]at h;subst h;exact ⟨Tryz.f177,KB,Tryz.func177,quu⟩
 ·simp only [Option.some.injEq]at h;subst h;exact ⟨Tryz.f186,Kr,Tryz.func186,qt5⟩
 ·simp only [Option.some.injEq]at h;subst h;exact ⟨Tryz.f187,kr,Tryz.func187,qtA⟩
 ·simp only [Option.some.injEq]at h;subst h;exact ⟨Tryz.f188,X4,Tryz.func188,qsZ⟩
 ·simp only [Option.some.injEq]at h;subst h;exact ⟨Tryz.f189,zZ,Tryz.func189,qsk⟩
 ·simp only [Option.some.injEq]at h;subst h;exact ⟨Tryz.f190,kq,Tryz.func190,qsr⟩
 ·simp only [Option.some.injEq]at h;subst h;exact ⟨Tryz.f191,XW,Tryz.func191,qsf⟩
 ·simp only [Option.some.injEq]at h;subst h;exact ⟨Tryz.f192,XX,Tryz.func192,qsg⟩
 ·simp only [Option.some.injEq]at h;subst h;exact ⟨Tryz.f193,YE,Tryz.func193,qsj⟩
 ·simp only [Option.some.injEq]at h;subst h;exact ⟨Tryz.f194,Kj,Tryz.func194,qtx⟩
 ·simp only [Option.some.injEq]at h;subst h;exact ⟨Tryz.f195,Q3,Tryz.func195,qtE⟩
 ·simp only [Option.some.injEq]at h;subst h;exact ⟨Tryz.f196,ZR,Tryz.func196,qup⟩
 ·simp only [Option.some.injEq]at h;subst h;exact ⟨Tryz.f197,Qd,Tryz.func197,qsS⟩
 ·simp only [Option.some.injEq]at h;subst h;exact ⟨Tryz.f198,XP,Tryz.func198,qrP⟩
 ·simp only [Option.some.injEq]at h;subst h;exact ⟨Tryz.f199,Ki,Tryz.func199,qtw⟩
 ·simp only [Option.some.injEq]at h;subst h;exact ⟨Tryz.f200,Kn,Tryz.func200,qtJ⟩
 ·simp only [Option.some.injEq]at h;subst h;exact ⟨Tryz.f201,yp,Tryz.func201,qtP⟩
 ·simp only [Option.some.injEq]at h;subst h;exact ⟨Tryz.f202,Q4,Tryz.func202,qtS⟩
 ·simp only [Option.some.injEq]at h;subst h;exact ⟨Tryz.f203,jH,Tryz.func203,qt2⟩
 ·simp only [Option.some.injEq]at h;subst h;exact ⟨Tryz.f204,Qh,Tryz.func204,qtV⟩
 ·simp only [Option.some.injEq]at h;subst h;exact ⟨Tryz.f205,Kv,Tryz.func205,quh⟩
 ·simp only [Option.some.injEq]at h;subst h;exact ⟨Tryz.f206,YG,Tryz.func206,qsR⟩
 ·simp only [Option.some.injEq]at h;subst h;exact ⟨Tryz.f207,X8,Tryz.func207,qs8⟩
 ·simp only [Option.some.injEq]at h;subst h;exact ⟨Tryz.f208,YX,Tryz.func208,qug⟩
 ·cases h
theorem quC:kM Tryz.prog qe4:=by
 intro f e h
 unfold qe4 at h
 split at h
 ·simp only [Option.some.injEq]at h;subst h;exact ⟨Tryz.f209,qdb,Tryz.func209,qtv⟩
 ·simp only [Option.some.injEq]at h;subst h;exact ⟨Tryz.f210,qdd,Tryz.func210,qtI⟩
 ·simp only [Option.some.injEq]at h;subst h;exact ⟨Tryz.f211,KD,Tryz.func211,quw⟩
 ·simp only [Option.some.injEq]at h;subst h;exact ⟨Tryz.f212,ZH,Tryz.func212,qsX⟩
 ·simp only [Option.some.injEq]at h;subst h;exact ⟨Tryz.f213,Ks,Tryz.func213,qt6⟩
 ·simp only [Option.some.injEq]at h;subst h;exact ⟨Tryz.f214,ZP,Tryz.func214,qt7⟩
 ·simp only [Option.some.injEq]at h;subst h;exact ⟨Tryz.f218,qcL,Tryz.func218,qsq⟩
 ·simp only [Option.some.injEq]at h;subst h;exact ⟨Tryz.f219,YP,Tryz.func219,qtn⟩
 ·simp only [Option.some.injEq]at h;subst h;exact ⟨Tryz.f224,qcu,Tryz.func224,qrJ⟩
 ·simp only [Option.some.injEq]at h;subst h;exact ⟨Tryz.f225,YD,Tryz.func225,qsh⟩
 ·simp only [Option.some.injEq]at h;subst h;exact ⟨Tryz.f228,qcp,Tryz.func228,qru⟩
 ·simp only [Option.some.injEq]at h;subst h;exact ⟨Tryz.f231,qcx,Tryz.func231,qrN⟩
 ·simp only [Option.some.injEq]at h;subst h;exact ⟨Tryz.f234,qcz,Tryz.func234,qrU⟩
 ·simp only [Option.some.injEq]at h;subst h;exact ⟨Tryz.f235,qc7,Tryz.func235,qsP⟩
 ·simp only [Option.some.injEq]at h;subst h;exact qrl
 ·simp only [Option.some.injEq]at h;subst h;exact ⟨Tryz.f255,qcA,Tryz.func255,qrV⟩
 ·simp only [Option.some.injEq]at h;subst h;exact ⟨Tryz.f256,qcX,Tryz.func256,qsF⟩
 ·simp only [Option.some.injEq]at h;subst h;exact ⟨Tryz.f257,qc3,Tryz.func257,qsL⟩
 ·simp only [Option.some.injEq]at h;subst h;exact ⟨Tryz.f258,qcR,Tryz.func258,qsz⟩
 ·cases h
theorem quD:kM Tryz.prog qe5:=by
 intro f e h
 unfold qe5 at h
 split at h
 ·simp only [Option.some.injEq]at h;subst h;exact ⟨Tryz.f261,Kg,Tryz.func261,qts⟩
 ·simp only [Option.some.injEq]at h;subst h;exact ⟨Tryz.f262,Km,Tryz.func262,qtH⟩
 ·simp only [Option.some.injEq]at h;subst h;exact ⟨Tryz.f263,Kl,Tryz.func263,qtC⟩
 ·simp only [Option.some.injEq]at h;subst h;exact ⟨Tryz.f264,Kh,Tryz.func264,qtt⟩
 ·simp only [Option.some.injEq]at h;subst h;exact ⟨Tryz.f265,ZI,Tryz.func265,qsY⟩
 ·simp only [Option.some.injEq]at h;subst h;exact ⟨Tryz.f266,YC,Tryz.func266,qr2⟩
 ·simp only [Option.some.injEq]at h;subst h;exact ⟨Tryz.f267,XS,Tryz.func267,qrY⟩
 ·simp only [Option.some.injEq]at h;subst h;exact ⟨Tryz.f268,Qa,Tryz.func268,qrs⟩
 ·simp only [Option.some.injEq]at h;subst h;exact ⟨Tryz.f269,XT,Tryz.func269,qrZ⟩
 ·simp only [Option.some.injEq]at h;subst h;exact qro
 ·simp only [Option.some.injEq]at h;subst h;exact ⟨Tryz.f271,xc,Tryz.func271,qtD⟩
 ·simp only [Option.some.injEq]at h;subst h;exact ⟨Tryz.f272,XQ,Tryz.func272,qrQ⟩
 ·simp only [Option.some.injEq]at h;subst h;exact ⟨Tryz.f273,ZM,Tryz.func273,qtQ⟩
 ·simp only [Option.some.injEq]at h;subst h;exact ⟨Tryz.f274,Ko,Tryz.func274,qtM⟩
 ·simp only [Option.some.injEq]at h;subst h;exact ⟨Tryz.f275,Kp,Tryz.func275,qtO⟩
 ·simp only [Option.some.injEq]at h;subst h;exact ⟨Tryz.f276,ZK,Tryz.func276,qtL⟩
 ·simp only [Option.some.injEq]at h;subst h;exact ⟨Tryz.f277,ZL,Tryz.func277,qtN⟩
 ·simp only [Option.some.injEq]at h;subst h;exact ⟨Tryz.f278,kL,Tryz.func278,qtK⟩
 ·simp only [Option.some.injEq]at h;subst h;exact ⟨Tryz.f279,YL,Tryz.func279,qth⟩
 ·simp only [Option.some.injEq]at h;subst h;exact ⟨Tryz.f280,jG,Tryz.func280,qtY⟩
 ·simp only [Option.some.injEq]at h;subst h;exact ⟨Tryz.f281,Q5,Tryz.func281,qtU⟩
 ·simp only [Option.some.injEq]at h;subst h;exact ⟨Tryz.f282,YV,Tryz.func282,qt9⟩
 ·simp only [Option.some.injEq]at h;subst h;exact ⟨Tryz.f283,Kw,Tryz.func283,qui⟩
 ·simp only [Option.some.injEq]at h;subst h;exact ⟨Tryz.f284,zF,Tryz.func284,qsV⟩
 ·simp only [Option.some.injEq]at h;subst h;exact ⟨Tryz.f285,qdc,Tryz.func285,qty⟩
 ·simp only [Option.some.injEq]at h;subst h;exact ⟨Tryz.f286,Kb,Tryz.func286,qto⟩
 ·simp only [Option.some.injEq]at h;subst h;exact ⟨Tryz.f287,Q0,Tryz.func287,qtc⟩
 ·simp only [Option.some.injEq]at h;subst h;exact ⟨Tryz.f290,qcM,Tryz.func290,qss⟩
 ·simp only [Option.some.injEq]at h;subst h;exact ⟨Tryz.f294,qcw,Tryz.func294,qrM⟩
 ·simp only [Option.some.injEq]at h;subst h;exact ⟨Tryz.f296,qc6,Tryz.func296,qsO⟩
 ·simp only [Option.some.injEq]at h;subst h;exact ⟨Tryz.f301,qdg,Tryz.func301,qul⟩
 ·cases h
theorem quE:kM Tryz.prog qe6:=by
 intro f e h
 unfold qe6 at h
 split at h
 ·simp only [Option.some.injEq]at h;subst h;exact ⟨Tryz.f311,XY,Tryz.func311,qsi⟩
 ·simp only [Option.some.injEq]at h;subst h;exact ⟨Tryz.f312,ZE,Tryz.func312,qr1⟩
 ·simp only [Option.some.injEq]at h;subst h;exact ⟨Tryz.f321,qcY,Tryz.func321,qsG⟩
 ·simp only [Option.some.injEq]at h;subst h;exact ⟨Tryz.f322,qc4,Tryz.func322,qsM⟩
 ·simp only [Option.some.injEq]at h;subst h;exact ⟨Tryz.f323,qcS,Tryz.func323,qsA⟩
 ·simp only [Option.some.injEq]at h;subst h;exact ⟨Tryz.f325,QX,Tryz.func325,qrB⟩
 ·simp only [Option.some.injEq]at h;subst h;exact ⟨Tryz.f326,Yy,Tryz.func326,qrF⟩
 ·simp only [Option.some.injEq]at h;subst h;exact ⟨Tryz.f330,YQ,Tryz.func330,qtB⟩
 ·simp only [Option.some.injEq]at h;subst h;exact ⟨Tryz.f331,Kq,Tryz.func331,qtR⟩
 ·simp only [Option.some.injEq]at h;subst h;exact ⟨Tryz.f332,xW,Tryz.func332,qtT⟩
 ·simp only [Option.some.injEq]at h;subst h;exact ⟨Tryz.f333,YT,Tryz.func333,qtW⟩
 ·simp only [Option.some.injEq]at h;subst h;exact ⟨Tryz.f334,Qi,Tryz.func334,qtZ⟩
 ·simp only [Option.some.injEq]at h;subst h;exact ⟨Tryz.f335,Q6,Tryz.func335,qt0⟩
 ·simp only [Option.some.injEq]at h;subst h;exact ⟨Tryz.f336,Qj,Tryz.func336,qt3⟩
 ·simp only [Option.some.injEq]at h;subst h;exact ⟨Tryz.f343,qc5,Tryz.func343,qsN⟩
 ·simp only [Option.some.injEq]at h;subst h;exact ⟨Tryz.f344,qc8,Tryz.func344,qsQ⟩
 ·simp only [Option.some.injEq]at h;subst h;exact ⟨Tryz.f346,qde,Tryz.func346,quj⟩
 ·simp only [Option.some.injEq]at h;subst h;exact ⟨Tryz.f357,qcs,Tryz.func357,qrD⟩
 ·simp only [Option.some.injEq]at h;subst h;exact ⟨Tryz.f361,XN,Tryz.func361,qrG⟩
 ·simp only [Option.some.injEq]at h;subst h;exact ⟨Tryz.f362,yl,Tryz.func362,qr3⟩
 ·simp only [Option.some.injEq]at h;subst h;exact ⟨Tryz.f365,ZO,Tryz.func365,qt1⟩
 ·simp only [Option.some.injEq]at h;subst h;exact ⟨Tryz.f366,ZN,Tryz.func366,qtX⟩
 ·simp only [Option.some.injEq]at h;subst h;exact ⟨Tryz.f367,YU,Tryz.func367,qt4⟩
 ·cases h
theorem quF:kM Tryz.prog qe7:=by
 intro f e h
 unfold qe7 at h
 split at h
 ·simp only [Option.some.injEq]at h;subst h;exact qrn
 ·simp only [Option.some.injEq]at h;subst h;exact ⟨Tryz.f387,qcH,Tryz.func387,qsb⟩
 ·simp only [Option.some.injEq]at h;subst h;exact ⟨Tryz.f388,qcG,Tryz.func388,qsa⟩
 ·simp only [Option.some.injEq]at h;subst h;exact ⟨Tryz.f395,jF,Tryz.func395,qrR⟩
 ·simp only [Option.some.injEq]at h;subst h;exact ⟨Tryz.f396,ZF,Tryz.func396,qsm⟩
 ·simp only [Option.some.injEq]at h;subst h;exact ⟨Tryz.f397,X1,Tryz.func397,qsp⟩
 ·simp only [Option.some.injEq]at h;subst h;exact ⟨Tryz.f398,ZD,Tryz.func398,qrS⟩
 ·simp only [Option.some.injEq]at h;subst h;exact ⟨Tryz.f399,XO,Tryz.func399,qrH⟩
 ·simp only [Option.some.injEq]at h;subst h;exact ⟨Tryz.f400,Qc,Tryz.func400,qr4⟩
 ·simp only [Option.some.injEq]at h;subst h;exact ⟨Tryz.f418,qcF,Tryz.func418,qr9⟩
 ·simp only [Option.some.injEq]at h;subst h;exact ⟨Tryz.f425,qcK,Tryz.func425,qsn⟩
 ·simp only [Option.some.injEq]at h;subst h;exact ⟨Tryz.f429,qcE,Tryz.func429,qr8⟩
 ·simp only [Option.some.injEq]at h;subst h;exact ⟨Tryz.f430,qcI,Tryz.func430,qsc⟩
 ·simp only [Option.some.injEq]at h;subst h;exact ⟨Tryz.f431,qcC,Tryz.func431,qr6⟩
 ·simp only [Option.some.injEq]at h;subst h;exact ⟨Tryz.f432,qcD,Tryz.func432,qr7⟩
 ·simp only [Option.some.injEq]at h;subst h;exact ⟨Tryz.f433,qcB,Tryz.func433,qr5⟩
 ·simp only [Option.some.injEq]at h;subst h;exact ⟨Tryz.f434,qcJ,Tryz.func434,qsd⟩
 ·cases h
theorem quG:kM Tryz.prog qh6:=by
 intro f e h
 unfold qh6 at h
 split at h
 ·cases h
theorem qux:kM Tryz.prog qg:=by
 intro f e h
 unfold qg at h
 cases h0:qe0 f with
 |some x=>rw [h0]at h;cases h;exact quy f e h0
 |none=>
 rw [h0]at h
 simp only at h
 cases h1:qe1 f with
 |some x=>rw [h1]at h;cases h;exact quz f e h1
 |none=>
 rw [h1]at h
 simp only at h
 cases h2:qe2 f with
 |some x=>rw [h2]at h;cases h;exact quA f e h2
 |none=>
 rw [h2]at h
 simp only at h
 cases h3:qe3 f with
 |some x=>rw [h3]at h;cases h;exact quB f e h3
 |none=>
 rw [h3]at h
 simp only at h
 cases h4:qe4 f with
 |some x=>rw [h4]at h;cases h;exact quC f e h4
 |none=>
 rw [h4]at h
 simp only at h
 cases h5:qe5 f with
 |some x=>rw [h5]at h;cases h;exact quD f e h5
 |none=>
 rw [h5]at h
 simp only at h
 cases h6:qe6 f with
 |some x=>rw [h6]at h;cases h;exact quE f e h6
 |none=>
 rw [h6]at h
 simp only at h
 cases h7:qe7 f with
 |some x=>rw [h7]at h;cases h;exact quF f e h7
 |none=>
 rw [h7]at h
 simp only at h
 exact quG f e h
end Go.Vm
