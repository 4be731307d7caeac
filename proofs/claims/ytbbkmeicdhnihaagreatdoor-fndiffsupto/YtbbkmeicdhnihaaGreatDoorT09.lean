import Derived.Test.YtbbkmeicdhnihaaGreatDoorT04
import Derived.Test.YtbbkmeicdhnihaaGreatDoorT08
import Derived.Test.YtbbkmeicdhnihaaGreatDoorProg
import Derived.KernelRfl
set_option autoImplicit false
set_option maxRecDepth 100000
set_option maxHeartbeats 8000000
namespace Go.Vm
open Go.Proofs
theorem que:qi Tryz.prog Tryz.f6 Zq=some Zq:=by kernel_rfl
theorem quv:qi Tryz.prog Tryz.f7 qdH=some qdH:=by kernel_rfl
theorem quB:qi Tryz.prog Tryz.f9 qdN=some qdN:=by kernel_rfl
theorem qui:qi Tryz.prog Tryz.f11 qdz=some qdz:=by kernel_rfl
theorem quf:qi Tryz.prog Tryz.f16 KG=some KG:=by kernel_rfl
theorem qty:qi Tryz.prog Tryz.f18 qdp=some qdp:=by kernel_rfl
theorem qu0:qi Tryz.prog Tryz.f19 Zt=some Zt:=by kernel_rfl
theorem qtl:qi Tryz.prog Tryz.f21 qdn=some qdn:=by kernel_rfl
theorem quN:qi Tryz.prog Tryz.f23 Zr=some Zr:=by kernel_rfl
theorem quO:qi Tryz.prog Tryz.f25 KM=some KM:=by kernel_rfl
theorem qu6:qi Tryz.prog Tryz.f26 qdV=some qdV:=by kernel_rfl
theorem qto:qi Tryz.prog Tryz.f27 qdo=some qdo:=by kernel_rfl
theorem quY:qi Tryz.prog Tryz.f28 qdT=some qdT:=by kernel_rfl
theorem quS:qi Tryz.prog Tryz.f29 Y9=some Y9:=by kernel_rfl
theorem qtg:qi Tryz.prog Tryz.f30 Ki=some Ki:=by kernel_rfl
theorem qs8:qi Tryz.prog Tryz.f31 Kb=some Kb:=by kernel_rfl
theorem quQ:qi Tryz.prog Tryz.f32 Yb=some Yb:=by kernel_rfl
theorem quq:qi Tryz.prog Tryz.f33 KH=some KH:=by kernel_rfl
theorem qta:qi Tryz.prog Tryz.f34 Kc=some Kc:=by kernel_rfl
theorem qtp:qi Tryz.prog Tryz.f35 YU=some YU:=by kernel_rfl
theorem qth:qi Tryz.prog Tryz.f36 Kj=some Kj:=by kernel_rfl
theorem quu:qi Tryz.prog Tryz.f37 qdG=some qdG:=by kernel_rfl
theorem quw:qi Tryz.prog Tryz.f38 qdI=some qdI:=by kernel_rfl
theorem quA:qi Tryz.prog Tryz.f39 qdM=some qdM:=by kernel_rfl
theorem quC:qi Tryz.prog Tryz.f40 qdO=some qdO:=by kernel_rfl
theorem quh:qi Tryz.prog Tryz.f41 qdy=some qdy:=by kernel_rfl
theorem quj:qi Tryz.prog Tryz.f42 qdA=some qdA:=by kernel_rfl
theorem qwb:qi Tryz.prog Tryz.f44 Jc=some Jc:=by kernel_rfl
theorem qt9:qi Tryz.prog Tryz.f46 KC=some KC:=by kernel_rfl
theorem qtG:qi Tryz.prog Tryz.f47 Kq=some Kq:=by kernel_rfl
theorem qtm:qi Tryz.prog Tryz.f49 Z5=some Z5:=by kernel_rfl
theorem qte:qi Tryz.prog Tryz.f53 Z4=some Z4:=by kernel_rfl
theorem qvq:qi Tryz.prog Tryz.f58 qdY=some qdY:=by kernel_rfl
theorem qvb:qi Tryz.prog Tryz.f59 KS=some KS:=by kernel_rfl
theorem qtu:qi Tryz.prog Tryz.f60 YW=some YW:=by kernel_rfl
theorem qtZ:qi Tryz.prog Tryz.f61 qdu=some qdu:=by kernel_rfl
theorem qu2:qi Tryz.prog Tryz.f62 Xa=some Xa:=by kernel_rfl
theorem quZ:qi Tryz.prog Tryz.f63 QH=some QH:=by kernel_rfl
theorem qvZ:qi Tryz.prog Tryz.f64 Xj=some Xj:=by kernel_rfl
theorem qtk:qi Tryz.prog Tryz.f65 qdm=some qdm:=by kernel_rfl
theorem qvW:qi Tryz.prog Tryz.f66 kI=some kI:=by kernel_rfl
theorem qv9:qi Tryz.prog Tryz.f67 Ja=some Ja:=by kernel_rfl
theorem qu5:qi Tryz.prog Tryz.f69 qdU=some qdU:=by kernel_rfl
theorem qvX:qi Tryz.prog Tryz.f70 K5=some K5:=by kernel_rfl
theorem qwd:qi Tryz.prog Tryz.f71 Je=some Je:=by kernel_rfl
theorem qu4:qi Tryz.prog Tryz.f72 Xc=some Xc:=by kernel_rfl
theorem qvS:qi Tryz.prog Tryz.f73 qd2=some qd2:=by kernel_rfl
theorem qtP:qi Tryz.prog Tryz.f74 Zp=some Zp:=by kernel_rfl
theorem qti:qi Tryz.prog Tryz.f75 yO=some yO:=by kernel_rfl
theorem quT:qi Tryz.prog Tryz.f76 qa8=some qa8:=by kernel_rfl
theorem qv8:qi Tryz.prog Tryz.f77 Xn=some Xn:=by kernel_rfl
theorem qtU:qi Tryz.prog Tryz.f78 Kx=some Kx:=by kernel_rfl
theorem qtB:qi Tryz.prog Tryz.f79 YZ=some YZ:=by kernel_rfl
theorem qtF:qi Tryz.prog Tryz.f81 Kp=some Kp:=by kernel_rfl
theorem qvV:qi Tryz.prog Tryz.f82 Yj=some Yj:=by kernel_rfl
theorem qur:qi Tryz.prog Tryz.f83 KI=some KI:=by kernel_rfl
theorem quI:qi Tryz.prog Tryz.f84 Y5=some Y5:=by kernel_rfl
theorem qtb:qi Tryz.prog Tryz.f85 Ke=some Ke:=by kernel_rfl
theorem qtz:qi Tryz.prog Tryz.f86 YY=some YY:=by kernel_rfl
theorem qtc:qi Tryz.prog Tryz.f87 Kf=some Kf:=by kernel_rfl
theorem qut:qi Tryz.prog Tryz.f88 qdF=some qdF:=by kernel_rfl
theorem quz:qi Tryz.prog Tryz.f89 qdL=some qdL:=by kernel_rfl
theorem qug:qi Tryz.prog Tryz.f90 qdx=some qdx:=by kernel_rfl
theorem qvY:qi Tryz.prog Tryz.f91 K6=some K6:=by kernel_rfl
theorem qva:qi Tryz.prog Tryz.f92 KR=some KR:=by kernel_rfl
theorem quW:qi Tryz.prog Tryz.f95 Yd=some Yd:=by kernel_rfl
theorem qwa:qi Tryz.prog Tryz.f98 Jb=some Jb:=by kernel_rfl
theorem qwc:qi Tryz.prog Tryz.f99 Jd=some Jd:=by kernel_rfl
theorem qtf:qi Tryz.prog Tryz.f102 Kh=some Kh:=by kernel_rfl
theorem qtE:qi Tryz.prog Tryz.f103 Ko=some Ko:=by kernel_rfl
theorem qtO:qi Tryz.prog Tryz.f108 Kt=some Kt:=by kernel_rfl
theorem qt6:qi Tryz.prog Tryz.f109 KA=some KA:=by kernel_rfl
theorem qtN:qi Tryz.prog Tryz.f111 Y0=some Y0:=by kernel_rfl
theorem qtj:qi Tryz.prog Tryz.f112 qdl=some qdl:=by kernel_rfl
theorem qup:qi Tryz.prog Tryz.f117 Y4=some Y4:=by kernel_rfl
theorem qun:qi Tryz.prog Tryz.f118 qdE=some qdE:=by kernel_rfl
theorem qum:qi Tryz.prog Tryz.f119 qdD=some qdD:=by kernel_rfl
theorem qvl:qi Tryz.prog Tryz.f120 kH=some kH:=by kernel_rfl
theorem qvh:qi Tryz.prog Tryz.f121 KW=some KW:=by kernel_rfl
theorem qt5:qi Tryz.prog Tryz.f122 yb=some yb:=by kernel_rfl
theorem quc:qi Tryz.prog Tryz.f123 kG=some kG:=by kernel_rfl
theorem qt0:qi Tryz.prog Tryz.f124 qdv=some qdv:=by kernel_rfl
theorem qtD:qi Tryz.prog Tryz.f125 qdr=some qdr:=by kernel_rfl
theorem qt1:qi Tryz.prog Tryz.f126 qdw=some qdw:=by kernel_rfl
theorem qt4:qi Tryz.prog Tryz.f127 Y3=some Y3:=by kernel_rfl
theorem qvu:qi Tryz.prog Tryz.f128 K1=some K1:=by kernel_rfl
theorem qvA:qi Tryz.prog Tryz.f129 yz=some yz:=by kernel_rfl
theorem qvD:qi Tryz.prog Tryz.f130 Zv=some Zv:=by kernel_rfl
theorem qvN:qi Tryz.prog Tryz.f131 Qc=some Qc:=by kernel_rfl
theorem qvG:qi Tryz.prog Tryz.f132 QJ=some QJ:=by kernel_rfl
theorem qv1:qi Tryz.prog Tryz.f133 K7=some K7:=by kernel_rfl
theorem qu7:qi Tryz.prog Tryz.f134 KP=some KP:=by kernel_rfl
theorem quL:qi Tryz.prog Tryz.f135 Y8=some Y8:=by kernel_rfl
theorem qvc:qi Tryz.prog Tryz.f136 KT=some KT:=by kernel_rfl
theorem quV:qi Tryz.prog Tryz.f137 KO=some KO:=by kernel_rfl
theorem qtS:qi Tryz.prog Tryz.f138 Kw=some Kw:=by kernel_rfl
theorem qvk:qi Tryz.prog Tryz.f139 KY=some KY:=by kernel_rfl
theorem qv0:qi Tryz.prog Tryz.f140 Xk=some Xk:=by kernel_rfl
theorem qvg:qi Tryz.prog Tryz.f141 qdW=some qdW:=by kernel_rfl
theorem qvt:qi Tryz.prog Tryz.f142 qdZ=some qdZ:=by kernel_rfl
theorem qvr:qi Tryz.prog Tryz.f143 Xf=some Xf:=by kernel_rfl
theorem qwe:qi Tryz.prog Tryz.f144 Jf=some Jf:=by kernel_rfl
theorem qvi:qi Tryz.prog Tryz.f145 KX=some KX:=by kernel_rfl
theorem qvp:qi Tryz.prog Tryz.f146 Zu=some Zu:=by kernel_rfl
theorem quR:qi Tryz.prog Tryz.f147 Yc=some Yc:=by kernel_rfl
theorem qvQ:qi Tryz.prog Tryz.f148 qd0=some qd0:=by kernel_rfl
theorem quM:qi Tryz.prog Tryz.f149 qdR=some qdR:=by kernel_rfl
theorem qvR:qi Tryz.prog Tryz.f150 qd1=some qd1:=by kernel_rfl
theorem qv4:qi Tryz.prog Tryz.f151 Xl=some Xl:=by kernel_rfl
theorem qtV:qi Tryz.prog Tryz.f152 Ky=some Ky:=by kernel_rfl
theorem qt8:qi Tryz.prog Tryz.f153 KB=some KB:=by kernel_rfl
theorem qus:qi Tryz.prog Tryz.f154 KJ=some KJ:=by kernel_rfl
theorem qu1:qi Tryz.prog Tryz.f155 Qa=some Qa:=by kernel_rfl
theorem qub:qi Tryz.prog Tryz.f156 KE=some KE:=by kernel_rfl
theorem qtH:qi Tryz.prog Tryz.f157 Kr=some Kr:=by kernel_rfl
theorem qux:qi Tryz.prog Tryz.f158 qdJ=some qdJ:=by kernel_rfl
theorem quD:qi Tryz.prog Tryz.f159 qdP=some qdP:=by kernel_rfl
theorem quk:qi Tryz.prog Tryz.f160 qdB=some qdB:=by kernel_rfl
theorem qv7:qi Tryz.prog Tryz.f167 qd4=some qd4:=by kernel_rfl
theorem quU:qi Tryz.prog Tryz.f169 qdS=some qdS:=by kernel_rfl
theorem qtd:qi Tryz.prog Tryz.f170 Kg=some Kg:=by kernel_rfl
theorem qtC:qi Tryz.prog Tryz.f171 qdq=some qdq:=by kernel_rfl
theorem qtx:qi Tryz.prog Tryz.f175 Kn=some Kn:=by kernel_rfl
theorem qt2:qi Tryz.prog Tryz.f176 Y2=some Y2:=by kernel_rfl
theorem qtL:qi Tryz.prog Tryz.f179 qds=some qds:=by kernel_rfl
theorem qvs:qi Tryz.prog Tryz.f181 K0=some K0:=by kernel_rfl
theorem qvd:qi Tryz.prog Tryz.f182 KU=some KU:=by kernel_rfl
theorem qvn:qi Tryz.prog Tryz.f183 KZ=some KZ:=by kernel_rfl
theorem qve:qi Tryz.prog Tryz.f184 KV=some KV:=by kernel_rfl
theorem qtW:qi Tryz.prog Tryz.f185 Y1=some Y1:=by kernel_rfl
theorem qtQ:qi Tryz.prog Tryz.f186 Ku=some Ku:=by kernel_rfl
theorem qs9:qi Tryz.prog Tryz.f187 QF=some QF:=by kernel_rfl
theorem qtR:qi Tryz.prog Tryz.f188 Kv=some Kv:=by kernel_rfl
theorem qvB:qi Tryz.prog Tryz.f190 Yg=some Yg:=by kernel_rfl
theorem qvx:qi Tryz.prog Tryz.f191 K2=some K2:=by kernel_rfl
theorem qvz:qi Tryz.prog Tryz.f192 K3=some K3:=by kernel_rfl
theorem qvw:qi Tryz.prog Tryz.f193 Ye=some Ye:=by kernel_rfl
theorem qvy:qi Tryz.prog Tryz.f194 Yf=some Yf:=by kernel_rfl
theorem qvv:qi Tryz.prog Tryz.f195 je=some je:=by kernel_rfl
theorem qu3:qi Tryz.prog Tryz.f196 Xb=some Xb:=by kernel_rfl
theorem qvJ:qi Tryz.prog Tryz.f197 Qb=some Qb:=by kernel_rfl
theorem qvF:qi Tryz.prog Tryz.f198 Zw=some Zw:=by kernel_rfl
theorem qu8:qi Tryz.prog Tryz.f199 Xd=some Xd:=by kernel_rfl
theorem qvT:qi Tryz.prog Tryz.f200 Xi=some Xi:=by kernel_rfl
theorem qv2:qi Tryz.prog Tryz.f201 K8=some K8:=by kernel_rfl
theorem quP:qi Tryz.prog Tryz.f202 zK=some zK:=by kernel_rfl
theorem qvj:qi Tryz.prog Tryz.f203 qdX=some qdX:=by kernel_rfl
theorem qvo:qi Tryz.prog Tryz.f204 xk=some xk:=by kernel_rfl
theorem qu9:qi Tryz.prog Tryz.f205 KQ=some KQ:=by kernel_rfl
theorem quX:qi Tryz.prog Tryz.f206 Zs=some Zs:=by kernel_rfl
theorem qvU:qi Tryz.prog Tryz.f207 Zy=some Zy:=by kernel_rfl
theorem qv5:qi Tryz.prog Tryz.f208 Xm=some Xm:=by kernel_rfl
theorem qtv:qi Tryz.prog Tryz.f209 YX=some YX:=by kernel_rfl
theorem qud:qi Tryz.prog Tryz.f210 KF=some KF:=by kernel_rfl
theorem qtI:qi Tryz.prog Tryz.f211 Ks=some Ks:=by kernel_rfl
theorem quy:qi Tryz.prog Tryz.f212 qdK=some qdK:=by kernel_rfl
theorem quE:qi Tryz.prog Tryz.f213 qdQ=some qdQ:=by kernel_rfl
theorem qul:qi Tryz.prog Tryz.f214 qdC=some qdC:=by kernel_rfl
theorem qv3:qi Tryz.prog Tryz.f219 qd3=some qd3:=by kernel_rfl
theorem quG:qi Tryz.prog Tryz.f220 KL=some KL:=by kernel_rfl
theorem qtA:qi Tryz.prog Tryz.f224 Z6=some Z6:=by kernel_rfl
theorem qtM:qi Tryz.prog Tryz.f226 qdt=some qdt:=by kernel_rfl
theorem quJ:qi Tryz.prog Tryz.f227 Y6=some Y6:=by kernel_rfl
theorem qtn:qi Tryz.prog Tryz.f229 Zn=some Zn:=by kernel_rfl
theorem qtr:qi Tryz.prog Tryz.f230 YV=some YV:=by kernel_rfl
theorem qvC:qi Tryz.prog Tryz.f234 K4=some K4:=by kernel_rfl
theorem qvm:qi Tryz.prog Tryz.f235 Xe=some Xe:=by kernel_rfl
theorem qvE:qi Tryz.prog Tryz.f236 kh=some kh:=by kernel_rfl
theorem qvH:qi Tryz.prog Tryz.f237 Xg=some Xg:=by kernel_rfl
theorem qvK:qi Tryz.prog Tryz.f238 QK=some QK:=by kernel_rfl
theorem qvL:qi Tryz.prog Tryz.f239 Zx=some Zx:=by kernel_rfl
theorem qvO:qi Tryz.prog Tryz.f240 QL=some QL:=by kernel_rfl
theorem qvf:qi Tryz.prog Tryz.f241 QI=some QI:=by kernel_rfl
theorem qv6:qi Tryz.prog Tryz.f242 K9=some K9:=by kernel_rfl
theorem qtq:qi Tryz.prog Tryz.f243 Zo=some Zo:=by kernel_rfl
theorem qtw:qi Tryz.prog Tryz.f244 Km=some Km:=by kernel_rfl
theorem quK:qi Tryz.prog Tryz.f249 Y7=some Y7:=by kernel_rfl
theorem quF:qi Tryz.prog Tryz.f252 KK=some KK:=by kernel_rfl
theorem qt3:qi Tryz.prog Tryz.f253 Kz=some Kz:=by kernel_rfl
theorem qts:qi Tryz.prog Tryz.f254 Kk=some Kk:=by kernel_rfl
theorem qtX:qi Tryz.prog Tryz.f255 yp=some yp:=by kernel_rfl
theorem qvM:qi Tryz.prog Tryz.f258 Yi=some Yi:=by kernel_rfl
theorem qvI:qi Tryz.prog Tryz.f259 Yh=some Yh:=by kernel_rfl
theorem qvP:qi Tryz.prog Tryz.f260 Xh=some Xh:=by kernel_rfl
theorem quH:qi Tryz.prog Tryz.f261 Ya=some Ya:=by kernel_rfl
theorem qtJ:qi Tryz.prog Tryz.f268 j9=some j9:=by kernel_rfl
theorem qtT:qi Tryz.prog Tryz.f269 Z8=some Z8:=by kernel_rfl
theorem qt7:qi Tryz.prog Tryz.f270 Z9=some Z9:=by kernel_rfl
theorem qua:qi Tryz.prog Tryz.f271 KD=some KD:=by kernel_rfl
theorem qtK:qi Tryz.prog Tryz.f272 Z7=some Z7:=by kernel_rfl
theorem qtt:qi Tryz.prog Tryz.f273 Kl=some Kl:=by kernel_rfl
theorem qtY:qi Tryz.prog Tryz.f275 QG=some QG:=by kernel_rfl
theorem qwg:QP Tryz.prog qf8:=by
 intro f e h
 unfold qf8 at h
 split at h
 ·simp only [Option.some.injEq]at h;subst h;exact ⟨Tryz.f6,Zq,Tryz.func6,que⟩
 ·simp only [Option.some.injEq]at h;subst h;exact ⟨Tryz.f7,qdH,Tryz.func7,quv⟩
 ·simp only [Option.some.injEq]at h;subst h;exact ⟨Tryz.f9,qdN,Tryz.func9,quB⟩
 ·simp only [Option.some.injEq]at h;subst h;exact ⟨Tryz.f11,qdz,Tryz.func11,qui⟩
 ·simp only [Option.some.injEq]at h;subst h;exact ⟨Tryz.f16,KG,Tryz.func16,quf⟩
 ·simp only [Option.some.injEq]at h;subst h;exact ⟨Tryz.f18,qdp,Tryz.func18,qty⟩
 ·simp only [Option.some.injEq]at h;subst h;exact ⟨Tryz.f19,Zt,Tryz.func19,qu0⟩
 ·simp only [Option.some.injEq]at h;subst h;exact ⟨Tryz.f21,qdn,Tryz.func21,qtl⟩
 ·simp only [Option.some.injEq]at h;subst h;exact ⟨Tryz.f23,Zr,Tryz.func23,quN⟩
 ·simp only [Option.some.injEq]at h;subst h;exact ⟨Tryz.f25,KM,Tryz.func25,quO⟩
 ·simp only [Option.some.injEq]at h;subst h;exact ⟨Tryz.f26,qdV,Tryz.func26,qu6⟩
 ·simp only [Option.some.injEq]at h;subst h;exact ⟨Tryz.f27,qdo,Tryz.func27,qto⟩
 ·simp only [Option.some.injEq]at h;subst h;exact ⟨Tryz.f28,qdT,Tryz.func28,quY⟩
 ·simp only [Option.some.injEq]at h;subst h;exact ⟨Tryz.f29,Y9,Tryz.func29,quS⟩
 ·simp only [Option.some.injEq]at h;subst h;exact ⟨Tryz.f30,Ki,Tryz.func30,qtg⟩
 ·simp only [Option.some.injEq]at h;subst h;exact ⟨Tryz.f31,Kb,Tryz.func31,qs8⟩
 ·simp only [Option.some.injEq]at h;subst h;exact ⟨Tryz.f32,Yb,Tryz.func32,quQ⟩
 ·simp only [Option.some.injEq]at h;subst h;exact ⟨Tryz.f33,KH,Tryz.func33,quq⟩
 ·simp only [Option.some.injEq]at h;subst h;exact ⟨Tryz.f34,Kc,Tryz.func34,qta⟩
 ·simp only [Option.some.injEq]at h;subst h;exact ⟨Tryz.f35,YU,Tryz.func35,qtp⟩
 ·simp only [Option.some.injEq]at h;subst h;exact ⟨Tryz.f36,Kj,Tryz.func36,qth⟩
 ·simp only [Option.some.injEq]at h;subst h;exact ⟨Tryz.f37,qdG,Tryz.func37,quu⟩
 ·simp only [Option.some.injEq]at h;subst h;exact ⟨Tryz.f38,qdI,Tryz.func38,quw⟩
 ·simp only [Option.some.injEq]at h;subst h;exact ⟨Tryz.f39,qdM,Tryz.func39,quA⟩
 ·simp only [Option.some.injEq]at h;subst h;exact ⟨Tryz.f40,qdO,Tryz.func40,quC⟩
 ·simp only [Option.some.injEq]at h;subst h;exact ⟨Tryz.f41,qdy,Tryz.func41,quh⟩
 ·simp only [Option.some.injEq]at h;subst h;exact ⟨Tryz.f42,qdA,Tryz.func42,quj⟩
 ·simp only [Option.some.injEq]at h;subst h;exact ⟨Tryz.f44,Jc,Tryz.func44,qwb⟩
 ·simp only [Option.some.injEq]at h;subst h;exact ⟨Tryz.f46,KC,Tryz.func46,qt9⟩
 ·simp only [Option.some.injEq]at h;subst h;exact ⟨Tryz.f47,Kq,Tryz.func47,qtG⟩
 ·simp only [Option.some.injEq]at h;subst h;exact ⟨Tryz.f49,Z5,Tryz.func49,qtm⟩
 ·simp only [Option.some.injEq]at h;subst h;exact ⟨Tryz.f53,Z4,Tryz.func53,qte⟩
 ·cases h
theorem qwh:QP Tryz.prog qf9:=by
 intro f e h
 unfold qf9 at h
 split at h
 ·simp only [Option.some.injEq]at h;subst h;exact ⟨Tryz.f58,qdY,Tryz.func58,qvq⟩
 ·simp only [Option.some.injEq]at h;subst h;exact ⟨Tryz.f59,KS,Tryz.func59,qvb⟩
 ·simp only [Option.some.injEq]at h;subst h;exact ⟨Tryz.f60,YW,Tryz.func60,qtu⟩
 ·simp only [Option.some.injEq]at h;subst h;exact ⟨Tryz.f61,qdu,Tryz.func61,qtZ⟩
 ·simp only [Option.some.injEq]at h;subst h;exact ⟨Tryz.f62,Xa,Tryz.func62,qu2⟩
 ·simp only [Option.some.injEq]at h;subst h;exact ⟨Tryz.f63,QH,Tryz.func63,quZ⟩
 ·simp only [Option.some.injEq]at h;subst h;exact ⟨Tryz.f64,Xj,Tryz.func64,qvZ⟩
 ·simp only [Option.some.injEq]at h;subst h;exact ⟨Tryz.f65,qdm,Tryz.func65,qtk⟩
 ·simp only [Option.some.injEq]at h;subst h;exact ⟨Tryz.f66,kI,Tryz.func66,qvW⟩
 ·simp only [Option.some.injEq]at h;subst h;exact ⟨Tryz.f67,Ja,Tryz.func67,qv9⟩
 ·simp only [Option.some.injEq]at h;subst h;exact ⟨Tryz.f69,qdU,Tryz.func69,qu5⟩
 ·simp only [Option.some.injEq]at h;subst h;exact ⟨Tryz.f70,K5,Tryz.func70,qvX⟩
 ·simp only [Option.some.injEq]at h;subst h;exact ⟨Tryz.f71,Je,Tryz.func71,qwd⟩
 ·simp only [Option.some.injEq]at h;subst h;exact ⟨Tryz.f72,Xc,Tryz.func72,qu4⟩
 ·simp only [Option.some.injEq]at h;subst h;exact ⟨Tryz.f73,qd2,Tryz.func73,qvS⟩
 ·simp only [Option.some.injEq]at h;subst h;exact ⟨Tryz.f74,Zp,Tryz.func74,qtP⟩
 ·simp only [Option.some.injEq]at h;subst h;exact ⟨Tryz.f75,yO,Tryz.func75,qti⟩
 ·simp only [Option.some.injEq]at h;subst h;exact ⟨Tryz.f76,qa8,Tryz.func76,quT⟩
 ·simp only [Option.some.injEq]at h;subst h;exact ⟨Tryz.f77,Xn,Tryz.func77,qv8⟩
 ·simp only [Option.some.injEq]at h;subst h;exact ⟨Tryz.f78,Kx,Tryz.func78,qtU⟩
 ·simp only [Option.some.injEq]at h;subst h;exact ⟨Tryz.f79,YZ,Tryz.func79,qtB⟩
 ·simp only [Option.some.injEq]at h;subst h;exact qr2
 ·simp only [Option.some.injEq]at h;subst h;exact ⟨Tryz.f81,Kp,Tryz.func81,qtF⟩
 ·simp only [Option.some.injEq]at h;subst h;exact ⟨Tryz.f82,Yj,Tryz.func82,qvV⟩
 ·simp only [Option.some.injEq]at h;subst h;exact ⟨Tryz.f83,KI,Tryz.func83,qur⟩
 ·simp only [Option.some.injEq]at h;subst h;exact ⟨Tryz.f84,Y5,Tryz.func84,quI⟩
 ·simp only [Option.some.injEq]at h;subst h;exact ⟨Tryz.f85,Ke,Tryz.func85,qtb⟩
 ·simp only [Option.some.injEq]at h;subst h;exact ⟨Tryz.f86,YY,Tryz.func86,qtz⟩
 ·simp only [Option.some.injEq]at h;subst h;exact ⟨Tryz.f87,Kf,Tryz.func87,qtc⟩
 ·simp only [Option.some.injEq]at h;subst h;exact ⟨Tryz.f88,qdF,Tryz.func88,qut⟩
 ·simp only [Option.some.injEq]at h;subst h;exact ⟨Tryz.f89,qdL,Tryz.func89,quz⟩
 ·simp only [Option.some.injEq]at h;subst h;exact ⟨Tryz.f90,qdx,Tryz.func90,qug⟩
 ·simp only [Option.some.injEq]at h;subst h;exact ⟨Tryz.f91,K6,Tryz.func91,qvY⟩
 ·simp only [Option.some.injEq]at h;subst h;exact ⟨Tryz.f92,KR,Tryz.func92,qva⟩
 ·simp only [Option.some.injEq]at h;subst h;exact ⟨Tryz.f95,Yd,Tryz.func95,quW⟩
 ·simp only [Option.some.injEq]at h;subst h;exact ⟨Tryz.f98,Jb,Tryz.func98,qwa⟩
 ·simp only [Option.some.injEq]at h;subst h;exact ⟨Tryz.f99,Jd,Tryz.func99,qwc⟩
 ·simp only [Option.some.injEq]at h;subst h;exact ⟨Tryz.f102,Kh,Tryz.func102,qtf⟩
 ·simp only [Option.some.injEq]at h;subst h;exact ⟨Tryz.f103,Ko,Tryz.func103,qtE⟩
 ·cases h
theorem qwi:QP Tryz.prog qga:=by
 intro f e h
 unfold qga at h
 split at h
 ·simp only [Option.some.injEq]at h;subst h;exact ⟨Tryz.f108,Kt,Tryz.func108,qtO⟩
 ·simp only [Option.some.injEq]at h;subst h;exact ⟨Tryz.f109,KA,Tryz.func109,qt6⟩
 ·simp only [Option.some.injEq]at h;subst h;exact ⟨Tryz.f111,Y0,Tryz.func111,qtN⟩
 ·simp only [Option.some.injEq]at h;subst h;exact ⟨Tryz.f112,qdl,Tryz.func112,qtj⟩
 ·simp only [Option.some.injEq]at h;subst h;exact ⟨Tryz.f117,Y4,Tryz.func117,qup⟩
 ·simp only [Option.some.injEq]at h;subst h;exact ⟨Tryz.f118,qdE,Tryz.func118,qun⟩
 ·simp only [Option.some.injEq]at h;subst h;exact ⟨Tryz.f119,qdD,Tryz.func119,qum⟩
 ·simp only [Option.some.injEq]at h;subst h;exact ⟨Tryz.f120,kH,Tryz.func120,qvl⟩
 ·simp only [Option.some.injEq]at h;subst h;exact ⟨Tryz.f121,KW,Tryz.func121,qvh⟩
 ·simp only [Option.some.injEq]at h;subst h;exact ⟨Tryz.f122,yb,Tryz.func122,qt5⟩
 ·simp only [Option.some.injEq]at h;subst h;exact ⟨Tryz.f123,kG,Tryz.func123,quc⟩
 ·simp only [Option.some.injEq]at h;subst h;exact ⟨Tryz.f124,qdv,Tryz.func124,qt0⟩
 ·simp only [Option.some.injEq]at h;subst h;exact ⟨Tryz.f125,qdr,Tryz.func125,qtD⟩
 ·simp only [Option.some.injEq]at h;subst h;exact ⟨Tryz.f126,qdw,Tryz.func126,qt1⟩
 ·simp only [Option.some.injEq]at h;subst h;exact ⟨Tryz.f127,Y3,Tryz.func127,qt4⟩
 ·simp only [Option.some.injEq]at h;subst h;exact ⟨Tryz.f128,K1,Tryz.func128,qvu⟩
 ·simp only [Option.some.injEq]at h;subst h;exact ⟨Tryz.f129,yz,Tryz.func129,qvA⟩
 ·simp only [Option.some.injEq]at h;subst h;exact ⟨Tryz.f130,Zv,Tryz.func130,qvD⟩
 ·simp only [Option.some.injEq]at h;subst h;exact ⟨Tryz.f131,Qc,Tryz.func131,qvN⟩
 ·simp only [Option.some.injEq]at h;subst h;exact ⟨Tryz.f132,QJ,Tryz.func132,qvG⟩
 ·simp only [Option.some.injEq]at h;subst h;exact ⟨Tryz.f133,K7,Tryz.func133,qv1⟩
 ·simp only [Option.some.injEq]at h;subst h;exact ⟨Tryz.f134,KP,Tryz.func134,qu7⟩
 ·simp only [Option.some.injEq]at h;subst h;exact ⟨Tryz.f135,Y8,Tryz.func135,quL⟩
 ·simp only [Option.some.injEq]at h;subst h;exact ⟨Tryz.f136,KT,Tryz.func136,qvc⟩
 ·simp only [Option.some.injEq]at h;subst h;exact ⟨Tryz.f137,KO,Tryz.func137,quV⟩
 ·simp only [Option.some.injEq]at h;subst h;exact ⟨Tryz.f138,Kw,Tryz.func138,qtS⟩
 ·simp only [Option.some.injEq]at h;subst h;exact ⟨Tryz.f139,KY,Tryz.func139,qvk⟩
 ·simp only [Option.some.injEq]at h;subst h;exact ⟨Tryz.f140,Xk,Tryz.func140,qv0⟩
 ·simp only [Option.some.injEq]at h;subst h;exact ⟨Tryz.f141,qdW,Tryz.func141,qvg⟩
 ·simp only [Option.some.injEq]at h;subst h;exact ⟨Tryz.f142,qdZ,Tryz.func142,qvt⟩
 ·simp only [Option.some.injEq]at h;subst h;exact ⟨Tryz.f143,Xf,Tryz.func143,qvr⟩
 ·simp only [Option.some.injEq]at h;subst h;exact ⟨Tryz.f144,Jf,Tryz.func144,qwe⟩
 ·simp only [Option.some.injEq]at h;subst h;exact ⟨Tryz.f145,KX,Tryz.func145,qvi⟩
 ·simp only [Option.some.injEq]at h;subst h;exact ⟨Tryz.f146,Zu,Tryz.func146,qvp⟩
 ·simp only [Option.some.injEq]at h;subst h;exact ⟨Tryz.f147,Yc,Tryz.func147,quR⟩
 ·simp only [Option.some.injEq]at h;subst h;exact ⟨Tryz.f148,qd0,Tryz.func148,qvQ⟩
 ·simp only [Option.some.injEq]at h;subst h;exact ⟨Tryz.f149,qdR,Tryz.func149,quM⟩
 ·simp only [Option.some.injEq]at h;subst h;exact ⟨Tryz.f150,qd1,Tryz.func150,qvR⟩
 ·simp only [Option.some.injEq]at h;subst h;exact ⟨Tryz.f151,Xl,Tryz.func151,qv4⟩
 ·simp only [Option.some.injEq]at h;subst h;exact ⟨Tryz.f152,Ky,Tryz.func152,qtV⟩
 ·simp only [Option.some.injEq]at h;subst h;exact ⟨Tryz.f153,KB,Tryz.func153,qt8⟩
 ·simp only [Option.some.injEq]at h;subst h;exact ⟨Tryz.f154,KJ,Tryz.func154,qus⟩
 ·simp only [Option.some.injEq]at h;subst h;exact ⟨Tryz.f155,Qa,Tryz.func155,qu1⟩
 ·simp only [Option.some.injEq]at h;subst h;exact ⟨Tryz.f156,KE,Tryz.func156,qub⟩
 ·cases h
theorem qwj:QP Tryz.prog qgb:=by
 intro f e h
 unfold qgb at h
 split at h
 ·simp only [Option.some.injEq]at h;subst h;exact ⟨Tryz.f157,Kr,Tryz.func157,qtH⟩
 ·simp only [Option.some.injEq]at h;subst h;exact ⟨Tryz.f158,qdJ,Tryz.func158,qux⟩
 ·simp only [Option.some.injEq]at h;subst h;exact ⟨Tryz.f159,qdP,Tryz.func159,quD⟩
 ·simp only [Option.some.injEq]at h;subst h;exact ⟨Tryz.f160,qdB,Tryz.func160,quk⟩
 ·simp only [Option.some.injEq]at h;subst h;exact ⟨Tryz.f167,qd4,Tryz.func167,qv7⟩
 ·simp only [Option.some.injEq]at h;subst h;exact ⟨Tryz.f169,qdS,Tryz.func169,quU⟩
 ·simp only [Option.some.injEq]at h;subst h;exact ⟨Tryz.f170,Kg,Tryz.func170,qtd⟩
 ·simp only [Option.some.injEq]at h;subst h;exact ⟨Tryz.f171,qdq,Tryz.func171,qtC⟩
 ·simp only [Option.some.injEq]at h;subst h;exact qs2
 ·simp only [Option.some.injEq]at h;subst h;exact ⟨Tryz.f175,Kn,Tryz.func175,qtx⟩
 ·simp only [Option.some.injEq]at h;subst h;exact ⟨Tryz.f176,Y2,Tryz.func176,qt2⟩
 ·simp only [Option.some.injEq]at h;subst h;exact ⟨Tryz.f179,qds,Tryz.func179,qtL⟩
 ·simp only [Option.some.injEq]at h;subst h;exact ⟨Tryz.f181,K0,Tryz.func181,qvs⟩
 ·simp only [Option.some.injEq]at h;subst h;exact ⟨Tryz.f182,KU,Tryz.func182,qvd⟩
 ·simp only [Option.some.injEq]at h;subst h;exact ⟨Tryz.f183,KZ,Tryz.func183,qvn⟩
 ·simp only [Option.some.injEq]at h;subst h;exact ⟨Tryz.f184,KV,Tryz.func184,qve⟩
 ·simp only [Option.some.injEq]at h;subst h;exact ⟨Tryz.f185,Y1,Tryz.func185,qtW⟩
 ·simp only [Option.some.injEq]at h;subst h;exact ⟨Tryz.f186,Ku,Tryz.func186,qtQ⟩
 ·simp only [Option.some.injEq]at h;subst h;exact ⟨Tryz.f187,QF,Tryz.func187,qs9⟩
 ·simp only [Option.some.injEq]at h;subst h;exact ⟨Tryz.f188,Kv,Tryz.func188,qtR⟩
 ·simp only [Option.some.injEq]at h;subst h;exact qs4
 ·simp only [Option.some.injEq]at h;subst h;exact ⟨Tryz.f190,Yg,Tryz.func190,qvB⟩
 ·simp only [Option.some.injEq]at h;subst h;exact ⟨Tryz.f191,K2,Tryz.func191,qvx⟩
 ·simp only [Option.some.injEq]at h;subst h;exact ⟨Tryz.f192,K3,Tryz.func192,qvz⟩
 ·simp only [Option.some.injEq]at h;subst h;exact ⟨Tryz.f193,Ye,Tryz.func193,qvw⟩
 ·simp only [Option.some.injEq]at h;subst h;exact ⟨Tryz.f194,Yf,Tryz.func194,qvy⟩
 ·simp only [Option.some.injEq]at h;subst h;exact ⟨Tryz.f195,je,Tryz.func195,qvv⟩
 ·simp only [Option.some.injEq]at h;subst h;exact ⟨Tryz.f196,Xb,Tryz.func196,qu3⟩
 ·simp only [Option.some.injEq]at h;subst h;exact ⟨Tryz.f197,Qb,Tryz.func197,qvJ⟩
 ·simp only [Option.some.injEq]at h;subst h;exact ⟨Tryz.f198,Zw,Tryz.func198,qvF⟩
 ·simp only [Option.some.injEq]at h;subst h;exact ⟨Tryz.f199,Xd,Tryz.func199,qu8⟩
 ·simp only [Option.some.injEq]at h;subst h;exact ⟨Tryz.f200,Xi,Tryz.func200,qvT⟩
 ·simp only [Option.some.injEq]at h;subst h;exact ⟨Tryz.f201,K8,Tryz.func201,qv2⟩
 ·simp only [Option.some.injEq]at h;subst h;exact ⟨Tryz.f202,zK,Tryz.func202,quP⟩
 ·simp only [Option.some.injEq]at h;subst h;exact ⟨Tryz.f203,qdX,Tryz.func203,qvj⟩
 ·simp only [Option.some.injEq]at h;subst h;exact ⟨Tryz.f204,xk,Tryz.func204,qvo⟩
 ·simp only [Option.some.injEq]at h;subst h;exact ⟨Tryz.f205,KQ,Tryz.func205,qu9⟩
 ·simp only [Option.some.injEq]at h;subst h;exact ⟨Tryz.f206,Zs,Tryz.func206,quX⟩
 ·cases h
theorem qwk:QP Tryz.prog qgc:=by
 intro f e h
 unfold qgc at h
 split at h
 ·simp only [Option.some.injEq]at h;subst h;exact ⟨Tryz.f207,Zy,Tryz.func207,qvU⟩
 ·simp only [Option.some.injEq]at h;subst h;exact ⟨Tryz.f208,Xm,Tryz.func208,qv5⟩
 ·simp only [Option.some.injEq]at h;subst h;exact ⟨Tryz.f209,YX,Tryz.func209,qtv⟩
 ·simp only [Option.some.injEq]at h;subst h;exact ⟨Tryz.f210,KF,Tryz.func210,qud⟩
 ·simp only [Option.some.injEq]at h;subst h;exact ⟨Tryz.f211,Ks,Tryz.func211,qtI⟩
 ·simp only [Option.some.injEq]at h;subst h;exact ⟨Tryz.f212,qdK,Tryz.func212,quy⟩
 ·simp only [Option.some.injEq]at h;subst h;exact ⟨Tryz.f213,qdQ,Tryz.func213,quE⟩
 ·simp only [Option.some.injEq]at h;subst h;exact ⟨Tryz.f214,qdC,Tryz.func214,qul⟩
 ·simp only [Option.some.injEq]at h;subst h;exact ⟨Tryz.f219,qd3,Tryz.func219,qv3⟩
 ·simp only [Option.some.injEq]at h;subst h;exact ⟨Tryz.f220,KL,Tryz.func220,quG⟩
 ·simp only [Option.some.injEq]at h;subst h;exact ⟨Tryz.f224,Z6,Tryz.func224,qtA⟩
 ·simp only [Option.some.injEq]at h;subst h;exact ⟨Tryz.f226,qdt,Tryz.func226,qtM⟩
 ·simp only [Option.some.injEq]at h;subst h;exact ⟨Tryz.f227,Y6,Tryz.func227,quJ⟩
 ·simp only [Option.some.injEq]at h;subst h;exact ⟨Tryz.f229,Zn,Tryz.func229,qtn⟩
 ·simp only [Option.some.injEq]at h;subst h;exact ⟨Tryz.f230,YV,Tryz.func230,qtr⟩
 ·simp only [Option.some.injEq]at h;subst h;exact ⟨Tryz.f234,K4,Tryz.func234,qvC⟩
 ·simp only [Option.some.injEq]at h;subst h;exact ⟨Tryz.f235,Xe,Tryz.func235,qvm⟩
 ·simp only [Option.some.injEq]at h;subst h;exact ⟨Tryz.f236,kh,Tryz.func236,qvE⟩
 ·simp only [Option.some.injEq]at h;subst h;exact ⟨Tryz.f237,Xg,Tryz.func237,qvH⟩
 ·simp only [Option.some.injEq]at h;subst h;exact ⟨Tryz.f238,QK,Tryz.func238,qvK⟩
 ·simp only [Option.some.injEq]at h;subst h;exact ⟨Tryz.f239,Zx,Tryz.func239,qvL⟩
 ·simp only [Option.some.injEq]at h;subst h;exact ⟨Tryz.f240,QL,Tryz.func240,qvO⟩
 ·simp only [Option.some.injEq]at h;subst h;exact ⟨Tryz.f241,QI,Tryz.func241,qvf⟩
 ·simp only [Option.some.injEq]at h;subst h;exact ⟨Tryz.f242,K9,Tryz.func242,qv6⟩
 ·simp only [Option.some.injEq]at h;subst h;exact ⟨Tryz.f243,Zo,Tryz.func243,qtq⟩
 ·simp only [Option.some.injEq]at h;subst h;exact ⟨Tryz.f244,Km,Tryz.func244,qtw⟩
 ·simp only [Option.some.injEq]at h;subst h;exact ⟨Tryz.f249,Y7,Tryz.func249,quK⟩
 ·simp only [Option.some.injEq]at h;subst h;exact ⟨Tryz.f252,KK,Tryz.func252,quF⟩
 ·simp only [Option.some.injEq]at h;subst h;exact ⟨Tryz.f253,Kz,Tryz.func253,qt3⟩
 ·simp only [Option.some.injEq]at h;subst h;exact ⟨Tryz.f254,Kk,Tryz.func254,qts⟩
 ·simp only [Option.some.injEq]at h;subst h;exact ⟨Tryz.f255,yp,Tryz.func255,qtX⟩
 ·simp only [Option.some.injEq]at h;subst h;exact ⟨Tryz.f258,Yi,Tryz.func258,qvM⟩
 ·simp only [Option.some.injEq]at h;subst h;exact ⟨Tryz.f259,Yh,Tryz.func259,qvI⟩
 ·simp only [Option.some.injEq]at h;subst h;exact ⟨Tryz.f260,Xh,Tryz.func260,qvP⟩
 ·simp only [Option.some.injEq]at h;subst h;exact ⟨Tryz.f261,Ya,Tryz.func261,quH⟩
 ·cases h
theorem qwl:QP Tryz.prog qjl:=by
 intro f e h
 unfold qjl at h
 split at h
 ·simp only [Option.some.injEq]at h;subst h;exact ⟨Tryz.f268,j9,Tryz.func268,qtJ⟩
 ·simp only [Option.some.injEq]at h;subst h;exact ⟨Tryz.f269,Z8,Tryz.func269,qtT⟩
 ·simp only [Option.some.injEq]at h;subst h;exact ⟨Tryz.f270,Z9,Tryz.func270,qt7⟩
 ·simp only [Option.some.injEq]at h;subst h;exact ⟨Tryz.f271,KD,Tryz.func271,qua⟩
 ·simp only [Option.some.injEq]at h;subst h;exact ⟨Tryz.f272,Z7,Tryz.func272,qtK⟩
 ·simp only [Option.some.injEq]at h;subst h;exact ⟨Tryz.f273,Kl,Tryz.func273,qtt⟩
 ·simp only [Option.some.injEq]at h;subst h;exact qs3
 ·simp only [Option.some.injEq]at h;subst h;exact ⟨Tryz.f275,QG,Tryz.func275,qtY⟩
 ·cases h
theorem qwf:QP Tryz.prog qg:=by
 intro f e h
 unfold qg at h
 cases h0:qf8 f with
 |some x=>rw [h0]at h;cases h;exact qwg f e h0
 |none=>
 rw [h0]at h
 simp only at h
 cases h1:qf9 f with
 |some x=>rw [h1]at h;cases h;exact qwh f e h1
 |none=>
 rw [h1]at h
 simp only at h
 cases h2:qga f with
 |some x=>rw [h2]at h;cases h;exact qwi f e h2
 |none=>
 rw [h2]at h
 simp only at h
 cases h3:qgb f with
 |some x=>rw [h3]at h;cases h;exact qwj f e h3
 |none=>
 rw [h3]at h
 simp only at h
 cases h4:qgc f with
 |some x=>rw [h4]at h;cases h;exact qwk f e h4
 |none=>
 rw [h4]at h
 simp only at h
 exact qwl f e h
end Go.Vm
