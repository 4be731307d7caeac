import Derived.Test.YtcaejgdpplbcbaaGreatDoorT04
import Derived.Test.YtcaejgdpplbcbaaGreatDoorT05
import Derived.Test.YtcaejgdpplbcbaaGreatDoorProg
import Derived.KernelRfl
set_option autoImplicit false
set_option maxRecDepth 100000
set_option maxHeartbeats 8000000
namespace Go.Vm
open Go.Proofs
theorem qiL:qp Tryz.prog Tryz.f10 kD=some kD:=by kernel_rfl
theorem qiV:qp Tryz.prog Tryz.f11 Xb=some Xb:=by kernel_rfl
theorem qi1:qp Tryz.prog Tryz.f13 Xh=some Xh:=by kernel_rfl
theorem qiP:qp Tryz.prog Tryz.f15 Y5=some Y5:=by kernel_rfl
theorem qiM:qp Tryz.prog Tryz.f20 Qq=some Qq:=by kernel_rfl
theorem qi9:qp Tryz.prog Tryz.f39 Xp=some Xp:=by kernel_rfl
theorem qil:qp Tryz.prog Tryz.f67 YM=some YM:=by kernel_rfl
theorem qjd:qp Tryz.prog Tryz.f68 Xs=some Xs:=by kernel_rfl
theorem qjc:qp Tryz.prog Tryz.f69 Qr=some Qr:=by kernel_rfl
theorem qin:qp Tryz.prog Tryz.f70 x6=some x6:=by kernel_rfl
theorem qjf:qp Tryz.prog Tryz.f71 ja=some ja:=by kernel_rfl
theorem qii:qp Tryz.prog Tryz.f72 jE=some jE:=by kernel_rfl
theorem qiU:qp Tryz.prog Tryz.f73 Xa=some Xa:=by kernel_rfl
theorem qiW:qp Tryz.prog Tryz.f74 Xc=some Xc:=by kernel_rfl
theorem qi0:qp Tryz.prog Tryz.f75 Xg=some Xg:=by kernel_rfl
theorem qi2:qp Tryz.prog Tryz.f76 Xi=some Xi:=by kernel_rfl
theorem qiO:qp Tryz.prog Tryz.f77 Y4=some Y4:=by kernel_rfl
theorem qiQ:qp Tryz.prog Tryz.f78 Y6=some Y6:=by kernel_rfl
theorem qiH:qp Tryz.prog Tryz.f82 Qp=some Qp:=by kernel_rfl
theorem qim:qp Tryz.prog Tryz.f84 YN=some YN:=by kernel_rfl
theorem qjp:qp Tryz.prog Tryz.f92 Qv=some Qv:=by kernel_rfl
theorem qjq:qp Tryz.prog Tryz.f93 Xy=some Xy:=by kernel_rfl
theorem qiq:qp Tryz.prog Tryz.f98 YP=some YP:=by kernel_rfl
theorem qji:qp Tryz.prog Tryz.f100 Xv=some Xv:=by kernel_rfl
theorem qih:qp Tryz.prog Tryz.f102 YK=some YK:=by kernel_rfl
theorem qjj:qp Tryz.prog Tryz.f119 Xw=some Xw:=by kernel_rfl
theorem qjH:qp Tryz.prog Tryz.f120 XN=some XN:=by kernel_rfl
theorem qjV:qp Tryz.prog Tryz.f121 XP=some XP:=by kernel_rfl
theorem qjk:qp Tryz.prog Tryz.f132 Qs=some Qs:=by kernel_rfl
theorem qjn:qp Tryz.prog Tryz.f139 Qt=some Qt:=by kernel_rfl
theorem qiF:qp Tryz.prog Tryz.f144 Y0=some Y0:=by kernel_rfl
theorem qjy:qp Tryz.prog Tryz.f150 XF=some XF:=by kernel_rfl
theorem qix:qp Tryz.prog Tryz.f155 YV=some YV:=by kernel_rfl
theorem qjK:qp Tryz.prog Tryz.f156 XO=some XO:=by kernel_rfl
theorem qjU:qp Tryz.prog Tryz.f157 xR=some xR:=by kernel_rfl
theorem qiC:qp Tryz.prog Tryz.f160 k9=some k9:=by kernel_rfl
theorem qjX:qp Tryz.prog Tryz.f161 QA=some QA:=by kernel_rfl
theorem qio:qp Tryz.prog Tryz.f162 xx=some xx:=by kernel_rfl
theorem qjS:qp Tryz.prog Tryz.f163 jN=some jN:=by kernel_rfl
theorem qjQ:qp Tryz.prog Tryz.f164 jL=some jL:=by kernel_rfl
theorem qjT:qp Tryz.prog Tryz.f165 x7=some x7:=by kernel_rfl
theorem qjg:qp Tryz.prog Tryz.f166 xy=some xy:=by kernel_rfl
theorem qik:qp Tryz.prog Tryz.f167 Qn=some Qn:=by kernel_rfl
theorem qiT:qp Tryz.prog Tryz.f170 Y9=some Y9:=by kernel_rfl
theorem qiZ:qp Tryz.prog Tryz.f171 Xf=some Xf:=by kernel_rfl
theorem qiN:qp Tryz.prog Tryz.f172 Y3=some Y3:=by kernel_rfl
theorem qje:qp Tryz.prog Tryz.f175 Xt=some Xt:=by kernel_rfl
theorem qiE:qp Tryz.prog Tryz.f189 YZ=some YZ:=by kernel_rfl
theorem qjt:qp Tryz.prog Tryz.f194 XA=some XA:=by kernel_rfl
theorem qjx:qp Tryz.prog Tryz.f195 XE=some XE:=by kernel_rfl
theorem qit:qp Tryz.prog Tryz.f198 YS=some YS:=by kernel_rfl
theorem qjA:qp Tryz.prog Tryz.f200 XH=some XH:=by kernel_rfl
theorem qjI:qp Tryz.prog Tryz.f205 Qx=some Qx:=by kernel_rfl
theorem qjs:qp Tryz.prog Tryz.f209 Xz=some Xz:=by kernel_rfl
theorem qjz:qp Tryz.prog Tryz.f210 XG=some XG:=by kernel_rfl
theorem qjW:qp Tryz.prog Tryz.f211 XQ=some XQ:=by kernel_rfl
theorem qjb:qp Tryz.prog Tryz.f212 Xr=some Xr:=by kernel_rfl
theorem qjl:qp Tryz.prog Tryz.f219 jI=some jI:=by kernel_rfl
theorem qir:qp Tryz.prog Tryz.f224 YQ=some YQ:=by kernel_rfl
theorem qiB:qp Tryz.prog Tryz.f225 YY=some YY:=by kernel_rfl
theorem qij:qp Tryz.prog Tryz.f228 YL=some YL:=by kernel_rfl
theorem qiy:qp Tryz.prog Tryz.f234 YW=some YW:=by kernel_rfl
theorem qi7:qp Tryz.prog Tryz.f235 Xn=some Xn:=by kernel_rfl
theorem qjO:qp Tryz.prog Tryz.f236 jK=some jK:=by kernel_rfl
theorem qjo:qp Tryz.prog Tryz.f237 Qu=some Qu:=by kernel_rfl
theorem qiJ:qp Tryz.prog Tryz.f246 jG=some jG:=by kernel_rfl
theorem qiw:qp Tryz.prog Tryz.f247 jF=some jF:=by kernel_rfl
theorem qjP:qp Tryz.prog Tryz.f248 jd=some jd:=by kernel_rfl
theorem qjR:qp Tryz.prog Tryz.f249 jM=some jM:=by kernel_rfl
theorem qjL:qp Tryz.prog Tryz.f250 jJ=some jJ:=by kernel_rfl
theorem qiX:qp Tryz.prog Tryz.f256 Xd=some Xd:=by kernel_rfl
theorem qi3:qp Tryz.prog Tryz.f257 Xj=some Xj:=by kernel_rfl
theorem qiR:qp Tryz.prog Tryz.f258 Y7=some Y7:=by kernel_rfl
theorem qjr:qp Tryz.prog Tryz.f261 Qw=some Qw:=by kernel_rfl
theorem qiA:qp Tryz.prog Tryz.f266 YX=some YX:=by kernel_rfl
theorem qjw:qp Tryz.prog Tryz.f271 XD=some XD:=by kernel_rfl
theorem qiu:qp Tryz.prog Tryz.f272 YT=some YT:=by kernel_rfl
theorem qjF:qp Tryz.prog Tryz.f273 jb=some jb:=by kernel_rfl
theorem qjD:qp Tryz.prog Tryz.f274 XK=some XK:=by kernel_rfl
theorem qjE:qp Tryz.prog Tryz.f275 XL=some XL:=by kernel_rfl
theorem qjC:qp Tryz.prog Tryz.f276 XJ=some XJ:=by kernel_rfl
theorem qjB:qp Tryz.prog Tryz.f278 XI=some XI:=by kernel_rfl
theorem qjh:qp Tryz.prog Tryz.f279 Xu=some Xu:=by kernel_rfl
theorem qja:qp Tryz.prog Tryz.f284 Xq=some Xq:=by kernel_rfl
theorem qju:qp Tryz.prog Tryz.f285 XB=some XB:=by kernel_rfl
theorem qjm:qp Tryz.prog Tryz.f286 Xx=some Xx:=by kernel_rfl
theorem qis:qp Tryz.prog Tryz.f294 YR=some YR:=by kernel_rfl
theorem qi6:qp Tryz.prog Tryz.f296 Xm=some Xm:=by kernel_rfl
theorem qjM:qp Tryz.prog Tryz.f301 Qz=some Qz:=by kernel_rfl
theorem qjN:qp Tryz.prog Tryz.f302 jc=some jc:=by kernel_rfl
theorem qiK:qp Tryz.prog Tryz.f310 jH=some jH:=by kernel_rfl
theorem qiD:qp Tryz.prog Tryz.f311 Qo=some Qo:=by kernel_rfl
theorem qiz:qp Tryz.prog Tryz.f312 k8=some k8:=by kernel_rfl
theorem qiY:qp Tryz.prog Tryz.f321 Xe=some Xe:=by kernel_rfl
theorem qi4:qp Tryz.prog Tryz.f322 Xk=some Xk:=by kernel_rfl
theorem qiS:qp Tryz.prog Tryz.f323 Y8=some Y8:=by kernel_rfl
theorem qjv:qp Tryz.prog Tryz.f330 XC=some XC:=by kernel_rfl
theorem qjG:qp Tryz.prog Tryz.f331 XM=some XM:=by kernel_rfl
theorem qi5:qp Tryz.prog Tryz.f343 Xl=some Xl:=by kernel_rfl
theorem qi8:qp Tryz.prog Tryz.f344 Xo=some Xo:=by kernel_rfl
theorem qjJ:qp Tryz.prog Tryz.f346 Qy=some Qy:=by kernel_rfl
theorem qiG:qp Tryz.prog Tryz.f396 Y1=some Y1:=by kernel_rfl
theorem qiI:qp Tryz.prog Tryz.f397 Y2=some Y2:=by kernel_rfl
theorem qiv:qp Tryz.prog Tryz.f398 YU=some YU:=by kernel_rfl
theorem qip:qp Tryz.prog Tryz.f399 YO=some YO:=by kernel_rfl
theorem qjZ:xc Tryz.prog K8:=by
 intro f e h
 unfold K8 at h
 split at h
 ·simp only [Option.some.injEq]at h;subst h;exact ⟨Tryz.f10,kD,Tryz.func10,qiL⟩
 ·simp only [Option.some.injEq]at h;subst h;exact ⟨Tryz.f11,Xb,Tryz.func11,qiV⟩
 ·simp only [Option.some.injEq]at h;subst h;exact ⟨Tryz.f13,Xh,Tryz.func13,qi1⟩
 ·simp only [Option.some.injEq]at h;subst h;exact ⟨Tryz.f15,Y5,Tryz.func15,qiP⟩
 ·simp only [Option.some.injEq]at h;subst h;exact ⟨Tryz.f20,Qq,Tryz.func20,qiM⟩
 ·simp only [Option.some.injEq]at h;subst h;exact ⟨Tryz.f39,Xp,Tryz.func39,qi9⟩
 ·cases h
theorem qj0:xc Tryz.prog K9:=by
 intro f e h
 unfold K9 at h
 split at h
 ·simp only [Option.some.injEq]at h;subst h;exact ⟨Tryz.f67,YM,Tryz.func67,qil⟩
 ·simp only [Option.some.injEq]at h;subst h;exact ⟨Tryz.f68,Xs,Tryz.func68,qjd⟩
 ·simp only [Option.some.injEq]at h;subst h;exact ⟨Tryz.f69,Qr,Tryz.func69,qjc⟩
 ·simp only [Option.some.injEq]at h;subst h;exact ⟨Tryz.f70,x6,Tryz.func70,qin⟩
 ·simp only [Option.some.injEq]at h;subst h;exact ⟨Tryz.f71,ja,Tryz.func71,qjf⟩
 ·simp only [Option.some.injEq]at h;subst h;exact ⟨Tryz.f72,jE,Tryz.func72,qii⟩
 ·simp only [Option.some.injEq]at h;subst h;exact ⟨Tryz.f73,Xa,Tryz.func73,qiU⟩
 ·simp only [Option.some.injEq]at h;subst h;exact ⟨Tryz.f74,Xc,Tryz.func74,qiW⟩
 ·simp only [Option.some.injEq]at h;subst h;exact ⟨Tryz.f75,Xg,Tryz.func75,qi0⟩
 ·simp only [Option.some.injEq]at h;subst h;exact ⟨Tryz.f76,Xi,Tryz.func76,qi2⟩
 ·simp only [Option.some.injEq]at h;subst h;exact ⟨Tryz.f77,Y4,Tryz.func77,qiO⟩
 ·simp only [Option.some.injEq]at h;subst h;exact ⟨Tryz.f78,Y6,Tryz.func78,qiQ⟩
 ·simp only [Option.some.injEq]at h;subst h;exact ⟨Tryz.f82,Qp,Tryz.func82,qiH⟩
 ·simp only [Option.some.injEq]at h;subst h;exact ⟨Tryz.f84,YN,Tryz.func84,qim⟩
 ·simp only [Option.some.injEq]at h;subst h;exact ⟨Tryz.f92,Qv,Tryz.func92,qjp⟩
 ·simp only [Option.some.injEq]at h;subst h;exact ⟨Tryz.f93,Xy,Tryz.func93,qjq⟩
 ·simp only [Option.some.injEq]at h;subst h;exact ⟨Tryz.f98,YP,Tryz.func98,qiq⟩
 ·simp only [Option.some.injEq]at h;subst h;exact ⟨Tryz.f100,Xv,Tryz.func100,qji⟩
 ·simp only [Option.some.injEq]at h;subst h;exact ⟨Tryz.f102,YK,Tryz.func102,qih⟩
 ·cases h
theorem qj1:xc Tryz.prog Ja:=by
 intro f e h
 unfold Ja at h
 split at h
 ·simp only [Option.some.injEq]at h;subst h;exact ⟨Tryz.f119,Xw,Tryz.func119,qjj⟩
 ·simp only [Option.some.injEq]at h;subst h;exact ⟨Tryz.f120,XN,Tryz.func120,qjH⟩
 ·simp only [Option.some.injEq]at h;subst h;exact ⟨Tryz.f121,XP,Tryz.func121,qjV⟩
 ·simp only [Option.some.injEq]at h;subst h;exact ⟨Tryz.f132,Qs,Tryz.func132,qjk⟩
 ·simp only [Option.some.injEq]at h;subst h;exact ⟨Tryz.f139,Qt,Tryz.func139,qjn⟩
 ·simp only [Option.some.injEq]at h;subst h;exact ⟨Tryz.f144,Y0,Tryz.func144,qiF⟩
 ·simp only [Option.some.injEq]at h;subst h;exact ⟨Tryz.f150,XF,Tryz.func150,qjy⟩
 ·simp only [Option.some.injEq]at h;subst h;exact ⟨Tryz.f155,YV,Tryz.func155,qix⟩
 ·simp only [Option.some.injEq]at h;subst h;exact ⟨Tryz.f156,XO,Tryz.func156,qjK⟩
 ·cases h
theorem qj2:xc Tryz.prog Jb:=by
 intro f e h
 unfold Jb at h
 split at h
 ·simp only [Option.some.injEq]at h;subst h;exact ⟨Tryz.f157,xR,Tryz.func157,qjU⟩
 ·simp only [Option.some.injEq]at h;subst h;exact qmV
 ·simp only [Option.some.injEq]at h;subst h;exact qng
 ·simp only [Option.some.injEq]at h;subst h;exact ⟨Tryz.f160,k9,Tryz.func160,qiC⟩
 ·simp only [Option.some.injEq]at h;subst h;exact ⟨Tryz.f161,QA,Tryz.func161,qjX⟩
 ·simp only [Option.some.injEq]at h;subst h;exact ⟨Tryz.f162,xx,Tryz.func162,qio⟩
 ·simp only [Option.some.injEq]at h;subst h;exact ⟨Tryz.f163,jN,Tryz.func163,qjS⟩
 ·simp only [Option.some.injEq]at h;subst h;exact ⟨Tryz.f164,jL,Tryz.func164,qjQ⟩
 ·simp only [Option.some.injEq]at h;subst h;exact ⟨Tryz.f165,x7,Tryz.func165,qjT⟩
 ·simp only [Option.some.injEq]at h;subst h;exact ⟨Tryz.f166,xy,Tryz.func166,qjg⟩
 ·simp only [Option.some.injEq]at h;subst h;exact ⟨Tryz.f167,Qn,Tryz.func167,qik⟩
 ·simp only [Option.some.injEq]at h;subst h;exact ⟨Tryz.f170,Y9,Tryz.func170,qiT⟩
 ·simp only [Option.some.injEq]at h;subst h;exact ⟨Tryz.f171,Xf,Tryz.func171,qiZ⟩
 ·simp only [Option.some.injEq]at h;subst h;exact ⟨Tryz.f172,Y3,Tryz.func172,qiN⟩
 ·simp only [Option.some.injEq]at h;subst h;exact ⟨Tryz.f175,Xt,Tryz.func175,qje⟩
 ·simp only [Option.some.injEq]at h;subst h;exact ⟨Tryz.f189,YZ,Tryz.func189,qiE⟩
 ·simp only [Option.some.injEq]at h;subst h;exact ⟨Tryz.f194,XA,Tryz.func194,qjt⟩
 ·simp only [Option.some.injEq]at h;subst h;exact ⟨Tryz.f195,XE,Tryz.func195,qjx⟩
 ·simp only [Option.some.injEq]at h;subst h;exact ⟨Tryz.f198,YS,Tryz.func198,qit⟩
 ·simp only [Option.some.injEq]at h;subst h;exact ⟨Tryz.f200,XH,Tryz.func200,qjA⟩
 ·simp only [Option.some.injEq]at h;subst h;exact ⟨Tryz.f205,Qx,Tryz.func205,qjI⟩
 ·simp only [Option.some.injEq]at h;subst h;exact ⟨Tryz.f209,Xz,Tryz.func209,qjs⟩
 ·simp only [Option.some.injEq]at h;subst h;exact ⟨Tryz.f210,XG,Tryz.func210,qjz⟩
 ·cases h
theorem qj3:xc Tryz.prog Jc:=by
 intro f e h
 unfold Jc at h
 split at h
 ·simp only [Option.some.injEq]at h;subst h;exact ⟨Tryz.f211,XQ,Tryz.func211,qjW⟩
 ·simp only [Option.some.injEq]at h;subst h;exact ⟨Tryz.f212,Xr,Tryz.func212,qjb⟩
 ·simp only [Option.some.injEq]at h;subst h;exact ⟨Tryz.f219,jI,Tryz.func219,qjl⟩
 ·simp only [Option.some.injEq]at h;subst h;exact ⟨Tryz.f224,YQ,Tryz.func224,qir⟩
 ·simp only [Option.some.injEq]at h;subst h;exact ⟨Tryz.f225,YY,Tryz.func225,qiB⟩
 ·simp only [Option.some.injEq]at h;subst h;exact ⟨Tryz.f228,YL,Tryz.func228,qij⟩
 ·simp only [Option.some.injEq]at h;subst h;exact ⟨Tryz.f234,YW,Tryz.func234,qiy⟩
 ·simp only [Option.some.injEq]at h;subst h;exact ⟨Tryz.f235,Xn,Tryz.func235,qi7⟩
 ·simp only [Option.some.injEq]at h;subst h;exact ⟨Tryz.f236,jK,Tryz.func236,qjO⟩
 ·simp only [Option.some.injEq]at h;subst h;exact ⟨Tryz.f237,Qu,Tryz.func237,qjo⟩
 ·simp only [Option.some.injEq]at h;subst h;exact ⟨Tryz.f246,jG,Tryz.func246,qiJ⟩
 ·simp only [Option.some.injEq]at h;subst h;exact ⟨Tryz.f247,jF,Tryz.func247,qiw⟩
 ·simp only [Option.some.injEq]at h;subst h;exact ⟨Tryz.f248,jd,Tryz.func248,qjP⟩
 ·simp only [Option.some.injEq]at h;subst h;exact ⟨Tryz.f249,jM,Tryz.func249,qjR⟩
 ·simp only [Option.some.injEq]at h;subst h;exact ⟨Tryz.f250,jJ,Tryz.func250,qjL⟩
 ·simp only [Option.some.injEq]at h;subst h;exact qib
 ·simp only [Option.some.injEq]at h;subst h;exact ⟨Tryz.f256,Xd,Tryz.func256,qiX⟩
 ·simp only [Option.some.injEq]at h;subst h;exact ⟨Tryz.f257,Xj,Tryz.func257,qi3⟩
 ·simp only [Option.some.injEq]at h;subst h;exact ⟨Tryz.f258,Y7,Tryz.func258,qiR⟩
 ·simp only [Option.some.injEq]at h;subst h;exact ⟨Tryz.f261,Qw,Tryz.func261,qjr⟩
 ·cases h
theorem qj4:xc Tryz.prog Jd:=by
 intro f e h
 unfold Jd at h
 split at h
 ·simp only [Option.some.injEq]at h;subst h;exact ⟨Tryz.f266,YX,Tryz.func266,qiA⟩
 ·simp only [Option.some.injEq]at h;subst h;exact qif
 ·simp only [Option.some.injEq]at h;subst h;exact ⟨Tryz.f271,XD,Tryz.func271,qjw⟩
 ·simp only [Option.some.injEq]at h;subst h;exact ⟨Tryz.f272,YT,Tryz.func272,qiu⟩
 ·simp only [Option.some.injEq]at h;subst h;exact ⟨Tryz.f273,jb,Tryz.func273,qjF⟩
 ·simp only [Option.some.injEq]at h;subst h;exact ⟨Tryz.f274,XK,Tryz.func274,qjD⟩
 ·simp only [Option.some.injEq]at h;subst h;exact ⟨Tryz.f275,XL,Tryz.func275,qjE⟩
 ·simp only [Option.some.injEq]at h;subst h;exact ⟨Tryz.f276,XJ,Tryz.func276,qjC⟩
 ·simp only [Option.some.injEq]at h;subst h;exact ⟨Tryz.f278,XI,Tryz.func278,qjB⟩
 ·simp only [Option.some.injEq]at h;subst h;exact ⟨Tryz.f279,Xu,Tryz.func279,qjh⟩
 ·simp only [Option.some.injEq]at h;subst h;exact ⟨Tryz.f284,Xq,Tryz.func284,qja⟩
 ·simp only [Option.some.injEq]at h;subst h;exact ⟨Tryz.f285,XB,Tryz.func285,qju⟩
 ·simp only [Option.some.injEq]at h;subst h;exact ⟨Tryz.f286,Xx,Tryz.func286,qjm⟩
 ·simp only [Option.some.injEq]at h;subst h;exact ⟨Tryz.f294,YR,Tryz.func294,qis⟩
 ·simp only [Option.some.injEq]at h;subst h;exact ⟨Tryz.f296,Xm,Tryz.func296,qi6⟩
 ·simp only [Option.some.injEq]at h;subst h;exact ⟨Tryz.f301,Qz,Tryz.func301,qjM⟩
 ·simp only [Option.some.injEq]at h;subst h;exact ⟨Tryz.f302,jc,Tryz.func302,qjN⟩
 ·simp only [Option.some.injEq]at h;subst h;exact ⟨Tryz.f310,jH,Tryz.func310,qiK⟩
 ·simp only [Option.some.injEq]at h;subst h;exact ⟨Tryz.f311,Qo,Tryz.func311,qiD⟩
 ·simp only [Option.some.injEq]at h;subst h;exact ⟨Tryz.f312,k8,Tryz.func312,qiz⟩
 ·cases h
theorem qj5:xc Tryz.prog Je:=by
 intro f e h
 unfold Je at h
 split at h
 ·simp only [Option.some.injEq]at h;subst h;exact ⟨Tryz.f321,Xe,Tryz.func321,qiY⟩
 ·simp only [Option.some.injEq]at h;subst h;exact ⟨Tryz.f322,Xk,Tryz.func322,qi4⟩
 ·simp only [Option.some.injEq]at h;subst h;exact ⟨Tryz.f323,Y8,Tryz.func323,qiS⟩
 ·simp only [Option.some.injEq]at h;subst h;exact ⟨Tryz.f330,XC,Tryz.func330,qjv⟩
 ·simp only [Option.some.injEq]at h;subst h;exact ⟨Tryz.f331,XM,Tryz.func331,qjG⟩
 ·simp only [Option.some.injEq]at h;subst h;exact ⟨Tryz.f343,Xl,Tryz.func343,qi5⟩
 ·simp only [Option.some.injEq]at h;subst h;exact ⟨Tryz.f344,Xo,Tryz.func344,qi8⟩
 ·simp only [Option.some.injEq]at h;subst h;exact ⟨Tryz.f346,Qy,Tryz.func346,qjJ⟩
 ·simp only [Option.some.injEq]at h;subst h;exact qie
 ·cases h
theorem qj6:xc Tryz.prog Jf:=by
 intro f e h
 unfold Jf at h
 split at h
 ·simp only [Option.some.injEq]at h;subst h;exact ⟨Tryz.f396,Y1,Tryz.func396,qiG⟩
 ·simp only [Option.some.injEq]at h;subst h;exact ⟨Tryz.f397,Y2,Tryz.func397,qiI⟩
 ·simp only [Option.some.injEq]at h;subst h;exact ⟨Tryz.f398,YU,Tryz.func398,qiv⟩
 ·simp only [Option.some.injEq]at h;subst h;exact ⟨Tryz.f399,YO,Tryz.func399,qip⟩
 ·cases h
theorem qj7:xc Tryz.prog qa6:=by
 intro f e h
 unfold qa6 at h
 split at h
 ·cases h
theorem qjY:xc Tryz.prog ql:=by
 intro f e h
 unfold ql at h
 cases h0:K8 f with
 |some x=>rw [h0]at h;cases h;exact qjZ f e h0
 |none=>
 rw [h0]at h
 simp only at h
 cases h1:K9 f with
 |some x=>rw [h1]at h;cases h;exact qj0 f e h1
 |none=>
 rw [h1]at h
 simp only at h
 cases h2:Ja f with
 |some x=>rw [h2]at h;cases h;exact qj1 f e h2
 |none=>
 rw [h2]at h
 simp only at h
 cases h3:Jb f with
 |some x=>rw [h3]at h;cases h;exact qj2 f e h3
 |none=>
 rw [h3]at h
 simp only at h
 cases h4:Jc f with
 |some x=>rw [h4]at h;cases h;exact qj3 f e h4
 |none=>
 rw [h4]at h
 simp only at h
 cases h5:Jd f with
 |some x=>rw [h5]at h;cases h;exact qj4 f e h5
 |none=>
 rw [h5]at h
 simp only at h
 cases h6:Je f with
 |some x=>rw [h6]at h;cases h;exact qj5 f e h6
 |none=>
 rw [h6]at h
 simp only at h
 cases h7:Jf f with
 |some x=>rw [h7]at h;cases h;exact qj6 f e h7
 |none=>
 rw [h7]at h
 simp only at h
 exact qj7 f e h
end Go.Vm
