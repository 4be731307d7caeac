import Derived.Test.YtnicgnmcacbplaaT03
set_option autoImplicit false
set_option maxRecDepth 100000
namespace Go.Vm
abbrev qrf:Nat:=0
abbrev qq7:Nat:=1
abbrev qq8:Nat:=2
abbrev Yt:Nat:=3
abbrev qbf:Nat:=4
abbrev qbi:Nat:=5
abbrev XN:Nat:=6
abbrev Ju:Nat:=7
abbrev XM:Nat:=8
abbrev Yv:Nat:=9
abbrev Jv:Nat:=10
abbrev XR:Nat:=11
abbrev qbs:Nat:=12
abbrev qdF:Nat:=13
abbrev Yu:Nat:=14
abbrev Qi:Nat:=15
abbrev jN:Nat:=16
abbrev JC:Nat:=17
abbrev qbg:Nat:=18
abbrev kQ:Nat:=19
abbrev qa8:Nat:=20
abbrev Jy:Nat:=21
abbrev XP:Nat:=22
abbrev qbl:Nat:=23
abbrev Qk:Nat:=24
abbrev XS:Nat:=25
abbrev qbo:Nat:=26
abbrev qbt:Nat:=27
abbrev JF:Nat:=28
abbrev qbh:Nat:=29
abbrev qa9:Nat:=30
abbrev Qh:Nat:=31
abbrev jP:Nat:=32
abbrev qbp:Nat:=33
abbrev qbk:Nat:=34
abbrev JH:Nat:=35
abbrev qbu:Nat:=36
abbrev Zh:Nat:=37
abbrev Jx:Nat:=38
abbrev qbc:Nat:=39
abbrev jf:Nat:=40
abbrev zY:Nat:=41
abbrev Zg:Nat:=42
abbrev qba:Nat:=43
abbrev Zi:Nat:=44
abbrev qbr:Nat:=45
abbrev JG:Nat:=46
abbrev qbb:Nat:=47
abbrev XO:Nat:=48
abbrev JD:Nat:=49
abbrev JE:Nat:=50
abbrev Yr:Nat:=51
abbrev Yp:Nat:=52
abbrev XT:Nat:=53
abbrev JA:Nat:=54
abbrev yW:Nat:=55
abbrev Jw:Nat:=56
abbrev jO:Nat:=57
abbrev XQ:Nat:=58
abbrev qbn:Nat:=59
abbrev qbq:Nat:=60
abbrev qre:Nat:=61
abbrev qa7:Nat:=62
abbrev Zf:Nat:=63
abbrev Qj:Nat:=64
abbrev je:Nat:=65
abbrev Yq:Nat:=66
abbrev Ys:Nat:=67
abbrev JB:Nat:=68
abbrev qbd:Nat:=69
abbrev Jz:Nat:=70
abbrev qbm:Nat:=71
abbrev qbj:Nat:=72
abbrev qrb:Nat:=73
abbrev qbe:Nat:=74
abbrev qrk:Nat:=75
abbrev qrl:Nat:=76
abbrev qro:Nat:=77
abbrev qrp:Nat:=78
abbrev qrq:Nat:=79
abbrev qrr:Nat:=80
abbrev qrm:Nat:=81
abbrev qrn:Nat:=82
abbrev qri:Nat:=83
abbrev qrj:Nat:=84
abbrev qrg:Nat:=85
abbrev qrh:Nat:=86
abbrev qra:Nat:=87
abbrev qrc:Nat:=88
abbrev qrd:Nat:=89
abbrev qq9:Nat:=90
def Yz:AC:=(.seq (.seq (.reg [.mv 94 (.t 15),.mv 95 (.t 7),.len 96 (.t 95),.bin 97 .lss (.t 94) (.t 96),.mv 98 (.t 97),.gd 98 true (some 99) (.mv 99 (.t 6)),.pick 100 (.t 98) (.t 99) (.c (B false))]) (.keep [3,4,5,6,7,15,100] (.cond (.t 100) .skip (.keep [4,7] (.exit 4))))) (.keep [3,4,5,6,7,15] (.seq (.block 5 (.seq (.reg [.mv 104 (.t 3),.mv 105 (.t 7),.mv 106 (.t 15),.ia 107 1 (.t 105) (.t 106),.ld 108 false 1 (.t 107),.call (some 109) (.c (Fc Yv)) [(.t 104),(.t 108)] (.ro true),.mv 103 (.t 109),.ext 110 (.t 103) 0,.ext 111 (.t 103) 1,.mv 16 (.t 110),.mv 17 (.t 111)]) (.keep [3,4,5,6,7,15,17] (.seq (.reg [.mv 112 (.t 17),.mv 113 (.t 112),.gd 113 true (some 114) (.mv 114 (.t 5)),.gd 113 true (some 115) (.mv 115 (.t 7)),.gd 113 true (some 116) (.mv 116 (.t 15)),.gd 113 true (some 117) (.ia 117 1 (.t 115) (.t 116)),.gd 113 true (some 118) (.ld 118 false 1 (.t 117)),.gd 113 true (some 119) (.call (some 119) (.c (Fc XR)) [(.t 114),(.t 118)] (.ro true)),.gd 113 true (some 120) (.un 120 .not (.t 119)),.pick 121 (.t 113) (.t 120) (.c (B false))]) (.keep [3,4,5,6,7,15,121] (.cond (.t 121) (.seq (.reg [.mv 2 (.c (B false))]) (.keep [2] .ret)) .skip)))))) (.keep [3,4,5,6,7,15] (.reg [.mv 101 (.t 15),.bin 102 .add (.t 101) (.c (I 1)),.mv 15 (.t 102)])))))
def X1:Lp:=⟨[3,4,5,6,7,15],[(1,0)],Yz⟩
@[go_sem] theorem qsp:X1.ls=[3,4,5,6,7,15]:=rfl
@[go_sem] theorem qso:X1.ks=[(1,0)]:=rfl
@[go_sem] theorem qsn:X1.body=Yz:=rfl
def Kl:AC:=(.seq (.seq (.reg [.mv 67 (.t 12),.mv 68 (.t 11),.len 69 (.t 68),.bin 70 .lss (.t 67) (.t 69)]) (.keep [3,4,5,6,7,8,11,12,70] (.cond (.t 70) .skip (.keep [3,4,5,6,7,8] (.exit 2))))) (.keep [3,4,5,6,7,8,11,12] (.seq (.block 3 (.seq (.reg [.mv 74 (.t 3),.mv 75 (.t 11),.mv 76 (.t 12),.ia 77 1 (.t 75) (.t 76),.ld 78 false 1 (.t 77),.call (some 79) (.c (Fc Yv)) [(.t 74),(.t 78)] (.ro true),.mv 73 (.t 79),.ext 80 (.t 73) 0,.ext 81 (.t 73) 1,.mv 13 (.t 80),.mv 14 (.t 81)]) (.keep [3,4,5,6,7,8,11,12,14] (.seq (.dreg [⟨0,[]⟩,⟨0,[]⟩,⟨0,[]⟩,⟨0,[]⟩,⟨0,[(0,0),(0,1),(0,2),(0,3),(22,0),(22,1),(22,2),(22,3),(28,0),(28,1),(28,2),(28,3),(100000,0),(100000,1),(100000,2),(100000,3),(100000,4),(100000,5)]⟩,⟨0,[]⟩,⟨0,[]⟩,⟨0,[(0,0),(0,1),(0,2),(0,3),(22,0),(22,1),(22,2),(22,3),(28,0),(28,1),(28,2),(28,3),(50,0),(51,0),(51,1),(51,2),(51,3),(55,0),(55,1),(55,2),(55,3),(100000,0),(100000,1),(100000,2),(100000,3),(100000,4),(100000,5)]⟩,⟨0,[(0,0),(0,1),(0,2),(0,3),(22,0),(22,1),(22,2),(22,3),(28,0),(28,1),(28,2),(28,3),(50,0),(51,0),(51,1),(51,2),(51,3),(55,0),(55,1),(55,2),(55,3),(100000,0),(100000,1),(100000,2),(100000,3),(100000,4),(100000,5)]⟩,⟨2,[(0,0),(0,1),(0,2),(0,3),(22,0),(22,1),(22,2),(22,3),(28,0),(28,1),(28,2),(28,3),(50,0),(51,0),(51,1),(51,2),(51,3),(55,0),(55,1),(55,2),(55,3),(90,0),(100000,0),(100000,1),(100000,2),(100000,3),(100000,4),(100000,5)]⟩,⟨0,[]⟩,⟨0,[]⟩] [.mv 82 (.t 14),.mv 83 (.t 82),.gd 83 true (some 84) (.mv 84 (.t 5)),.gd 83 true (some 85) (.mv 85 (.t 8)),.gd 83 true (some 86) (.sl 86 1 (.t 84) none (some (.t 85))),.gd 83 true (some 87) (.mv 87 (.t 11)),.gd 83 true (some 88) (.mv 88 (.t 12)),.gd 83 true (some 89) (.ia 89 1 (.t 87) (.t 88)),.gd 83 true (some 90) (.ldq 90 false 1 (.t 89)),.gd 83 true (some 91) (.call (some 91) (.c (Fc XR)) [(.t 86),(.t 90)] (.ro true)),.gd 83 true (some 92) (.un 92 .not (.t 91)),.pick 93 (.t 83) (.t 92) (.c (B false))]) (.keep [3,4,5,6,7,8,11,12,93] (.cond (.t 93) (.seq (.reg [.mv 2 (.c (B false))]) (.keep [2] .ret)) .skip)))))) (.keep [3,4,5,6,7,8,11,12] (.reg [.mv 71 (.t 12),.bin 72 .add (.t 71) (.c (I 1)),.mv 12 (.t 72)])))))
def X2:Lp:=⟨[3,4,5,6,7,8,11,12],[(1,0)],Kl⟩
@[go_sem] theorem qss:X2.ls=[3,4,5,6,7,8,11,12]:=rfl
@[go_sem] theorem qsr:X2.ks=[(1,0)]:=rfl
@[go_sem] theorem qsq:X2.body=Kl:=rfl
def JO:AC:=(.seq (.seq (.reg [.mv 39 (.t 8),.mv 40 (.t 5),.len 41 (.t 40),.bin 42 .lss (.t 39) (.t 41)]) (.keep [3,4,5,6,7,8,42] (.cond (.t 42) .skip (.keep [3,4,5,6,7] (.exit 0))))) (.keep [3,4,5,6,7,8] (.seq (.block 1 (.seq (.reg [.mv 46 (.t 3),.mv 47 (.t 5),.mv 48 (.t 8),.ia 49 1 (.t 47) (.t 48),.ld 50 false 1 (.t 49),.call (some 51) (.c (Fc Yv)) [(.t 46),(.t 50)] (.ro true),.mv 45 (.t 51),.ext 52 (.t 45) 0,.ext 53 (.t 45) 1,.mv 9 (.t 52),.mv 10 (.t 53)]) (.keep [3,4,5,6,7,8,9,10] (.seq (.reg [.mv 54 (.t 9),.call (some 55) (.c (Fc Jv)) [(.t 54)] (.ro true),.mv 11 (.t 55)]) (.seq (.seq (.reg [.mv 56 (.t 10),.un 57 .not (.t 56),.mv 58 (.t 57),.gd 58 false (some 59) (.mv 59 (.t 7)),.gd 58 false (some 60) (.mv 60 (.t 5)),.gd 58 false (some 61) (.mv 61 (.t 8)),.gd 58 false (some 62) (.ia 62 1 (.t 60) (.t 61)),.gd 58 false (some 63) (.ld 63 false 1 (.t 62)),.gd 58 false (some 64) (.call (some 64) (.c (Fc XR)) [(.t 59),(.t 63)] (.ro true)),.gd 58 false (some 65) (.un 65 .not (.t 64)),.pick 66 (.t 58) (.c (B true)) (.t 65)]) (.keep [3,4,5,6,7,8,11,66] (.cond (.t 66) (.seq (.reg [.mv 2 (.c (B false))]) (.keep [2] .ret)) .skip))) (.keep [3,4,5,6,7,8,11] (.seq (.reg [.mv 12 (.c (I 0))]) (.block 2 (lpC X2))))))))) (.keep [3,4,5,6,7,8] (.reg [.mv 43 (.t 8),.bin 44 .add (.t 43) (.c (I 1)),.mv 8 (.t 44)])))))
def X3:Lp:=⟨[3,4,5,6,7,8],[(1,0)],JO⟩
@[go_sem] theorem qsv:X3.ls=[3,4,5,6,7,8]:=rfl
@[go_sem] theorem qsu:X3.ks=[(1,0)]:=rfl
@[go_sem] theorem qst:X3.body=JO:=rfl
def qa3:AC:=
 (.keep [2] .ret)
def qa4:AC:=
 (.keep [3,4,5,6,7] (.seq (.seq (.reg [.mv 8 (.c (I 0))]) (.block 0 (lpC X3))) (.keep [3,4,5,6,7] (.seq (.seq (.reg [.mv 15 (.c (I 0))]) (.block 4 (lpC X1))) (.keep [4,7] (.seq (.reg [.mv 122 (.t 7),.len 123 (.t 122),.bin 124 .gtr (.t 123) (.c (I 0)),.mv 125 (.t 124),.gd 125 true (some 126) (.mv 126 (.t 7)),.gd 125 true (some 127) (.ia 127 1 (.t 126) (.c (I 0))),.gd 125 true (some 128) (.ld 128 false 1 (.t 127)),.gd 125 true (some 129) (.mv 129 (.t 4)),.gd 125 true (some 130) (.bin 130 .eql (.t 128) (.t 129)),.pick 131 (.t 125) (.t 130) (.c (B false)),.mv 2 (.t 131)]) qa3))))))
def qa5:AC:=
 (.keep [3,4] (.seq (.reg [.mv 26 (.t 3),.mv 27 (.t 4),.call (some 28) (.c (Fc XN)) [(.t 26),(.t 27)] (.ro true),.mv 25 (.t 28),.ext 29 (.t 25) 0,.ext 30 (.t 25) 1,.mv 5 (.t 29),.mv 6 (.t 30)]) (.keep [3,4,5,6] (.seq (.reg [.mv 31 (.t 3),.mv 32 (.t 4),.call (some 33) (.c (Fc Ju)) [(.t 31),(.t 32)] (.ro false),.mv 7 (.t 33)]) (.keep [3,4,5,6,7] (.seq (.seq (.reg [.mv 34 (.t 6),.mv 35 (.t 3),.mv 36 (.t 4),.call (some 37) (.c (Fc XM)) [(.t 35),(.t 36)] (.ro true),.eqs 38 0 false (.t 34) (.t 37)]) (.keep [3,4,5,6,7,38] (.cond (.t 38) (.seq (.reg [.mv 2 (.c (B false))]) (.keep [2] .ret)) .skip))) qa4))))))
def jL:AF where
 nargs:=1
 ntmps:=132
 res:=[.tmp 2]
 body:=(.seq (.reg [.mv 2 (.c (B false))]) (.seq (.seq (.reg [.mv 18 (.t 0),.call (some 19) (.c (Fc qbf)) [(.t 18)] (.ro true)]) (.cond (.t 19) (.seq (.reg [.mv 2 (.c (B true))]) (.keep [2] .ret)) .skip)) (.keep [0] (.seq (.reg [.mv 21 (.t 0),.call (some 22) (.c (Fc qbi)) [(.t 21)] (.ro true),.mv 20 (.t 22),.ext 23 (.t 20) 0,.ext 24 (.t 20) 1,.mv 3 (.t 23),.mv 4 (.t 24)]) qa5))))
def Ya:AF where
 nargs:=1
 ntmps:=6
 res:=[.tmp 2]
 body:=(.seq (.reg [.mv 2 (.c (B false))]) (.seq (.reg [.mv 3 (.t 0),.len 4 (.t 3),.bin 5 .gtr (.t 4) (.c (I 1048576)),.mv 2 (.t 5)]) (.keep [2] .ret)))
def Yd:AF where
 nargs:=1
 ntmps:=8
 res:=[.tmp 2,.tmp 3]
 body:=(.seq (.reg [.mv 2 (.c (.n 2)),.mv 3 (.c (S []))]) (.seq (.reg [.mv 4 (.t 0),.call (some 5) (.c (Fc qbs)) [(.t 4)] (.ro false),.ext 6 (.t 5) 0,.ext 7 (.t 5) 1,.mv 2 (.t 6),.mv 3 (.t 7)]) (.keep [2,3] .ret)))
def qq3:AF where
 nargs:=2
 ntmps:=16
 res:=[.tmp 4,.tmp 5]
 body:=(.seq (.reg [.new 2 (.t 0),.mv 4 (.c (.n 1)),.mv 5 (.c (B false))]) (.seq (.seq (.reg [.ld 8 false 1 (.t 2),.mv 9 (.t 1),.call (some 10) (.c (Fc XM)) [(.t 8),(.t 9)] (.ro true)]) (.cond (.t 10) (.seq (.reg [.mv 4 (.c (.n 1)),.mv 5 (.c (B false))]) (.keep [4,5] .ret)) .skip)) (.keep [1,2] (.seq (.reg [.new 6 (.c (.n 1))]) (.seq (.reg [.new 7 (.c (.v .nilFunc))]) (.seq (.reg [.fun 11 (.func qdF) [] [(.t 6),(.t 2),(.t 7)],.st 1 (.t 7) (.t 11)]) (.seq (.reg [.ld 12 false 1 (.t 7),.mv 13 (.t 1),.call (some 14) (.t 12) [(.t 13)] (.ro true)]) (.seq (.reg [.ld 15 false 1 (.t 6),.mv 4 (.t 15),.mv 5 (.c (B true))]) (.keep [4,5] .ret)))))))))
def ZW:AF where
 nargs:=2
 ntmps:=9
 res:=[.tmp 4]
 body:=(.seq (.reg [.mv 4 (.c (.n 1))]) (.seq (.reg [.mv 5 (.t 0),.mv 6 (.t 1),.mks 7 1 [(.t 6)],.call (some 8) (.c (Fc JC)) [(.t 5),(.t 7)] (.ro false),.mv 4 (.t 8)]) (.keep [4] .ret)))
def ZU:AF where
 nargs:=2
 ntmps:=10
 res:=[.tmp 4]
 body:=(.seq (.reg [.new 2 (.t 0),.mv 4 (.c (B false))]) (.seq (.reg [.ld 5 false 1 (.t 2),.mv 6 (.t 1),.call (some 7) (.c (Fc Ju)) [(.t 5),(.t 6)] (.ro false),.fun 8 (.func kQ) [] [(.t 2)],.call (some 9) (.c (Fc qbg)) [(.t 7),(.t 8)] (.ro false),.mv 4 (.t 9)]) (.keep [4] .ret)))
def Kp:AC:=(.seq (.seq (.reg [.mv 7 (.t 6),.mv 8 (.t 0),.len 9 (.t 8),.bin 10 .lss (.t 7) (.t 9)]) (.keep [0,1,6,10] (.cond (.t 10) .skip (.keep [] (.exit 0))))) (.keep [0,1,6] (.seq (.block 1 (.seq (.reg [.mv 13 (.t 0),.mv 14 (.t 6),.ia 15 2 (.t 13) (.t 14),.fa 16 (.t 15) 0,.ld 17 false 1 (.t 16),.mv 18 (.t 1),.bin 19 .eql (.t 17) (.t 18)]) (.keep [0,1,6,19] (.cond (.t 19) (.seq (.reg [.mv 20 (.t 0),.mv 21 (.t 6),.ia 22 2 (.t 20) (.t 21),.fa 23 (.t 22) 1,.ld 24 false 1 (.t 23),.mv 4 (.t 24),.mv 5 (.c (B true))]) (.keep [4,5] .ret)) .skip)))) (.keep [0,1,6] (.reg [.mv 11 (.t 6),.bin 12 .add (.t 11) (.c (I 1)),.mv 6 (.t 12)])))))
def Qo:Lp:=⟨[0,1,6],[(2,0)],Kp⟩
@[go_sem] theorem qsH:Qo.ls=[0,1,6]:=rfl
@[go_sem] theorem qsG:Qo.ks=[(2,0)]:=rfl
@[go_sem] theorem qsF:Qo.body=Kp:=rfl
def Za:AF where
 nargs:=2
 ntmps:=25
 res:=[.tmp 4,.tmp 5]
 body:=(.seq (.reg [.mv 4 (.c (S [])),.mv 5 (.c (B false))]) (.seq (.seq (.reg [.mv 6 (.c (I 0))]) (.block 0 (lpC Qo))) (.keep [] (.seq (.reg [.mv 4 (.c (S [])),.mv 5 (.c (B false))]) (.keep [4,5] .ret)))))
def Zl:AC:=(.seq (.reg [.bin 16 .lss (.t 15) (.t 14)]) (.seq (.cond (.t 16) .skip (.keep [5] (.exit 0))) (.keep [5,13,14,15] (.seq (.block 1 (.seq (.reg [.ia 17 4 (.t 13) (.t 15),.ld 18 true 4 (.t 17),.new 7 (.c (.a [(I 0),(S []),(I 0),(.n 4)])),.st 4 (.t 7) (.t 18)]) (.keep [5,7,13,14,15] (.seq (.reg [.ld 19 true 4 (.t 7),.call (some 20) (.c (Fc Jy)) [(.t 19),(.c (S [58,45])),(.c (I 1))] (.ro true),.mv 21 (.t 20),.gd 21 true (some 22) (.fa 22 (.t 7) 3),.gd 21 true (some 23) (.ld 23 false 1 (.t 22)),.gd 21 true (some 24) (.ia 24 4 (.t 23) (.c (I 0))),.gd 21 true (some 25) (.ld 25 true 4 (.t 24)),.gd 21 true (some 26) (.call (some 26) (.c (Fc Jy)) [(.t 25),(.c (S [105,110,99,108,117,100,101])),(.c (I 1))] (.ro true)),.pick 27 (.t 21) (.t 26) (.c (B false)),.mv 28 (.t 27),.gd 28 true (some 29) (.fa 29 (.t 7) 3),.gd 28 true (some 30) (.ld 30 false 1 (.t 29)),.gd 28 true (some 31) (.ia 31 4 (.t 30) (.c (I 0))),.gd 28 true (some 32) (.fa 32 (.t 31) 3),.gd 28 true (some 33) (.ld 33 false 1 (.t 32)),.gd 28 true (some 34) (.ia 34 4 (.t 33) (.c (I 0))),.gd 28 true (some 35) (.fa 35 (.t 34) 0),.gd 28 true (some 36) (.ld 36 false 1 (.t 35)),.gd 28 true (some 37) (.bin 37 .eql (.t 36) (.c (I 2))),.pick 38 (.t 28) (.t 37) (.c (B false))]) (.keep [5,7,13,14,15,38] (.cond (.t 38) (.reg [.mv 39 (.t 5),.fa 40 (.t 7) 3,.ld 41 false 1 (.t 40),.ia 42 4 (.t 41) (.c (I 0)),.fa 43 (.t 42) 3,.ld 44 false 1 (.t 43),.ia 45 4 (.t 44) (.c (I 0)),.fa 46 (.t 45) 1,.ld 47 false 1 (.t 46),.call (some 48) (.c (Fc XP)) [(.t 39),(.t 47)] (.io false),.mv 5 (.t 48)]) .skip)))))) (.keep [5,13,14,15] (.reg [.bin 49 .add (.t 15) (.c (I 1)),.mv 15 (.t 49)]))))))
def Zj:Lp:=⟨[5,13,14,15],[(1,0)],Zl⟩
@[go_sem] theorem qrJ:Zj.ls=[5,13,14,15]:=rfl
@[go_sem] theorem qrI:Zj.ks=[(1,0)]:=rfl
@[go_sem] theorem qrH:Zj.body=Zl:=rfl
def ZX:AF where
 nargs:=1
 ntmps:=51
 res:=[.tmp 2]
 body:=(.seq (.reg [.mv 2 (.c (.n 1))]) (.seq (.reg [.mv 9 (.t 0),.call (some 10) (.c (Fc qa8)) [(.t 9)] (.ro false),.mv 8 (.t 10),.ext 11 (.t 8) 0,.ext 12 (.t 8) 1,.mv 3 (.t 11),.mv 4 (.t 12)]) (.keep [3] (.seq (.reg [.mv 5 (.c (.n 1))]) (.seq (.seq (.reg [.mv 13 (.t 3),.len 14 (.t 13),.mv 15 (.c (I 0))]) (.block 0 (lpC Zj))) (.keep [5] (.seq (.reg [.mv 50 (.t 5),.mv 2 (.t 50)]) (.keep [2] .ret))))))))
def Km:AC:=(.seq (.seq (.reg [.mv 6 (.t 5),.mv 7 (.t 0),.len 8 (.t 7),.bin 9 .lss (.t 6) (.t 8)]) (.keep [0,1,5,9] (.cond (.t 9) .skip (.keep [] (.exit 0))))) (.keep [0,1,5] (.seq (.block 1 (.seq (.reg [.mv 12 (.t 0),.mv 13 (.t 5),.ia 14 1 (.t 12) (.t 13),.ld 15 false 1 (.t 14),.mv 16 (.t 1),.bin 17 .eql (.t 15) (.t 16)]) (.keep [0,1,5,17] (.cond (.t 17) (.seq (.reg [.mv 4 (.c (B true))]) (.keep [4] .ret)) .skip)))) (.keep [0,1,5] (.reg [.mv 10 (.t 5),.bin 11 .add (.t 10) (.c (I 1)),.mv 5 (.t 11)])))))
def X4:Lp:=⟨[0,1,5],[(2,0)],Km⟩
@[go_sem] theorem qsy:X4.ls=[0,1,5]:=rfl
@[go_sem] theorem qsx:X4.ks=[(2,0)]:=rfl
@[go_sem] theorem qsw:X4.body=Km:=rfl
def Q7:AF where
 nargs:=2
 ntmps:=18
 res:=[.tmp 4]
 body:=(.seq (.reg [.mv 4 (.c (B false))]) (.seq (.seq (.reg [.mv 5 (.c (I 0))]) (.block 0 (lpC X4))) (.keep [] (.seq (.reg [.mv 4 (.c (B false))]) (.keep [4] .ret)))))
def Ze:AF where
 nargs:=1
 ntmps:=19
 res:=[.tmp 2,.tmp 3]
 body:=(.seq (.reg [.mv 2 (.c (.n 2)),.mv 3 (.c (S []))]) (.seq (.reg [.mv 6 (.t 0),.call (some 7) (.c (Fc qbl)) [(.t 6)] (.ro false),.mv 4 (.t 7)]) (.seq (.reg [.mv 8 (.t 4),.mks 9 1 [(.c (S [111,110,101])),(.c (S [116,119,111])),(.c (S [111,110,101])),(.c (S [110,111,110,101]))],.call (some 10) (.c (Fc Qk)) [(.t 8),(.t 9)] (.io false),.mv 5 (.t 10)]) (.keep [4,5] (.seq (.seq (.reg [.mv 11 (.t 4),.call (some 12) (.c (Fc XS)) [(.t 11),(.c (I 5))] (.io true)]) (.cond (.t 12) (.seq (.reg [.mv 13 (.t 4),.call (some 14) (.c (Fc qbo)) [(.t 13)] (.io false),.mv 15 (.t 5),.mv 2 (.t 14),.mv 3 (.t 15)]) (.keep [2,3] .ret)) .skip)) (.keep [4,5] (.seq (.reg [.mv 16 (.t 4),.call (some 17) (.c (Fc qbt)) [(.t 16)] (.io false),.mv 18 (.t 5),.mv 2 (.t 17),.mv 3 (.t 18)]) (.keep [2,3] .ret))))))))
def qdN:AC:=(.seq (.reg [.bin 17 .lss (.t 16) (.t 15)]) (.seq (.cond (.t 17) .skip (.keep [0,1,2] (.exit 0))) (.keep [0,1,2,3,14,15,16] (.seq (.block 1 (.seq (.reg [.ia 18 1 (.t 14) (.t 16),.ld 19 false 1 (.t 18),.mv 6 (.t 19)]) (.reg [.ld 20 false 1 (.t 3),.mv 21 (.t 6),.call (some 22) (.t 20) [(.t 21)] (.ro true)]))) (.keep [0,1,2,3,14,15,16] (.reg [.bin 23 .add (.t 16) (.c (I 1)),.mv 16 (.t 23)]))))))
def JL:Lp:=⟨[0,1,2,3,14,15,16],[(4,0)],qdN⟩
@[go_sem] theorem qrM:JL.ls=[0,1,2,3,14,15,16]:=rfl
@[go_sem] theorem qrL:JL.ks=[(4,0)]:=rfl
@[go_sem] theorem qrK:JL.body=qdN:=rfl
def qq4:AF where
 nargs:=4
 ntmps:=35
 res:=[]
 body:=(.seq (.seq (.reg [.ld 9 false 1 (.t 1),.mv 10 (.t 0),.call (some 11) (.c (Fc Yu)) [(.t 9),(.t 10)] (.ro true)]) (.cond (.t 11) (.keep [] .ret) .skip)) (.keep [0,1,2,3] (.seq (.seq (.reg [.ld 12 false 1 (.t 2),.mv 13 (.t 0),.call (some 14) (.c (Fc Qi)) [(.t 12),(.t 13)] (.ro true),.len 15 (.t 14),.mv 16 (.c (I 0))]) (.keep [0,1,2,3,14,15,16] (.block 0 (lpC JL)))) (.keep [0,1,2] (.seq (.reg [.ld 25 false 1 (.t 2),.mv 26 (.t 0),.call (some 27) (.c (Fc jN)) [(.t 25),(.t 26)] (.ro true),.mv 24 (.t 27),.ext 28 (.t 24) 0,.ext 29 (.t 24) 1,.mv 7 (.t 28),.mv 8 (.t 29)]) (.keep [0,1,8] (.seq (.reg [.mv 30 (.t 8)]) (.cond (.t 30) (.reg [.ld 31 false 1 (.t 1),.mv 32 (.t 0),.mks 33 1 [(.t 32)],.app 34 1 16 (.t 31) (.t 33),.st 1 (.t 1) (.t 34)]) .skip))))))))
def Yc:AF where
 nargs:=2
 ntmps:=9
 res:=[.tmp 4]
 body:=(.seq (.reg [.mv 4 (.c (B false))]) (.seq (.reg [.mv 5 (.t 0),.mv 6 (.t 1),.call (some 7) (.c (Fc JF)) [(.t 5),(.t 6)] (.ro false),.bin 8 .geq (.t 7) (.c (I 0)),.mv 4 (.t 8)]) (.keep [4] .ret)))
def Q2:AF where
 nargs:=2
 ntmps:=15
 res:=[.tmp 4]
 body:=(.seq (.reg [.mv 4 (.c (.n 1))]) (.seq (.reg [.mv 8 (.t 0),.mv 9 (.t 1),.call (some 10) (.c (Fc jN)) [(.t 8),(.t 9)] (.ro false),.mv 7 (.t 10),.ext 11 (.t 7) 0,.ext 12 (.t 7) 1,.mv 5 (.t 11),.mv 6 (.t 12)]) (.keep [5] (.seq (.reg [.mv 13 (.t 5),.call (some 14) (.c (Fc Jv)) [(.t 13)] (.ro false),.mv 4 (.t 14)]) (.keep [4] .ret)))))
def Ke:AC:=(.seq (.reg [.bin 11 .lss (.t 10) (.t 9)]) (.seq (.cond (.t 11) .skip (.keep [] (.exit 0))) (.keep [1,8,9,10] (.seq (.block 1 (.seq (.reg [.ia 12 2 (.t 8) (.t 10),.ld 13 true 2 (.t 12),.new 7 (.c (.a [(S []),(S [])])),.st 2 (.t 7) (.t 13)]) (.keep [1,7,8,9,10] (.seq (.reg [.fa 14 (.t 7) 0,.ld 15 false 1 (.t 14),.mv 16 (.t 1),.bin 17 .eql (.t 15) (.t 16)]) (.keep [1,7,8,9,10,17] (.cond (.t 17) (.seq (.reg [.fa 18 (.t 7) 1,.ld 19 false 1 (.t 18),.mv 4 (.t 19),.mv 5 (.c (B true))]) (.keep [4,5] .ret)) .skip)))))) (.keep [1,8,9,10] (.reg [.bin 20 .add (.t 10) (.c (I 1)),.mv 10 (.t 20)]))))))
def Qm:Lp:=⟨[1,8,9,10],[(2,0)],Ke⟩
@[go_sem] theorem qrG:Qm.ls=[1,8,9,10]:=rfl
@[go_sem] theorem qrF:Qm.ks=[(2,0)]:=rfl
@[go_sem] theorem qrE:Qm.body=Ke:=rfl
def QY:AF where
 nargs:=2
 ntmps:=21
 res:=[.tmp 4,.tmp 5]
 body:=(.seq (.reg [.mv 4 (.c (S [])),.mv 5 (.c (B false))]) (.seq (.seq (.reg [.mv 8 (.t 0),.len 9 (.t 8),.mv 10 (.c (I 0))]) (.block 0 (lpC Qm))) (.keep [] (.seq (.reg [.mv 4 (.c (S [])),.mv 5 (.c (B false))]) (.keep [4,5] .ret)))))
def Ki:AC:=(.seq (.reg [.bin 25 .lss (.t 24) (.t 23)]) (.seq (.cond (.t 25) .skip (.keep [0,5,6] (.exit 2))) (.keep [0,5,6,22,23,24] (.seq (.block 3 (.seq (.reg [.ia 26 1 (.t 22) (.t 24),.ld 27 false 1 (.t 26),.mv 8 (.t 27)]) (.reg [.mv 28 (.t 5),.mv 29 (.t 8),.call (some 30) (.c (Fc XP)) [(.t 28),(.t 29)] (.io false),.mv 5 (.t 30)]))) (.keep [0,5,6,22,23,24] (.reg [.bin 31 .add (.t 24) (.c (I 1)),.mv 24 (.t 31)]))))))
def XY:Lp:=⟨[0,5,6,22,23,24],[(2,0)],Ki⟩
@[go_sem] theorem qsd:XY.ls=[0,5,6,22,23,24]:=rfl
@[go_sem] theorem qsc:XY.ks=[(2,0)]:=rfl
@[go_sem] theorem qsb:XY.body=Ki:=rfl
def JN:AC:=(.seq (.seq (.reg [.mv 11 (.t 6),.mv 12 (.t 5),.len 13 (.t 12),.bin 14 .lss (.t 11) (.t 13)]) (.keep [0,5,6,14] (.cond (.t 14) .skip (.keep [5] (.exit 0))))) (.keep [0,5,6] (.seq (.block 1 (.seq (.reg [.mv 17 (.t 0),.mv 18 (.t 5),.mv 19 (.t 6),.ia 20 1 (.t 18) (.t 19),.ld 21 false 1 (.t 20),.call (some 22) (.c (Fc Qi)) [(.t 17),(.t 21)] (.ro false),.len 23 (.t 22),.mv 24 (.c (I 0))]) (.keep [0,5,6,22,23,24] (.block 2 (lpC XY))))) (.keep [0,5,6] (.reg [.mv 15 (.t 6),.bin 16 .add (.t 15) (.c (I 1)),.mv 6 (.t 16)])))))
def XZ:Lp:=⟨[0,5,6],[(2,0)],JN⟩
@[go_sem] theorem qsg:XZ.ls=[0,5,6]:=rfl
@[go_sem] theorem qsf:XZ.ks=[(2,0)]:=rfl
@[go_sem] theorem qse:XZ.body=JN:=rfl
def Z4:AF where
 nargs:=2
 ntmps:=33
 res:=[.tmp 4]
 body:=(.seq (.reg [.mv 4 (.c (.n 1))]) (.seq (.reg [.mv 9 (.t 1),.app 10 1 16 (.c (.n 1)) (.t 9),.mv 5 (.t 10)]) (.seq (.seq (.reg [.mv 6 (.c (I 0))]) (.block 0 (lpC XZ))) (.keep [5] (.seq (.reg [.mv 32 (.t 5),.mv 4 (.t 32)]) (.keep [4] .ret))))))
def Yb:AF where
 nargs:=2
 ntmps:=9
 res:=[.tmp 4]
 body:=(.seq (.reg [.mv 4 (.c (B false))]) (.seq (.reg [.mv 5 (.t 0),.mv 6 (.t 1),.call (some 7) (.c (Fc qbh)) [(.t 5),(.t 6)] (.ro false),.bin 8 .geq (.t 7) (.c (I 0)),.mv 4 (.t 8)]) (.keep [4] .ret)))
def ZV:AF where
 nargs:=2
 ntmps:=11
 res:=[.tmp 3]
 body:=(.seq (.reg [.mv 3 (.c (B false))]) (.seq (.dreg [⟨0,[(1,0),(1,1),(1,2),(1,3)]⟩,⟨0,[(1,0),(1,1),(1,2),(1,3)]⟩,⟨0,[]⟩,⟨2,[(0,0),(0,1),(0,2),(0,3),(1,0),(1,1),(1,2),(1,3),(5,0)]⟩,⟨2,[(0,0),(0,1),(0,2),(0,3),(1,0),(1,1),(1,2),(1,3),(4,0),(5,0),(7,0),(7,1),(7,2),(7,3)]⟩,⟨0,[]⟩,⟨2,[(0,0),(0,1),(0,2),(0,3),(1,0),(1,1),(1,2),(1,3),(4,0),(5,0),(7,0),(7,1),(7,2),(7,3),(8,0),(8,1),(8,2),(8,3)]⟩,⟨0,[]⟩] [.ldq 4 false 1 (.t 1),.ldq 5 false 1 (.t 1),.mv 6 (.t 0),.call (some 7) (.c (Fc Qi)) [(.t 5),(.t 6)] (.ro false),.call (some 8) (.c (Fc JC)) [(.t 4),(.t 7)] (.ro false),.mv 9 (.t 0),.call (some 10) (.c (Fc Yu)) [(.t 8),(.t 9)] (.ro false),.mv 3 (.t 10)]) (.keep [3] .ret)))
def Kf:AC:=(.seq (.seq (.reg [.mv 18 (.t 8),.mv 19 (.t 4),.len 20 (.t 19),.bin 21 .lss (.t 18) (.t 20)]) (.keep [4,6,7,8,21] (.cond (.t 21) .skip (.keep [6,7] (.exit 0))))) (.keep [4,6,7,8] (.block 1 (.seq (.reg [.mv 23 (.t 4),.mv 24 (.t 8),.call (some 25) (.c (Fc Qh)) [(.t 23),(.t 24)] (.ro false),.mv 22 (.t 25),.ext 26 (.t 22) 0,.ext 27 (.t 22) 1,.ext 28 (.t 22) 2,.ext 29 (.t 22) 3,.new 9 (.c (.a [(I 0),(S []),(I 0),(.n 4)])),.st 4 (.t 9) (.t 26),.mv 10 (.t 27),.mv 11 (.t 28),.mv 12 (.t 29)]) (.keep [4,6,7,9,11,12] (.seq (.seq (.reg [.mv 30 (.t 12)]) (.cond (.t 30) (.reg [.mv 31 (.t 6),.ld 32 true 4 (.t 9),.mks 33 4 [(.t 32)],.app 34 4 56 (.t 31) (.t 33),.mv 6 (.t 34)]) (.reg [.mv 35 (.t 7),.bin 36 .add (.t 35) (.c (I 1)),.mv 7 (.t 36)]))) (.keep [4,6,7,11] (.reg [.mv 37 (.t 11),.mv 8 (.t 37)]))))))))
def XU:Lp:=⟨[4,6,7,8],[(1,0)],Kf⟩
@[go_sem] theorem qrP:XU.ls=[4,6,7,8]:=rfl
@[go_sem] theorem qrO:XU.ks=[(1,0)]:=rfl
@[go_sem] theorem qrN:XU.body=Kf:=rfl
def QZ:AF where
 nargs:=1
 ntmps:=40
 res:=[.tmp 2,.tmp 3]
 body:=(.seq (.reg [.mv 2 (.c (.n 4)),.mv 3 (.c (I 0))]) (.seq (.reg [.mv 14 (.t 0),.call (some 15) (.c (Fc qa9)) [(.t 14)] (.ro false),.mv 13 (.t 15),.ext 16 (.t 13) 0,.ext 17 (.t 13) 1,.mv 4 (.t 16),.mv 5 (.t 17)]) (.keep [4] (.seq (.reg [.mv 6 (.c (.n 4))]) (.seq (.reg [.mv 7 (.c (I 0))]) (.seq (.seq (.reg [.mv 8 (.c (I 0))]) (.block 0 (lpC XU))) (.keep [6,7] (.seq (.reg [.mv 38 (.t 6),.mv 39 (.t 7),.mv 2 (.t 38),.mv 3 (.t 39)]) (.keep [2,3] .ret)))))))))
def Z1:AF where
 nargs:=3
 ntmps:=23
 res:=[.tmp 6]
 body:=(.seq (.reg [.new 3 (.t 0),.mv 6 (.c (B false))]) (.seq (.reg [.fa 7 (.t 3) 0,.ld 8 false 1 (.t 7),.bin 9 .eql (.t 8) (.c (I 4)),.mv 10 (.t 9),.gd 10 true (some 11) (.fa 11 (.t 3) 1),.gd 10 true (some 12) (.ld 12 false 1 (.t 11)),.gd 10 true (some 13) (.mv 13 (.t 1)),.gd 10 true (some 14) (.bin 14 .eql (.t 12) (.t 13)),.pick 15 (.t 10) (.t 14) (.c (B false)),.mv 16 (.t 15),.gd 16 true (some 17) (.fa 17 (.t 3) 3),.gd 16 true (some 18) (.ld 18 false 1 (.t 17)),.gd 16 true (some 19) (.len 19 (.t 18)),.gd 16 true (some 20) (.mv 20 (.t 2)),.gd 16 true (some 21) (.bin 21 .eql (.t 19) (.t 20)),.pick 22 (.t 16) (.t 21) (.c (B false)),.mv 6 (.t 22)]) (.keep [6] .ret)))
def jK:AF where
 nargs:=2
 ntmps:=13
 res:=[.tmp 4]
 body:=(.seq (.reg [.mv 4 (.c (.n 1))]) (.seq (.seq (.reg [.mv 5 (.t 0),.mv 6 (.t 1),.call (some 7) (.c (Fc Yu)) [(.t 5),(.t 6)] (.ro true)]) (.cond (.t 7) (.seq (.reg [.mv 8 (.t 0),.mv 4 (.t 8)]) (.keep [4] .ret)) .skip)) (.keep [0,1] (.seq (.reg [.mv 9 (.t 0),.mv 10 (.t 1),.mks 11 1 [(.t 10)],.app 12 1 16 (.t 9) (.t 11),.mv 4 (.t 12)]) (.keep [4] .ret)))))
def Kq:AC:=(.seq (.seq (.reg [.mv 8 (.t 4),.mv 9 (.t 0),.len 10 (.t 9),.bin 11 .lss (.t 8) (.t 10),.mv 12 (.t 11),.gd 12 true (some 13) (.mv 13 (.t 4)),.gd 12 true (some 14) (.bin 14 .lss (.t 13) (.c (I 4000))),.pick 15 (.t 12) (.t 14) (.c (B false))]) (.keep [0,3,4,15] (.cond (.t 15) .skip (.keep [0,3] (.exit 0))))) (.keep [0,3,4] (.seq (.block 1 (.reg [.mv 18 (.t 3),.bin 19 .mul (.t 18) (.c (I 131)),.mv 20 (.t 0),.mv 21 (.t 4),.ia 22 1 (.t 20) (.t 21),.ld 23 false 1 (.t 22),.int 24 .i64 (.t 23),.bin 25 .add (.t 19) (.t 24),.bin 26 .add (.t 25) (.c (I 7)),.bin 27 .and (.t 26) (.c (I 1073741823)),.mv 3 (.t 27)])) (.keep [0,3,4] (.reg [.mv 16 (.t 4),.bin 17 .add (.t 16) (.c (I 1)),.mv 4 (.t 17)])))))
def X8:Lp:=⟨[0,3,4],[(1,0)],Kq⟩
@[go_sem] theorem qsT:X8.ls=[0,3,4]:=rfl
@[go_sem] theorem qsS:X8.ks=[(1,0)]:=rfl
@[go_sem] theorem qsR:X8.body=Kq:=rfl
def Yh:AF where
 nargs:=1
 ntmps:=32
 res:=[.tmp 2]
 body:=(.seq (.reg [.mv 2 (.c (.v (.pointer none)))]) (.seq (.reg [.mv 5 (.t 0),.len 6 (.t 5),.bin 7 .add (.c (I 95101)) (.t 6),.mv 3 (.t 7)]) (.keep [0,3] (.seq (.seq (.reg [.mv 4 (.c (I 0))]) (.block 0 (lpC X8))) (.keep [0,3] (.seq (.reg [.mv 28 (.t 0),.mv 29 (.t 3),.build 30 (.a [(.n 1),(I 0),(I 0)]) [(0,1,(.t 28)),(2,1,(.t 29))],.new 31 (.t 30),.mv 2 (.t 31)]) (.keep [2] .ret)))))))
def Yj:AF where
 nargs:=2
 ntmps:=12
 res:=[.tmp 4]
 body:=(.seq (.reg [.mv 4 (.c (S []))]) (.seq (.reg [.mv 5 (.t 1),.mv 6 (.t 0),.mv 7 (.t 1),.len 8 (.t 7),.call (some 9) (.c (Fc jP)) [(.t 6),(.t 8)] (.io false),.ia 10 1 (.t 5) (.t 9),.ld 11 false 1 (.t 10),.mv 4 (.t 11)]) (.keep [0,4] .ret)))
def Yi:AF where
 nargs:=2
 ntmps:=9
 res:=[.tmp 4]
 body:=(.seq (.reg [.mv 4 (.c (B false))]) (.seq (.reg [.mv 5 (.t 0),.mv 6 (.t 1),.call (some 7) (.c (Fc jP)) [(.t 5),(.t 6)] (.io false),.bin 8 .eql (.t 7) (.c (I 0)),.mv 4 (.t 8)]) (.keep [0,4] .ret)))
def Qg:AF where
 nargs:=1
 ntmps:=32
 res:=[.tmp 2]
 body:=(.seq (.reg [.mv 2 (.c (.n 2))]) (.seq (.reg [.mv 5 (.t 0),.call (some 6) (.c (Fc jP)) [(.t 5),(.c (I 10))] (.io true),.mv 3 (.t 6)]) (.seq (.reg [.mks 7 2 [],.mv 8 (.t 0),.call (some 9) (.c (Fc qbp)) [(.t 8)] (.io false),.app 10 2 32 (.t 7) (.t 9),.mv 4 (.t 10)]) (.keep [0,3,4] (.seq (.seq (.reg [.mv 11 (.t 3)]) (.block 0 (.seq (.reg [.bin 13 .eql (.t 11) (.c (I 0)),.mv 12 (.t 13)]) (.cond (.t 12) (.reg [.mv 14 (.t 4),.mv 15 (.t 0),.mks 16 1 [(.c (S [97])),(.c (S [122,122,122])),(.c (S [65])),(.c (S []))],.call (some 17) (.c (Fc Qk)) [(.t 15),(.t 16)] (.io false),.build 18 (.a [(S []),(S [])]) [(0,1,(.t 17))],.mks 19 2 [(.t 18)],.app 20 2 32 (.t 14) (.t 19),.mv 4 (.t 20)]) (.seq (.reg [.bin 22 .eql (.t 11) (.c (I 1)),.mv 21 (.t 22)]) (.cond (.t 21) (.reg [.mv 23 (.t 4),.mv 24 (.t 0),.call (some 25) (.c (Fc jP)) [(.t 24),(.c (I 2))] (.io false),.bin 26 .add (.c (I 3000)) (.t 25),.call (some 27) (.c (Fc qbk)) [(.t 26),(.c (U8 32))] (.ro false),.build 28 (.a [(S []),(S [])]) [(0,1,(.c (S [122,122,122]))),(1,1,(.t 27))],.mks 29 2 [(.t 28)],.app 30 2 32 (.t 23) (.t 29),.mv 4 (.t 30)]) .skip)))))) (.keep [0,4] (.seq (.reg [.mv 31 (.t 4),.mv 2 (.t 31)]) (.keep [0,2] .ret))))))))
def Kt:AC:=(.seq (.seq (.reg [.mv 8 (.t 5),.mv 9 (.t 4),.len 10 (.t 9),.bin 11 .lss (.t 8) (.t 10)]) (.keep [0,3,4,5,11] (.cond (.t 11) .skip (.keep [0,3] (.exit 0))))) (.keep [0,3,4,5] (.seq (.block 1 (.seq (.reg [.mv 14 (.t 0),.call (some 15) (.c (Fc XS)) [(.t 14),(.c (I 6))] (.io true),.un 16 .not (.t 15)]) (.cond (.t 16) (.dreg [⟨0,[]⟩,⟨0,[]⟩,⟨0,[]⟩,⟨0,[(7,0),(100000,0),(100000,1),(100000,2),(100000,3),(100000,4),(100000,5)]⟩,⟨0,[(7,0),(100000,0),(100000,1),(100000,2),(100000,3),(100000,4),(100000,5)]⟩,⟨0,[]⟩,⟨1,[(0,0)]⟩,⟨2,[(0,0),(0,1),(0,2),(0,3),(6,0),(7,0),(22,0),(24,0),(24,1),(24,2),(24,3),(100000,0),(100000,1),(100000,2),(100000,3),(100000,4),(100000,5)]⟩,⟨0,[]⟩,⟨0,[]⟩,⟨0,[]⟩,⟨0,[]⟩] [.mv 18 (.t 3),.mv 19 (.t 4),.mv 20 (.t 5),.ia 21 1 (.t 19) (.t 20),.ldq 22 false 1 (.t 21),.mv 23 (.t 0),.call (some 24) (.c (Fc qbu)) [(.t 23)] (.io false),.call (some 25) (.c (Fc JH)) [(.t 18),(.t 22),(.t 24)] (.ro false),.mv 17 (.t 25),.ext 26 (.t 17) 0,.ext 27 (.t 17) 1,.mv 3 (.t 26)]) .skip))) (.keep [0,3,4,5] (.reg [.mv 12 (.t 5),.bin 13 .add (.t 12) (.c (I 1)),.mv 5 (.t 13)])))))
def Kb:Lp:=⟨[0,3,4,5],[(1,0)],Kt⟩
@[go_sem] theorem qs5:Kb.ls=[0,3,4,5]:=rfl
@[go_sem] theorem qs4:Kb.ks=[(1,0)]:=rfl
@[go_sem] theorem qs3:Kb.body=Kt:=rfl
def Yn:AF where
 nargs:=1
 ntmps:=29
 res:=[.tmp 2]
 body:=(.seq (.reg [.mv 2 (.c (.n 2))]) (.seq (.reg [.mks 6 2 [],.mv 3 (.t 6)]) (.seq (.reg [.mks 7 1 [(.c (S [111,110,101])),(.c (S [116,119,111])),(.c (S [122,111,111]))],.mv 4 (.t 7)]) (.seq (.seq (.reg [.mv 5 (.c (I 0))]) (.block 0 (lpC Kb))) (.keep [0,3] (.seq (.reg [.mv 28 (.t 3),.mv 2 (.t 28)]) (.keep [0,2] .ret)))))))
def Ko:AC:=(.seq (.reg [.bin 9 .lss (.t 8) (.t 7)]) (.seq (.cond (.t 9) .skip (.keep [] (.exit 0))) (.keep [0,1,7,8] (.seq (.block 1 (.seq (.reg [.mv 10 (.t 8),.mv 5 (.t 10)]) (.seq (.reg [.mv 11 (.t 1),.mv 12 (.t 0),.mv 13 (.t 5),.ia 14 1 (.t 12) (.t 13),.ld 15 false 1 (.t 14),.bin 16 .eql (.t 11) (.t 15)]) (.keep [0,1,5,7,8,16] (.cond (.t 16) (.seq (.reg [.mv 17 (.t 5),.mv 4 (.t 17)]) (.keep [4] .ret)) .skip))))) (.keep [0,1,7,8] (.reg [.bin 18 .add (.t 8) (.c (I 1)),.mv 8 (.t 18)]))))))
def Yx:Lp:=⟨[0,1,7,8],[(2,0)],Ko⟩
@[go_sem] theorem qsE:Yx.ls=[0,1,7,8]:=rfl
@[go_sem] theorem qsD:Yx.ks=[(2,0)]:=rfl
@[go_sem] theorem qsC:Yx.body=Ko:=rfl
def Q9:AF where
 nargs:=2
 ntmps:=19
 res:=[.tmp 4]
 body:=(.seq (.reg [.mv 4 (.c (I 0))]) (.seq (.seq (.reg [.mv 6 (.t 0),.len 7 (.t 6),.mv 8 (.c (I 0))]) (.block 0 (lpC Yx))) (.keep [] (.seq (.reg [.mv 4 (.c (I (-1)))]) (.keep [4] .ret)))))
def Kn:AC:=(.seq (.reg [.bin 9 .lss (.t 8) (.t 7)]) (.seq (.cond (.t 9) .skip (.keep [] (.exit 0))) (.keep [0,1,7,8] (.seq (.block 1 (.seq (.reg [.mv 10 (.t 8),.mv 5 (.t 10)]) (.seq (.reg [.mv 11 (.t 1),.mv 12 (.t 0),.mv 13 (.t 5),.ia 14 1 (.t 12) (.t 13),.ld 15 false 1 (.t 14),.call (some 16) (.t 11) [(.t 15)] (.ro true)]) (.keep [0,1,5,7,8,16] (.cond (.t 16) (.seq (.reg [.mv 17 (.t 5),.mv 4 (.t 17)]) (.keep [4] .ret)) .skip))))) (.keep [0,1,7,8] (.reg [.bin 18 .add (.t 8) (.c (I 1)),.mv 8 (.t 18)]))))))
def Qn:Lp:=⟨[0,1,7,8],[(2,0)],Kn⟩
@[go_sem] theorem qsB:Qn.ls=[0,1,7,8]:=rfl
@[go_sem] theorem qsA:Qn.ks=[(2,0)]:=rfl
@[go_sem] theorem qsz:Qn.body=Kn:=rfl
def Q8:AF where
 nargs:=2
 ntmps:=19
 res:=[.tmp 4]
 body:=(.seq (.reg [.mv 4 (.c (I 0))]) (.seq (.seq (.reg [.mv 6 (.t 0),.len 7 (.t 6),.mv 8 (.c (I 0))]) (.block 0 (lpC Qn))) (.keep [] (.seq (.reg [.mv 4 (.c (I (-1)))]) (.keep [4] .ret)))))
def ji:AC:=(.seq (.seq (.reg [.mv 11 (.t 5),.mv 12 (.t 0),.slen 13 (.t 12),.bin 14 .lss (.t 11) (.t 13)]) (.keep [0,4,5,14] (.cond (.t 14) .skip (.keep [4] (.exit 0))))) (.keep [0,4,5] (.block 1 (.seq (.seq (.reg [.mv 15 (.t 0),.mv 16 (.t 5),.ix 17 (.t 15) (.t 16)]) (.block 2 (.seq (.seq (.reg [.bin 19 .eql (.t 17) (.c (U8 32)),.mv 18 (.t 19)]) (.cond (.t 18) .skip (.seq (.reg [.bin 20 .eql (.t 17) (.c (U8 9)),.mv 18 (.t 20)]) (.cond (.t 18) .skip (.reg [.bin 21 .eql (.t 17) (.c (U8 10)),.mv 18 (.t 21)]))))) (.keep [0,4,5,17,18] (.cond (.t 18) (.seq (.reg [.mv 22 (.t 5),.bin 23 .add (.t 22) (.c (I 1)),.mv 5 (.t 23)]) (.keep [0,4,5] (.exit 1))) (.seq (.reg [.bin 25 .eql (.t 17) (.c (U8 37)),.mv 24 (.t 25)]) (.cond (.t 24) (.seq (.reg [.mv 26 (.t 0),.mv 27 (.t 5),.call (some 28) (.c (Fc Zh)) [(.t 26),(.t 27),(.c (Fc Jx))] (.ro false),.mv 5 (.t 28)]) (.keep [0,4,5] (.exit 1))) .skip))))))) (.keep [0,4,5] (.seq (.reg [.mv 30 (.t 0),.mv 31 (.t 5),.call (some 32) (.c (Fc qbc)) [(.t 30),(.t 31)] (.ro false),.mv 29 (.t 32),.ext 33 (.t 29) 0,.ext 34 (.t 29) 1,.new 6 (.c (.a [(I 0),(S []),(I 0),(I 0),(B false)])),.st 5 (.t 6) (.t 33),.mv 7 (.t 34)]) (.keep [0,4,6,7] (.seq (.reg [.mv 35 (.t 7),.mv 36 (.t 0),.slen 37 (.t 36),.bin 38 .lss (.t 35) (.t 37),.mv 39 (.t 38),.gd 39 true (some 40) (.mv 40 (.t 0)),.gd 39 true (some 41) (.mv 41 (.t 7)),.gd 39 true (some 42) (.ix 42 (.t 40) (.t 41)),.gd 39 true (some 43) (.bin 43 .eql (.t 42) (.c (U8 40))),.pick 44 (.t 39) (.t 43) (.c (B false)),.fa 45 (.t 6) 4,.st 1 (.t 45) (.t 44)]) (.keep [0,4,6,7] (.seq (.reg [.mv 46 (.t 4),.ld 47 true 5 (.t 6),.mks 48 5 [(.t 47)],.app 49 5 48 (.t 46) (.t 48),.mv 4 (.t 49)]) (.keep [0,4,7] (.reg [.mv 50 (.t 7),.mv 5 (.t 50)]))))))))))))
def XV:Lp:=⟨[0,4,5],[(1,0)],ji⟩
@[go_sem] theorem qrV:XV.ls=[0,4,5]:=rfl
@[go_sem] theorem qrU:XV.ks=[(1,0)]:=rfl
@[go_sem] theorem qrT:XV.body=ji:=rfl
def Q0:AF where
 nargs:=1
 ntmps:=52
 res:=[.tmp 2,.tmp 3]
 body:=(.seq (.reg [.mv 2 (.c (.n 5)),.mv 3 (.c (B false))]) (.seq (.seq (.reg [.mv 8 (.t 0),.slen 9 (.t 8),.bin 10 .gtr (.t 9) (.c (I 3000))]) (.cond (.t 10) (.seq (.reg [.mv 2 (.c (.n 5)),.mv 3 (.c (B false))]) (.keep [2,3] .ret)) .skip)) (.keep [0] (.seq (.reg [.mv 4 (.c (.n 5))]) (.seq (.seq (.reg [.mv 5 (.c (I 0))]) (.block 0 (lpC XV))) (.keep [4] (.seq (.reg [.mv 51 (.t 4),.mv 2 (.t 51),.mv 3 (.c (B true))]) (.keep [2,3] .ret))))))))
def Yy:AC:=(.seq (.seq (.reg [.mv 49 (.t 10),.mv 50 (.t 0),.len 51 (.t 50),.bin 52 .lss (.t 49) (.t 51)]) (.keep [0,4,10,52] (.cond (.t 52) .skip (.keep [0,4] (.exit 0))))) (.keep [0,4,10] (.block 1 (.seq (.reg [.mv 53 (.t 10),.bin 54 .add (.t 53) (.c (I 1)),.mv 10 (.t 54)]) (.seq (.reg [.mv 55 (.t 0),.mv 56 (.t 10),.bin 57 .sub (.t 56) (.c (I 1)),.ia 58 5 (.t 55) (.t 57),.fa 59 (.t 58) 0,.ld 60 false 1 (.t 59),.bin 61 .eql (.t 60) (.c (I 5))]) (.keep [0,4,10,61] (.cond (.t 61) (.seq (.reg [.build 62 (.a [(I 0),(S []),(I 0),(.n 4)]) [],.mv 63 (.t 10),.st 4 (.t 4) (.t 62),.mv 5 (.c (.n 1)),.mv 6 (.t 63),.mv 7 (.c (B false))]) (.keep [4,5,6,7] .ret)) .skip)))))))
def Zk:Lp:=⟨[0,4,10],[(2,0)],Yy⟩
@[go_sem] theorem qrS:Zk.ls=[0,4,10]:=rfl
@[go_sem] theorem qrR:Zk.ks=[(2,0)]:=rfl
@[go_sem] theorem qrQ:Zk.body=Yy:=rfl
def xB:AF where
 nargs:=2
 ntmps:=67
 res:=[.cell 4 true 4,.tmp 5,.tmp 6,.tmp 7]
 body:=(.seq (.reg [.new 4 (.c (.a [(I 0),(S []),(I 0),(.n 4)])),.mv 5 (.c (.n 1)),.mv 6 (.c (I 0)),.mv 7 (.c (B false))]) (.keep [0,1,4] (.seq (.seq (.reg [.mv 11 (.t 1),.mv 12 (.t 0),.len 13 (.t 12),.bin 14 .sub (.t 13) (.c (I 1)),.call (some 15) (.c (Fc jf)) [(.t 11),(.c (I 0)),(.t 14)] (.ro true)]) (.keep [0,1,4,15] (.cond (.t 15) (.seq (.reg [.mv 16 (.t 0),.mv 17 (.t 1),.build 18 (.a [(.n 5),(I 0),(.n 1),(I 0),(B false)]) [(0,1,(.t 16)),(1,1,(.t 17))],.new 19 (.t 18),.mv 8 (.t 19)]) (.keep [0,1,4,8] (.nam [0,1,4,8] [(2,0)] (.seq (.reg [.mv 20 (.t 8),.call (some 21) (.c (Fc zY)) [(.t 20),(.c (I 1200))] (.io false),.new 9 (.c (.a [(I 0),(S []),(I 0),(.n 4)])),.st 4 (.t 9) (.t 21)]) (.keep [0,1,4,8,9] (.seq (.reg [.mv 22 (.t 8),.nilc 23 (.t 22),.fa 24 (.t 23) 4,.ld 25 false 1 (.t 24),.un 26 .not (.t 25),.mv 27 (.t 26),.gd 27 true (some 28) (.mv 28 (.t 8)),.gd 27 true (some 29) (.call (some 29) (.c (Fc Zg)) [(.t 28),(.c (I 0))] (.ro true)),.gd 27 true (some 30) (.fld 30 false 1 (.t 29) 0),.gd 27 true (some 31) (.bin 31 .eql (.t 30) (.c (I 5))),.pick 32 (.t 27) (.t 31) (.c (B false)),.mv 33 (.t 32),.gd 33 true (some 34) (.ld 34 true 4 (.t 9)),.gd 33 true (some 35) (.call (some 35) (.c (Fc qba)) [(.t 34)] (.ro true)),.pick 36 (.t 33) (.t 35) (.c (B false))]) (.keep [0,1,4,8,9,36] (.cond (.t 36) (.seq (.opd [(500001,8,none)] (.dreg [⟨0,[(9,0)]⟩,⟨0,[]⟩,⟨0,[]⟩,⟨0,[]⟩,⟨0,[(100000,1)]⟩,⟨0,[]⟩,⟨0,[]⟩,⟨0,[]⟩,⟨0,[(100000,1)]⟩,⟨0,[]⟩,⟨1,[(100000,0)]⟩,⟨0,[]⟩,⟨0,[]⟩,⟨0,[]⟩] [.ldq 37 true 4 (.t 9),.mv 38 (.t 8),.nilc 39 (.t 38),.fa 40 (.t 39) 2,.ldq 41 false 1 (.t 40),.mv 42 (.t 8),.nilc 43 (.t 42),.fa 44 (.t 43) 1,.ldq 45 false 1 (.t 44),.bin 46 .add (.t 45) (.c (I 1)),.st 4 (.t 4) (.t 37),.mv 5 (.t 41),.mv 6 (.t 46),.mv 7 (.c (B true))])) (.keep [4,5,6,7] .ret)) .skip)))))))) .skip))) (.keep [0,1,4] (.seq (.reg [.mv 47 (.t 1),.mx 48 true [(.t 47),(.c (I 0))],.mv 10 (.t 48)]) (.seq (.block 0 (lpC Zk)) (.keep [0,4] (.seq (.reg [.build 64 (.a [(I 0),(S []),(I 0),(.n 4)]) [],.mv 65 (.t 0),.len 66 (.t 65),.st 4 (.t 4) (.t 64),.mv 5 (.c (.n 1)),.mv 6 (.t 66),.mv 7 (.c (B false))]) (.keep [4,5,6,7] .ret)))))))))
def Ye:AF where
 nargs:=2
 ntmps:=37
 res:=[.tmp 4]
 body:=(.seq (.reg [.mv 4 (.c (I 0))]) (.seq (.seq (.reg [.mv 9 (.t 1),.bin 10 .leq (.t 9) (.c (I 0))]) (.cond (.t 10) (.seq (.reg [.mv 4 (.c (I 0))]) (.keep [0,4] .ret)) .skip)) (.keep [0,1] (.seq (.seq (.reg [.mv 11 (.t 1),.bin 12 .leq (.t 11) (.c (I 256))]) (.cond (.t 12) (.seq (.reg [.mv 13 (.t 0),.call (some 14) (.c (Fc Zi)) [(.t 13)] (.io false),.mv 15 (.t 1),.bin 16 .rem (.t 14) (.t 15),.mv 4 (.t 16)]) (.keep [0,4] .ret)) .skip)) (.keep [0,1] (.seq (.reg [.mv 17 (.t 0),.call (some 18) (.c (Fc Zi)) [(.t 17)] (.io false),.mv 5 (.t 18)]) (.seq (.reg [.mv 19 (.t 0),.call (some 20) (.c (Fc Zi)) [(.t 19)] (.io false),.mv 6 (.t 20)]) (.seq (.reg [.mv 21 (.t 0),.call (some 22) (.c (Fc Zi)) [(.t 21)] (.io false),.mv 7 (.t 22)]) (.seq (.reg [.mv 23 (.t 0),.call (some 24) (.c (Fc Zi)) [(.t 23)] (.io false),.mv 8 (.t 24)]) (.seq (.reg [.mv 25 (.t 5),.bin 26 .mul (.t 25) (.c (I 16777216)),.mv 27 (.t 6),.bin 28 .mul (.t 27) (.c (I 65536)),.bin 29 .add (.t 26) (.t 28),.mv 30 (.t 7),.bin 31 .mul (.t 30) (.c (I 256)),.bin 32 .add (.t 29) (.t 31),.mv 33 (.t 8),.bin 34 .add (.t 32) (.t 33),.mv 35 (.t 1),.bin 36 .rem (.t 34) (.t 35),.mv 4 (.t 36)]) (.keep [0,4] .ret)))))))))))
def Kr:AC:=(.seq (.seq (.reg [.mv 8 (.t 5),.mv 9 (.t 4),.len 10 (.t 9),.bin 11 .lss (.t 8) (.t 10)]) (.keep [0,3,4,5,11] (.cond (.t 11) .skip (.keep [0,3] (.exit 0))))) (.keep [0,3,4,5] (.seq (.block 1 (.seq (.reg [.mv 14 (.t 0),.call (some 15) (.c (Fc XS)) [(.t 14),(.c (I 4))] (.io true),.un 16 .not (.t 15)]) (.cond (.t 16) (.dreg [⟨0,[]⟩,⟨0,[]⟩,⟨0,[]⟩,⟨0,[(7,0),(100000,0),(100000,1),(100000,2),(100000,3),(100000,4),(100000,5)]⟩,⟨0,[(7,0),(100000,0),(100000,1),(100000,2),(100000,3),(100000,4),(100000,5)]⟩,⟨0,[]⟩,⟨1,[(0,0)]⟩,⟨2,[(0,0),(0,1),(0,2),(0,3),(6,0),(7,0),(22,0),(24,0),(24,1),(24,2),(24,3),(100000,0),(100000,1),(100000,2),(100000,3),(100000,4),(100000,5)]⟩,⟨0,[]⟩,⟨0,[]⟩,⟨0,[]⟩,⟨0,[]⟩] [.mv 18 (.t 3),.mv 19 (.t 4),.mv 20 (.t 5),.ia 21 1 (.t 19) (.t 20),.ldq 22 false 1 (.t 21),.mv 23 (.t 0),.call (some 24) (.c (Fc qbr)) [(.t 23)] (.io false),.call (some 25) (.c (Fc JH)) [(.t 18),(.t 22),(.t 24)] (.ro false),.mv 17 (.t 25),.ext 26 (.t 17) 0,.ext 27 (.t 17) 1,.mv 3 (.t 26)]) .skip))) (.keep [0,3,4,5] (.reg [.mv 12 (.t 5),.bin 13 .add (.t 12) (.c (I 1)),.mv 5 (.t 13)])))))
def X9:Lp:=⟨[0,3,4,5],[(1,0)],Kr⟩
@[go_sem] theorem qsW:X9.ls=[0,3,4,5]:=rfl
@[go_sem] theorem qsV:X9.ks=[(1,0)]:=rfl
@[go_sem] theorem qsU:X9.body=Kr:=rfl
def Yl:AF where
 nargs:=1
 ntmps:=29
 res:=[.tmp 2]
 body:=(.seq (.reg [.mv 2 (.c (.n 2))]) (.seq (.reg [.mks 6 2 [],.mv 3 (.t 6)]) (.seq (.reg [.mks 7 1 [(.c (S [111,110,101])),(.c (S [116,119,111])),(.c (S [122,111,111]))],.mv 4 (.t 7)]) (.seq (.seq (.reg [.mv 5 (.c (I 0))]) (.block 0 (lpC X9))) (.keep [0,3] (.seq (.reg [.mv 28 (.t 3),.mv 2 (.t 28)]) (.keep [0,2] .ret)))))))
def JP:AC:=(.seq (.seq (.reg [.mv 9 (.t 6),.mv 10 (.t 0),.bin 11 .lss (.t 9) (.t 10)]) (.cond (.t 11) .skip (.keep [5] (.exit 0)))) (.keep [0,1,5,6] (.seq (.block 1 (.reg [.mv 14 (.t 5),.mv 15 (.t 6),.mv 16 (.t 1),.ia 17 1 (.t 14) (.t 15),.st 1 (.t 17) (.t 16)])) (.keep [0,1,5,6] (.reg [.mv 12 (.t 6),.bin 13 .add (.t 12) (.c (I 1)),.mv 6 (.t 13)])))))
def X7:Lp:=⟨[0,1,5,6],[(2,0)],JP⟩
@[go_sem] theorem qsQ:X7.ls=[0,1,5,6]:=rfl
@[go_sem] theorem qsP:X7.ks=[(2,0)]:=rfl
@[go_sem] theorem qsO:X7.body=JP:=rfl
def Yg:AF where
 nargs:=2
 ntmps:=20
 res:=[.tmp 4]
 body:=(.seq (.reg [.mv 4 (.c (S []))]) (.seq (.reg [.mv 7 (.t 0),.mk 8 1 (U8 0) 1 (.t 7) (.t 7),.mv 5 (.t 8)]) (.seq (.seq (.reg [.mv 6 (.c (I 0))]) (.block 0 (lpC X7))) (.keep [5] (.seq (.reg [.mv 18 (.t 5),.str 19 (.t 18),.mv 4 (.t 19)]) (.keep [4] .ret))))))
def Zm:AC:=(.seq (.seq (.reg [.mv 12 (.t 10),.mv 13 (.t 0),.len 14 (.t 13),.bin 15 .lss (.t 12) (.t 14)]) (.keep [0,1,2,8,9,10,15] (.cond (.t 15) .skip (.keep [0,1,2,8,9] (.exit 0))))) (.keep [0,1,2,8,9,10] (.seq (.block 1 (.seq (.seq (.reg [.mv 18 (.t 9),.un 19 .not (.t 18),.mv 20 (.t 19),.gd 20 true (some 21) (.mv 21 (.t 0)),.gd 20 true (some 22) (.mv 22 (.t 10)),.gd 20 true (some 23) (.ia 23 2 (.t 21) (.t 22)),.gd 20 true (some 24) (.fa 24 (.t 23) 0),.gd 20 true (some 25) (.ld 25 false 1 (.t 24)),.gd 20 true (some 26) (.mv 26 (.t 1)),.gd 20 true (some 27) (.bin 27 .geq (.t 25) (.t 26)),.pick 28 (.t 20) (.t 27) (.c (B false))]) (.keep [0,1,2,8,9,10,28] (.cond (.t 28) (.seq (.reg [.mv 29 (.t 8),.mv 30 (.t 1),.mv 31 (.t 2),.build 32 (.a [(S []),(S [])]) [(0,1,(.t 30)),(1,1,(.t 31))],.mks 33 2 [(.t 32)],.app 34 2 32 (.t 29) (.t 33),.mv 8 (.t 34)]) (.keep [0,1,2,8,10] (.seq (.reg [.mv 9 (.c (B true))]) (.seq (.reg [.mv 35 (.t 0),.mv 36 (.t 10),.ia 37 2 (.t 35) (.t 36),.fa 38 (.t 37) 0,.ld 39 false 1 (.t 38),.mv 40 (.t 1),.bin 41 .eql (.t 39) (.t 40)]) (.keep [0,1,2,8,9,10,41] (.cond (.t 41) (.keep [0,1,2,8,9,10] (.exit 1)) .skip)))))) .skip))) (.keep [0,1,2,8,9,10] (.reg [.mv 42 (.t 8),.mv 43 (.t 0),.mv 44 (.t 10),.ia 45 2 (.t 43) (.t 44),.ld 46 true 2 (.t 45),.mks 47 2 [(.t 46)],.app 48 2 32 (.t 42) (.t 47),.mv 8 (.t 48)])))) (.keep [0,1,2,8,9,10] (.reg [.mv 16 (.t 10),.bin 17 .add (.t 16) (.c (I 1)),.mv 10 (.t 17)])))))
def X6:Lp:=⟨[0,1,2,8,9,10],[(3,0)],Zm⟩
@[go_sem] theorem qsN:X6.ls=[0,1,2,8,9,10]:=rfl
@[go_sem] theorem qsM:X6.ks=[(3,0)]:=rfl
@[go_sem] theorem qsL:X6.body=Zm:=rfl
def kN:AF where
 nargs:=3
 ntmps:=69
 res:=[.tmp 6,.tmp 7]
 body:=(.seq (.reg [.mv 6 (.c (.n 2)),.mv 7 (.c (B false))]) (.seq (.reg [.mks 11 2 [],.mv 8 (.t 11)]) (.seq (.reg [.mv 9 (.c (B false))]) (.seq (.seq (.reg [.mv 10 (.c (I 0))]) (.block 0 (lpC X6))) (.keep [0,1,2,8,9] (.seq (.seq (.reg [.mv 49 (.t 9),.un 50 .not (.t 49)]) (.cond (.t 50) (.reg [.mv 51 (.t 8),.mv 52 (.t 1),.mv 53 (.t 2),.build 54 (.a [(S []),(S [])]) [(0,1,(.t 52)),(1,1,(.t 53))],.mks 55 2 [(.t 54)],.app 56 2 32 (.t 51) (.t 55),.mv 8 (.t 56)]) .skip)) (.keep [0,8] (.seq (.seq (.reg [.mv 57 (.t 8),.call (some 58) (.c (Fc JG)) [(.t 57)] (.ro true),.un 59 .not (.t 58),.mv 60 (.t 59),.gd 60 false (some 61) (.mv 61 (.t 0)),.gd 60 false (some 62) (.call (some 62) (.c (Fc JG)) [(.t 61)] (.ro true)),.gd 60 false (some 63) (.un 63 .not (.t 62)),.pick 64 (.t 60) (.c (B true)) (.t 63)]) (.keep [0,8,64] (.cond (.t 64) (.seq (.reg [.mks 65 2 [],.mv 66 (.t 0),.app 67 2 32 (.t 65) (.t 66),.mv 6 (.t 67),.mv 7 (.c (B false))]) (.keep [6,7] .ret)) .skip))) (.keep [8] (.seq (.reg [.mv 68 (.t 8),.mv 6 (.t 68),.mv 7 (.c (B true))]) (.keep [6,7] .ret)))))))))))
def Ku:AC:=(.seq (.seq (.reg [.mv 5 (.t 4),.mv 6 (.t 0),.call (some 7) (.c (Fc jP)) [(.t 6),(.c (I 4))] (.io true),.bin 8 .lss (.t 5) (.t 7)]) (.keep [0,3,4,8] (.cond (.t 8) .skip (.keep [0,3] (.exit 0))))) (.keep [0,3,4] (.seq (.block 1 (.reg [.mv 11 (.t 3),.mv 12 (.t 0),.mks 13 1 [(.c (S [58,45,32,105,110,99,108,117,100,101,40,111,110,101,41,46,10])),(.c (S [58,45,32,105,110,99,108,117,100,101,40,116,119,111,41,46,10])),(.c (S [58,45,32,105,110,99,108,117,100,101,40,122,111,111,41,46,10])),(.c (S [58,45,32,105,110,99,108,117,100,101,40,110,111,110,101,41,46,10])),(.c (S [112,40,97,41,46,10])),(.c (S [112,40,98,41,46,10])),(.c (S [97,32,98,46,10])),(.c (S [58,45,32,105,110,99,108,117,100,101,40,49,41,46,10]))],.call (some 14) (.c (Fc Qk)) [(.t 12),(.t 13)] (.io false),.bin 15 .add (.t 11) (.t 14),.mv 3 (.t 15)])) (.keep [0,3,4] (.reg [.mv 9 (.t 4),.bin 10 .add (.t 9) (.c (I 1)),.mv 4 (.t 10)])))))
def Kc:Lp:=⟨[0,3,4],[(1,0)],Ku⟩
@[go_sem] theorem qs8:Kc.ls=[0,3,4]:=rfl
@[go_sem] theorem qs7:Kc.ks=[(1,0)]:=rfl
@[go_sem] theorem qs6:Kc.body=Ku:=rfl
def Yo:AF where
 nargs:=1
 ntmps:=17
 res:=[.tmp 2]
 body:=(.seq (.reg [.mv 2 (.c (S []))]) (.seq (.reg [.mv 3 (.c (S []))]) (.seq (.seq (.reg [.mv 4 (.c (I 0))]) (.block 0 (lpC Kc))) (.keep [0,3] (.seq (.reg [.mv 16 (.t 3),.mv 2 (.t 16)]) (.keep [0,2] .ret))))))
def Kj:AC:=(.seq (.seq (.reg [.mv 7 (.t 1),.mv 8 (.t 0),.slen 9 (.t 8),.bin 10 .lss (.t 7) (.t 9),.mv 11 (.t 10),.gd 11 true (some 12) (.mv 12 (.t 2)),.gd 11 true (some 13) (.mv 13 (.t 0)),.gd 11 true (some 14) (.mv 14 (.t 1)),.gd 11 true (some 15) (.ix 15 (.t 13) (.t 14)),.gd 11 true (some 16) (.call (some 16) (.t 12) [(.t 15)] (.ro true)),.pick 17 (.t 11) (.t 16) (.c (B false))]) (.keep [0,1,2,17] (.cond (.t 17) .skip (.keep [1] (.exit 0))))) (.keep [0,1,2] (.block 1 (.reg [.mv 18 (.t 1),.bin 19 .add (.t 18) (.c (I 1)),.mv 1 (.t 19)]))))
def X0:Lp:=⟨[0,1,2],[(3,0)],Kj⟩
@[go_sem] theorem qsj:X0.ls=[0,1,2]:=rfl
@[go_sem] theorem qsi:X0.ks=[(3,0)]:=rfl
@[go_sem] theorem qsh:X0.body=Kj:=rfl
def Z5:AF where
 nargs:=3
 ntmps:=21
 res:=[.tmp 6]
 body:=(.seq (.reg [.mv 6 (.c (I 0))]) (.seq (.block 0 (lpC X0)) (.keep [1] (.seq (.reg [.mv 20 (.t 1),.mv 6 (.t 20)]) (.keep [6] .ret)))))
def ZY:AF where
 nargs:=1
 ntmps:=5
 res:=[.tmp 2]
 body:=(.seq (.reg [.mv 2 (.c (B false))]) (.seq (.reg [.mv 3 (.t 0),.bin 4 .neq (.t 3) (.c (U8 10)),.mv 2 (.t 4)]) (.keep [2] .ret)))
def Kg:AC:=(.seq (.seq (.reg [.mv 52 (.t 10),.mv 53 (.t 8),.bin 54 .lss (.t 52) (.t 53),.mv 55 (.t 54),.gd 55 true (some 56) (.mv 56 (.t 9)),.gd 55 true (some 57) (.bin 57 .leq (.t 56) (.c (I 999999999))),.pick 58 (.t 55) (.t 57) (.c (B false))]) (.keep [0,1,4,7,8,9,10,58] (.cond (.t 58) .skip (.keep [0,1,4,7,8,9] (.exit 1))))) (.keep [0,1,4,7,8,9,10] (.seq (.block 2 (.reg [.mv 61 (.t 9),.bin 62 .mul (.c (I 10)) (.t 61),.mv 63 (.t 0),.mv 64 (.t 10),.ix 65 (.t 63) (.t 64),.bin 66 .sub (.t 65) (.c (U8 48)),.int 67 .i64 (.t 66),.bin 68 .add (.t 62) (.t 67),.mv 9 (.t 68)])) (.keep [0,1,4,7,8,9,10] (.reg [.mv 59 (.t 10),.bin 60 .add (.t 59) (.c (I 1)),.mv 10 (.t 60)])))))
def XW:Lp:=⟨[0,1,4,7,8,9,10],[(2,0)],Kg⟩
@[go_sem] theorem qr1:XW.ls=[0,1,4,7,8,9,10]:=rfl
@[go_sem] theorem qr0:XW.ks=[(2,0)]:=rfl
@[go_sem] theorem qrZ:XW.body=Kg:=rfl
def zV:AF where
 nargs:=2
 ntmps:=160
 res:=[.cell 4 true 5,.tmp 5]
 body:=(.seq (.reg [.new 4 (.c (.a [(I 0),(S []),(I 0),(I 0),(B false)])),.mv 5 (.c (I 0))]) (.seq (.reg [.mv 12 (.t 0),.mv 13 (.t 1),.ix 14 (.t 12) (.t 13),.mv 6 (.t 14)]) (.keep [0,1,4,6] (.seq (.reg [.mv 15 (.t 1),.build 16 (.a [(I 0),(S []),(I 0),(I 0),(B false)]) [(3,1,(.t 15))],.new 7 (.c (.a [(I 0),(S []),(I 0),(I 0),(B false)])),.st 5 (.t 7) (.t 16)]) (.keep [0,1,4,6,7] (.seq (.reg [.mv 17 (.t 1),.bin 18 .add (.t 17) (.c (I 1)),.mv 8 (.t 18)]) (.seq (.block 0 (.seq (.reg [.mv 20 (.t 0),.mv 21 (.t 1),.call (some 22) (.c (Fc qbb)) [(.t 20),(.t 21)] (.ro true),.mv 19 (.t 22)]) (.keep [0,1,4,6,7,8,19] (.cond (.t 19) (.seq (.reg [.fa 23 (.t 7) 0,.st 1 (.t 23) (.c (I 5)),.fa 24 (.t 7) 1,.st 1 (.t 24) (.c (S [46]))]) (.keep [4,7,8] (.seq (.reg [.ld 25 true 5 (.t 7),.mv 26 (.t 8),.st 5 (.t 4) (.t 25),.mv 5 (.t 26)]) (.keep [4,5] .ret)))) (.seq (.reg [.mv 28 (.t 6),.call (some 29) (.c (Fc XO)) [(.t 28)] (.ro true),.mv 30 (.t 29),.gd 30 false (some 31) (.mv 31 (.t 6)),.gd 30 false (some 32) (.call (some 32) (.c (Fc JD)) [(.t 31)] (.ro true)),.pick 33 (.t 30) (.c (B true)) (.t 32),.mv 34 (.t 33),.gd 34 false (some 35) (.mv 35 (.t 6)),.gd 34 false (some 36) (.bin 36 .eql (.t 35) (.c (U8 95))),.pick 37 (.t 34) (.c (B true)) (.t 36),.mv 27 (.t 37)]) (.keep [0,1,4,6,7,8,27] (.cond (.t 27) (.seq (.reg [.mv 38 (.t 0),.mv 39 (.t 1),.call (some 40) (.c (Fc Zh)) [(.t 38),(.t 39),(.c (Fc JE))] (.ro false),.mv 8 (.t 40)]) (.keep [0,1,4,6,7,8] (.seq (.reg [.fa 41 (.t 7) 0,.st 1 (.t 41) (.c (I 2))]) (.seq (.reg [.mv 42 (.t 6),.call (some 43) (.c (Fc XO)) [(.t 42)] (.ro true)]) (.cond (.t 43) (.reg [.fa 44 (.t 7) 0,.st 1 (.t 44) (.c (I 1))]) .skip))))) (.seq (.reg [.mv 46 (.t 6),.call (some 47) (.c (Fc Yr)) [(.t 46)] (.ro true),.mv 45 (.t 47)]) (.cond (.t 45) (.seq (.reg [.mv 48 (.t 0),.mv 49 (.t 1),.call (some 50) (.c (Fc Zh)) [(.t 48),(.t 49),(.c (Fc Yr))] (.ro false),.mv 8 (.t 50)]) (.keep [0,1,4,7,8] (.seq (.reg [.mv 9 (.c (I 0))]) (.seq (.seq (.reg [.mv 51 (.t 1),.mv 10 (.t 51)]) (.block 1 (lpC XW))) (.keep [0,1,4,7,8,9] (.seq (.reg [.mv 69 (.t 9),.bin 70 .leq (.t 69) (.c (I 999999999))]) (.cond (.t 70) (.seq (.reg [.mv 71 (.t 9),.fa 72 (.t 7) 0,.st 1 (.t 72) (.c (I 3)),.fa 73 (.t 7) 2,.st 1 (.t 73) (.t 71)]) (.keep [4,7,8] (.seq (.reg [.ld 74 true 5 (.t 7),.mv 75 (.t 8),.st 5 (.t 4) (.t 74),.mv 5 (.t 75)]) (.keep [4,5] .ret)))) .skip))))))) (.seq (.reg [.mv 77 (.t 6),.call (some 78) (.c (Fc Yp)) [(.t 77)] (.ro true),.mv 76 (.t 78)]) (.cond (.t 76) (.seq (.reg [.mv 79 (.t 0),.mv 80 (.t 1),.call (some 81) (.c (Fc Zh)) [(.t 79),(.t 80),(.c (Fc Yp))] (.ro false),.mv 8 (.t 81)]) (.keep [0,1,4,7,8] (.reg [.fa 82 (.t 7) 0,.st 1 (.t 82) (.c (I 1))]))) (.seq (.reg [.mv 84 (.t 6),.bin 85 .eql (.t 84) (.c (U8 33)),.mv 86 (.t 85),.gd 86 false (some 87) (.mv 87 (.t 6)),.gd 86 false (some 88) (.bin 88 .eql (.t 87) (.c (U8 59))),.pick 89 (.t 86) (.c (B true)) (.t 88),.mv 83 (.t 89)]) (.keep [0,1,4,6,7,8,83] (.cond (.t 83) (.reg [.fa 90 (.t 7) 0,.st 1 (.t 90) (.c (I 1))]) (.seq (.reg [.mv 92 (.t 6),.call (some 93) (.c (Fc XT)) [(.c (S [40,41,91,93,44,124])),(.t 92)] (.ro true),.bin 94 .geq (.t 93) (.c (I 0)),.mv 91 (.t 94)]) (.keep [0,1,4,6,7,8,91] (.cond (.t 91) (.reg [.fa 95 (.t 7) 0,.st 1 (.t 95) (.c (I 4))]) (.seq (.reg [.mv 97 (.t 6),.bin 98 .eql (.t 97) (.c (U8 39)),.mv 96 (.t 98)]) (.cond (.t 96) (.seq (.reg [.mv 99 (.t 0),.mv 100 (.t 1),.bin 101 .add (.t 100) (.c (I 1)),.call (some 102) (.c (Fc Zh)) [(.t 99),(.t 101),(.c (Fc JA))] (.ro false),.mv 11 (.t 102)]) (.keep [0,1,4,7,8,11] (.seq (.reg [.mv 103 (.t 11),.mv 104 (.t 0),.slen 105 (.t 104),.bin 106 .lss (.t 103) (.t 105),.mv 107 (.t 106),.gd 107 true (some 108) (.mv 108 (.t 0)),.gd 107 true (some 109) (.mv 109 (.t 11)),.gd 107 true (some 110) (.ix 110 (.t 108) (.t 109)),.gd 107 true (some 111) (.bin 111 .eql (.t 110) (.c (U8 39))),.pick 112 (.t 107) (.t 111) (.c (B false)),.mv 113 (.t 112),.gd 113 true (some 114) (.mv 114 (.t 11)),.gd 113 true (some 115) (.mv 115 (.t 1)),.gd 113 true (some 116) (.bin 116 .sub (.t 114) (.t 115)),.gd 113 true (some 117) (.bin 117 .sub (.t 116) (.c (I 1))),.gd 113 true (some 118) (.call (some 118) (.c (Fc jf)) [(.t 117),(.c (I 1)),(.c (I 20))] (.ro true)),.pick 119 (.t 113) (.t 118) (.c (B false))]) (.keep [0,1,4,7,8,11,119] (.cond (.t 119) (.seq (.dreg [⟨0,[]⟩,⟨0,[]⟩,⟨0,[]⟩,⟨0,[]⟩,⟨0,[]⟩,⟨0,[]⟩,⟨1,[(7,0)]⟩,⟨0,[]⟩,⟨1,[(7,0)]⟩] [.mv 120 (.t 0),.mv 121 (.t 1),.bin 122 .add (.t 121) (.c (I 1)),.mv 123 (.t 11),.ssl 124 (.t 120) (some (.t 122)) (some (.t 123)),.fa 125 (.t 7) 0,.st 1 (.t 125) (.c (I 1)),.fa 126 (.t 7) 1,.st 1 (.t 126) (.t 124)]) (.keep [4,7,11] (.seq (.reg [.ld 127 true 5 (.t 7),.mv 128 (.t 11),.bin 129 .add (.t 128) (.c (I 1)),.st 5 (.t 4) (.t 127),.mv 5 (.t 129)]) (.keep [4,5] .ret)))) .skip))))) .skip))))))))))))))))))) (.keep [0,1,4,7,8] (.seq (.reg [.mv 130 (.t 0),.mv 131 (.t 1),.mv 132 (.t 8),.ssl 133 (.t 130) (some (.t 131)) (some (.t 132)),.fa 134 (.t 7) 1,.st 1 (.t 134) (.t 133)]) (.keep [0,1,4,7,8] (.seq (.seq (.reg [.fa 135 (.t 7) 0,.ld 136 false 1 (.t 135),.bin 137 .eql (.t 136) (.c (I 0)),.mv 138 (.t 137),.gd 138 false (some 139) (.fa 139 (.t 7) 0),.gd 138 false (some 140) (.ld 140 false 1 (.t 139)),.gd 138 false (some 141) (.bin 141 .neq (.t 140) (.c (I 4))),.gd 138 false (some 142) (.mv 142 (.t 141)),.gd 142 true (some 143) (.fa 143 (.t 7) 1),.gd 142 true (some 144) (.ld 144 false 1 (.t 143)),.gd 142 true (some 145) (.slen 145 (.t 144)),.gd 142 true (some 146) (.bin 146 .gtr (.t 145) (.c (I 20))),.gd 138 false (some 147) (.pick 147 (.t 142) (.t 146) (.c (B false))),.pick 148 (.t 138) (.c (B true)) (.t 147)]) (.keep [0,1,4,7,8,148] (.cond (.t 148) (.seq (.dreg [⟨0,[]⟩,⟨0,[]⟩,⟨0,[]⟩,⟨0,[]⟩,⟨0,[]⟩,⟨0,[]⟩,⟨1,[(7,0),(100000,0),(100000,1),(100000,2),(100000,3),(100000,4),(100000,5)]⟩,⟨0,[]⟩,⟨1,[(7,0),(100000,0),(100000,1),(100000,2),(100000,3),(100000,4),(100000,5)]⟩] [.mv 149 (.t 0),.mv 150 (.t 1),.mv 151 (.t 1),.bin 152 .add (.t 151) (.c (I 1)),.ssl 153 (.t 149) (some (.t 150)) (some (.t 152)),.fa 154 (.t 7) 0,.st 1 (.t 154) (.c (I 6)),.fa 155 (.t 7) 1,.st 1 (.t 155) (.t 153)]) (.keep [1,4,7] (.reg [.mv 156 (.t 1),.bin 157 .add (.t 156) (.c (I 1)),.mv 8 (.t 157)]))) .skip))) (.keep [4,7,8] (.seq (.reg [.ld 158 true 5 (.t 7),.mv 159 (.t 8),.st 5 (.t 4) (.t 158),.mv 5 (.t 159)]) (.keep [4,5] .ret))))))))))))))
def Z8:AF where
 nargs:=3
 ntmps:=15
 res:=[.tmp 6]
 body:=(.seq (.reg [.mv 6 (.c (B false))]) (.seq (.reg [.mv 7 (.t 0),.mv 8 (.t 1),.bin 9 .geq (.t 7) (.t 8),.mv 10 (.t 9),.gd 10 true (some 11) (.mv 11 (.t 0)),.gd 10 true (some 12) (.mv 12 (.t 2)),.gd 10 true (some 13) (.bin 13 .leq (.t 11) (.t 12)),.pick 14 (.t 10) (.t 13) (.c (B false)),.mv 6 (.t 14)]) (.keep [6] .ret)))
def ki:AC:=(.seq (.seq (.reg [.mv 38 (.t 0),.nilc 39 (.t 38),.fa 40 (.t 39) 4,.ld 41 false 1 (.t 40),.un 42 .not (.t 41)]) (.keep [0,1,4,5,6,42] (.cond (.t 42) .skip (.keep [0,4,5] (.exit 0))))) (.keep [0,1,4,5,6] (.block 1 (.seq (.reg [.mv 43 (.t 0),.call (some 44) (.c (Fc Zg)) [(.t 43),(.c (I 0))] (.ro false),.new 7 (.c (.a [(I 0),(S []),(I 0),(I 0),(B false)])),.st 5 (.t 7) (.t 44)]) (.keep [0,1,4,5,6,7] (.seq (.reg [.fa 46 (.t 7) 1,.ld 47 false 1 (.t 46),.call (some 48) (.c (Fc Jw)) [(.t 47)] (.ro false),.mv 45 (.t 48),.ext 49 (.t 45) 0,.ext 50 (.t 45) 1,.new 8 (.c (.a [(S []),(I 0),(I 0),(I 0)])),.st 4 (.t 8) (.t 49),.mv 9 (.t 50)]) (.keep [0,1,4,5,6,7,8,9] (.seq (.seq (.reg [.mv 51 (.t 9),.un 52 .not (.t 51),.mv 53 (.t 52),.gd 53 false (some 54) (.fa 54 (.t 7) 0),.gd 53 false (some 55) (.ld 55 false 1 (.t 54)),.gd 53 false (some 56) (.bin 56 .neq (.t 55) (.c (I 4))),.gd 53 false (some 57) (.mv 57 (.t 56)),.gd 57 true (some 58) (.fa 58 (.t 7) 0),.gd 57 true (some 59) (.ld 59 false 1 (.t 58)),.gd 57 true (some 60) (.bin 60 .neq (.t 59) (.c (I 1))),.gd 57 true (some 61) (.mv 61 (.t 60)),.gd 61 false (some 62) (.fa 62 (.t 7) 4),.gd 61 false (some 63) (.ld 63 false 1 (.t 62)),.gd 57 true (some 64) (.pick 64 (.t 61) (.c (B true)) (.t 63)),.gd 53 false (some 65) (.pick 65 (.t 57) (.t 64) (.c (B false))),.pick 66 (.t 53) (.c (B true)) (.t 65),.mv 67 (.t 66),.gd 67 false (some 68) (.fa 68 (.t 8) 1),.gd 67 false (some 69) (.ld 69 false 1 (.t 68)),.gd 67 false (some 70) (.mv 70 (.t 1)),.gd 67 false (some 71) (.bin 71 .gtr (.t 69) (.t 70)),.pick 72 (.t 67) (.c (B true)) (.t 71),.mv 73 (.t 72),.gd 73 false (some 74) (.fa 74 (.t 8) 2),.gd 73 false (some 75) (.ld 75 false 1 (.t 74)),.gd 73 false (some 76) (.mv 76 (.t 6)),.gd 73 false (some 77) (.bin 77 .lss (.t 75) (.t 76)),.pick 78 (.t 73) (.c (B true)) (.t 77)]) (.keep [0,1,4,5,8,78] (.cond (.t 78) (.keep [0,4,5] (.exit 0)) .skip))) (.keep [0,1,4,5,8] (.seq (.reg [.mv 79 (.t 0),.nilc 80 (.t 79),.fa 81 (.t 80) 1,.ld 82 false 1 (.t 81),.bin 83 .add (.t 82) (.c (I 1)),.nilc 84 (.t 79),.fa 85 (.t 84) 1,.st 1 (.t 85) (.t 83)]) (.keep [0,1,4,5,8] (.seq (.dreg [⟨0,[]⟩,⟨0,[(8,0)]⟩,⟨0,[(100000,1)]⟩,⟨0,[]⟩,⟨0,[]⟩,⟨0,[(8,0)]⟩,⟨1,[(0,0),(100000,2),(91,0),(100000,3)]⟩,⟨1,[]⟩,⟨1,[(93,0),(100000,3),(92,0),(92,1),(92,2),(92,3)]⟩,⟨1,[(100000,1)]⟩] [.fa 86 (.t 8) 0,.ldq 87 false 1 (.t 86),.ldq 88 true 4 (.t 5),.mv 89 (.t 0),.fa 90 (.t 8) 3,.ldq 91 false 1 (.t 90),.call (some 92) (.c (Fc zY)) [(.t 89),(.t 91)] (.io false),.mks 93 4 [(.t 88),(.t 92)],.call (some 94) (.c (Fc jO)) [(.t 87),(.t 93)] (.io false),.st 4 (.t 5) (.t 94)]) (.keep [0,1,4,5,8] (.reg [.fa 95 (.t 8) 1,.ld 96 false 1 (.t 95),.mv 6 (.t 96)]))))))))))))))
def jg:Lp:=⟨[0,1,4,5,6],[(2,0)],ki⟩
@[go_sem] theorem qr7:jg.ls=[0,1,4,5,6]:=rfl
@[go_sem] theorem qr6:jg.ks=[(2,0)]:=rfl
@[go_sem] theorem qr5:jg.body=ki:=rfl
def kh:AF where
 nargs:=2
 ntmps:=105
 res:=[.cell 4 true 4]
 body:=(.seq (.reg [.new 4 (.c (.a [(I 0),(S []),(I 0),(.n 4)]))]) (.seq (.seq (.reg [.mv 10 (.t 0),.nilc 11 (.t 10),.fa 12 (.t 11) 3,.ld 13 false 1 (.t 12),.bin 14 .eql (.t 13) (.c (I 130)),.mv 15 (.t 14),.gd 15 false (some 16) (.mv 16 (.t 0)),.gd 15 false (some 17) (.nilc 17 (.t 16)),.gd 15 false (some 18) (.fa 18 (.t 17) 4),.gd 15 false (some 19) (.ld 19 false 1 (.t 18)),.pick 20 (.t 15) (.c (B true)) (.t 19)]) (.keep [0,1,4,20] (.cond (.t 20) (.seq (.reg [.mv 21 (.t 0),.nilc 22 (.t 21),.fa 23 (.t 22) 4,.st 1 (.t 23) (.c (B true))]) (.keep [0,4] (.seq (.reg [.build 24 (.a [(I 0),(S []),(I 0),(.n 4)]) [],.st 4 (.t 4) (.t 24)]) (.keep [0,4] .ret)))) .skip))) (.keep [0,1,4] (.seq (.reg [.mv 25 (.t 0),.nilc 26 (.t 25),.fa 27 (.t 26) 3,.ld 28 false 1 (.t 27),.bin 29 .add (.t 28) (.c (I 1)),.nilc 30 (.t 25),.fa 31 (.t 30) 3,.st 1 (.t 31) (.t 29)]) (.keep [0,1,4] (.seq (.reg [.mv 33 (.t 0),.mv 34 (.t 1),.call (some 35) (.c (Fc yW)) [(.t 33),(.t 34)] (.io false),.mv 32 (.t 35),.ext 36 (.t 32) 0,.ext 37 (.t 32) 1,.new 5 (.c (.a [(I 0),(S []),(I 0),(.n 4)])),.st 4 (.t 5) (.t 36),.mv 6 (.t 37)]) (.keep [0,1,4,5,6] (.seq (.block 0 (lpC jg)) (.keep [0,4,5] (.seq (.reg [.mv 97 (.t 0),.nilc 98 (.t 97),.fa 99 (.t 98) 3,.ld 100 false 1 (.t 99),.bin 101 .sub (.t 100) (.c (I 1)),.nilc 102 (.t 97),.fa 103 (.t 102) 3,.st 1 (.t 103) (.t 101)]) (.keep [0,4,5] (.seq (.reg [.ld 104 true 4 (.t 5),.st 4 (.t 4) (.t 104)]) (.keep [0,4] .ret)))))))))))))
def Q6:AF where
 nargs:=2
 ntmps:=30
 res:=[.cell 4 true 5]
 body:=(.seq (.reg [.new 4 (.c (.a [(I 0),(S []),(I 0),(I 0),(B false)]))]) (.seq (.seq (.dreg [⟨0,[]⟩,⟨0,[]⟩,⟨0,[]⟩,⟨0,[(0,0),(0,1),(0,2),(0,3)]⟩,⟨0,[]⟩,⟨0,[]⟩,⟨0,[]⟩,⟨0,[]⟩,⟨0,[]⟩,⟨0,[(0,0),(0,1),(0,2),(0,3)]⟩,⟨0,[(0,0),(0,1),(0,2),(0,3),(14,0)]⟩,⟨0,[]⟩] [.mv 5 (.t 0),.nilc 6 (.t 5),.fa 7 (.t 6) 1,.ldq 8 false 1 (.t 7),.mv 9 (.t 1),.bin 10 .add (.t 8) (.t 9),.mv 11 (.t 0),.nilc 12 (.t 11),.fa 13 (.t 12) 0,.ldq 14 false 1 (.t 13),.len 15 (.t 14),.bin 16 .geq (.t 10) (.t 15)]) (.keep [0,1,4,16] (.cond (.t 16) (.seq (.reg [.build 17 (.a [(I 0),(S []),(I 0),(I 0),(B false)]) [],.st 5 (.t 4) (.t 17)]) (.keep [4] .ret)) .skip))) (.keep [0,1,4] (.seq (.dreg [⟨0,[]⟩,⟨0,[]⟩,⟨0,[]⟩,⟨0,[(0,0),(0,1),(0,2),(0,3)]⟩,⟨0,[]⟩,⟨0,[]⟩,⟨0,[]⟩,⟨0,[(0,0),(0,1),(0,2),(0,3)]⟩,⟨0,[]⟩,⟨0,[]⟩,⟨0,[(0,0),(0,1),(0,2),(0,3),(1,0),(1,1),(1,2),(1,3),(21,0),(25,0)]⟩,⟨0,[(0,0),(0,1),(0,2),(0,3),(1,0),(1,1),(1,2),(1,3),(21,0),(25,0)]⟩,⟨1,[(4,0)]⟩] [.mv 18 (.t 0),.nilc 19 (.t 18),.fa 20 (.t 19) 0,.ldq 21 false 1 (.t 20),.mv 22 (.t 0),.nilc 23 (.t 22),.fa 24 (.t 23) 1,.ldq 25 false 1 (.t 24),.mv 26 (.t 1),.bin 27 .add (.t 25) (.t 26),.ia 28 5 (.t 21) (.t 27),.ldq 29 true 5 (.t 28),.st 5 (.t 4) (.t 29)]) (.keep [4] .ret)))))
def Q1:AF where
 nargs:=1
 ntmps:=6
 res:=[.tmp 2]
 body:=(.seq (.reg [.new 1 (.t 0),.mv 2 (.c (B false))]) (.seq (.reg [.ld 3 true 4 (.t 1),.call (some 4) (.c (Fc XQ)) [(.t 3),(.c (I 1))] (.ro false),.bin 5 .leq (.t 4) (.c (I 400)),.mv 2 (.t 5)]) (.keep [2] .ret)))
def Zc:AF where
 nargs:=1
 ntmps:=58
 res:=[.tmp 2]
 body:=(.seq (.reg [.mv 2 (.c (I 0))]) (.seq (.reg [.mv 4 (.t 0),.mv 5 (.t 0),.nilc 6 (.t 5),.fa 7 (.t 6) 2,.ld 8 false 1 (.t 7),.bin 9 .mul (.t 8) (.c (I 6364136223846793005)),.bin 10 .add (.t 9) (.c (I 1442695040888963407)),.nilc 11 (.t 4),.fa 12 (.t 11) 2,.st 1 (.t 12) (.t 10)]) (.keep [0] (.seq (.dreg [⟨0,[]⟩,⟨0,[]⟩,⟨0,[]⟩,⟨0,[(0,0),(0,1),(0,2),(0,3),(8,0),(53,0)]⟩,⟨0,[]⟩,⟨0,[]⟩,⟨0,[]⟩,⟨0,[]⟩,⟨0,[(0,0),(0,1),(0,2),(0,3),(8,0),(53,0)]⟩,⟨0,[]⟩,⟨0,[]⟩,⟨0,[]⟩,⟨0,[]⟩] [.mv 13 (.t 0),.nilc 14 (.t 13),.fa 15 (.t 14) 2,.ldq 16 false 1 (.t 15),.bin 17 .shr (.t 16) (.c (.v (.int .u64 33))),.mv 18 (.t 0),.nilc 19 (.t 18),.fa 20 (.t 19) 2,.ldq 21 false 1 (.t 20),.bin 22 .shr (.t 21) (.c (.v (.int .u64 45))),.bin 23 .xor (.t 17) (.t 22),.bin 24 .and (.t 23) (.c (I 255)),.mv 3 (.t 24)]) (.keep [0,3] (.seq (.seq (.dreg [⟨0,[]⟩,⟨0,[]⟩,⟨0,[]⟩,⟨0,[(0,0),(0,1),(0,2),(0,3),(8,0),(53,0)]⟩,⟨0,[]⟩,⟨0,[]⟩,⟨0,[]⟩,⟨0,[(0,0),(0,1),(0,2),(0,3),(8,0),(53,0)]⟩,⟨0,[(0,0),(0,1),(0,2),(0,3),(8,0),(32,0),(53,0)]⟩,⟨0,[]⟩] [.mv 25 (.t 0),.nilc 26 (.t 25),.fa 27 (.t 26) 1,.ldq 28 false 1 (.t 27),.mv 29 (.t 0),.nilc 30 (.t 29),.fa 31 (.t 30) 0,.ldq 32 false 1 (.t 31),.len 33 (.t 32),.bin 34 .lss (.t 28) (.t 33)]) (.keep [0,3,34] (.cond (.t 34) (.seq (.dreg [⟨0,[]⟩,⟨0,[]⟩,⟨0,[]⟩,⟨0,[]⟩,⟨0,[(0,0),(0,1),(0,2),(0,3),(8,0),(53,0)]⟩,⟨0,[]⟩,⟨0,[]⟩,⟨0,[]⟩,⟨0,[(0,0),(0,1),(0,2),(0,3),(8,0),(53,0)]⟩,⟨0,[(0,0),(0,1),(0,2),(0,3),(8,0),(39,0),(43,0),(53,0)]⟩,⟨0,[(0,0),(0,1),(0,2),(0,3),(8,0),(39,0),(43,0),(53,0)]⟩,⟨0,[]⟩,⟨0,[]⟩,⟨0,[]⟩,⟨0,[]⟩] [.mv 35 (.t 3),.mv 36 (.t 0),.nilc 37 (.t 36),.fa 38 (.t 37) 0,.ldq 39 false 1 (.t 38),.mv 40 (.t 0),.nilc 41 (.t 40),.fa 42 (.t 41) 1,.ldq 43 false 1 (.t 42),.ia 44 1 (.t 39) (.t 43),.ldq 45 false 1 (.t 44),.int 46 .i64 (.t 45),.bin 47 .add (.t 35) (.t 46),.bin 48 .and (.t 47) (.c (I 255)),.mv 3 (.t 48)]) (.keep [0,3] (.reg [.mv 49 (.t 0),.mv 50 (.t 0),.nilc 51 (.t 50),.fa 52 (.t 51) 1,.ld 53 false 1 (.t 52),.bin 54 .add (.t 53) (.c (I 1)),.nilc 55 (.t 49),.fa 56 (.t 55) 1,.st 1 (.t 56) (.t 54)]))) .skip))) (.keep [0,3] (.seq (.reg [.mv 57 (.t 3),.mv 2 (.t 57)]) (.keep [0,2] .ret)))))))))
def kj:AC:=(.seq (.seq (.reg [.mv 7 (.t 5),.mv 8 (.t 0),.call (some 9) (.c (Fc jP)) [(.t 8),(.c (I 6))] (.io true),.bin 10 .lss (.t 7) (.t 9)]) (.keep [0,3,4,5,10] (.cond (.t 10) .skip (.keep [0,3] (.exit 0))))) (.keep [0,3,4,5] (.seq (.block 1 (.seq (.reg [.mv 13 (.t 0),.call (some 14) (.c (Fc jP)) [(.t 13),(.c (I 12))] (.io true)]) (.block 2 (.seq (.reg [.bin 22 .eql (.t 14) (.c (I 0)),.mv 21 (.t 22)]) (.cond (.t 21) (.reg [.mv 23 (.t 3),.bin 24 .add (.t 23) (.c (S [58,45,32,105,110,99,108,117,100,101,40,116,119,111,41,46,10])),.mv 3 (.t 24)]) (.seq (.reg [.bin 26 .eql (.t 14) (.c (I 1)),.mv 25 (.t 26)]) (.cond (.t 25) (.reg [.mv 27 (.t 3),.bin 28 .add (.t 27) (.c (S [58,45,32,105,102,40,112,40,97,41,41,46,10])),.mv 29 (.t 0),.mv 30 (.t 4),.call (some 31) (.c (Fc Qk)) [(.t 29),(.t 30)] (.io false),.bin 32 .add (.t 28) (.t 31),.bin 33 .add (.t 32) (.c (S [46,10,58,45,32,101,108,115,101,46,10,122,40,49,41,46,10,58,45,32,101,110,100,105,102,46,10])),.mv 3 (.t 33)]) (.seq (.reg [.bin 35 .eql (.t 14) (.c (I 2)),.mv 34 (.t 35)]) (.cond (.t 34) (.reg [.mv 36 (.t 3),.bin 37 .add (.t 36) (.c (S [58,45,32,111,112,101,110,40,47,40,111,44,32,49,41,41,46,10])),.mv 3 (.t 37)]) (.seq (.reg [.bin 39 .eql (.t 14) (.c (I 3)),.mv 38 (.t 39)]) (.cond (.t 38) (.reg [.mv 40 (.t 3),.bin 41 .add (.t 40) (.c (S [115,32,45,45,62,32,91,97,93,44,32,115,46,10,115,32,45,45,62,32,91,93,46,10])),.mv 3 (.t 41)]) (.seq (.reg [.bin 43 .eql (.t 14) (.c (I 4)),.mv 42 (.t 43)]) (.cond (.t 42) (.reg [.mv 44 (.t 3),.bin 45 .add (.t 44) (.c (S [101,120,112,97,110,100,40,111,108,100,40,88,41,44,32,112,40,88,41,41,46,10,111,108,100,40,107,41,46,10])),.mv 3 (.t 45)]) (.seq (.reg [.bin 47 .eql (.t 14) (.c (I 5)),.mv 46 (.t 47)]) (.cond (.t 46) (.reg [.mv 48 (.t 3),.bin 49 .add (.t 48) (.c (S [58,45,32,119,114,105,116,101,40,120,41,46,10,58,45,32,102,97,105,108,46,10])),.mv 3 (.t 49)]) (.seq (.reg [.bin 51 .eql (.t 14) (.c (I 6)),.mv 50 (.t 51)]) (.cond (.t 50) (.reg [.mv 52 (.t 3),.mv 53 (.t 0),.mks 54 1 [(.c (S [97,32,98,46,10])),(.c (S [58,45,32,101,108,115,101,46,10])),(.c (S [58,45,32,105,102,40,116,114,117,101,41,46,10])),(.c (S [58,45,32,101,110,100,105,102,46,10])),(.c (S [88,46,10])),(.c (S [116,114,117,101,46,10])),(.c (S [58,45,32,97,115,115,101,114,116,122,40,112,40,110,41,41,46,10])),(.c (S [58,45,32,105,110,99,108,117,100,101,40,110,111,110,101,41,46,10]))],.call (some 55) (.c (Fc Qk)) [(.t 53),(.t 54)] (.io false),.bin 56 .add (.t 52) (.t 55),.mv 3 (.t 56)]) (.reg [.mv 15 (.t 3),.mv 16 (.t 0),.mv 17 (.t 4),.call (some 18) (.c (Fc Qk)) [(.t 16),(.t 17)] (.io false),.bin 19 .add (.t 15) (.t 18),.bin 20 .add (.t 19) (.c (S [46,10])),.mv 3 (.t 20)])))))))))))))))))) (.keep [0,3,4,5] (.reg [.mv 11 (.t 5),.bin 12 .add (.t 11) (.c (I 1)),.mv 5 (.t 12)])))))
def Qp:Lp:=⟨[0,3,4,5],[(1,0)],kj⟩
@[go_sem] theorem qs2:Qp.ls=[0,3,4,5]:=rfl
@[go_sem] theorem qs1:Qp.ks=[(1,0)]:=rfl
@[go_sem] theorem qs0:Qp.body=kj:=rfl
def Ym:AF where
 nargs:=1
 ntmps:=58
 res:=[.tmp 2]
 body:=(.seq (.reg [.mv 2 (.c (S []))]) (.seq (.reg [.mv 3 (.c (S []))]) (.seq (.reg [.call (some 6) (.c (Fc qbn)) [] (.ro false),.mv 4 (.t 6)]) (.seq (.seq (.reg [.mv 5 (.c (I 0))]) (.block 0 (lpC Qp))) (.keep [0,3] (.seq (.reg [.mv 57 (.t 3),.mv 2 (.t 57)]) (.keep [0,2] .ret)))))))
def Qr:AC:=(.seq (.seq (.reg [.mv 4 (.t 3),.mv 5 (.t 0),.len 6 (.t 5),.bin 7 .lss (.t 4) (.t 6)]) (.keep [0,3,7] (.cond (.t 7) .skip (.keep [0] (.exit 0))))) (.keep [0,3] (.seq (.block 1 (.seq (.dreg [⟨0,[]⟩,⟨0,[]⟩,⟨0,[(0,0),(0,1),(0,2),(0,3),(100000,0),(100000,1),(100000,2),(100000,3),(100000,4),(100000,5)]⟩,⟨0,[]⟩,⟨0,[(0,0),(0,1),(0,2),(0,3),(100000,0),(100000,1),(100000,2),(100000,3),(100000,4),(100000,5)]⟩,⟨2,[(0,0),(0,1),(0,2),(0,3),(14,0),(100000,0),(100000,1),(100000,2),(100000,3),(100000,4),(100000,5)]⟩,⟨0,[]⟩,⟨0,[]⟩,⟨0,[]⟩,⟨0,[]⟩,⟨0,[(0,0),(0,1),(0,2),(0,3),(100000,0),(100000,1),(100000,2),(100000,3),(100000,4),(100000,5)]⟩,⟨0,[]⟩,⟨0,[(0,0),(0,1),(0,2),(0,3),(100000,0),(100000,1),(100000,2),(100000,3),(100000,4),(100000,5)]⟩,⟨0,[]⟩,⟨0,[]⟩,⟨0,[]⟩,⟨0,[]⟩,⟨0,[]⟩,⟨0,[]⟩,⟨0,[]⟩,⟨0,[]⟩,⟨0,[]⟩,⟨0,[]⟩,⟨0,[(0,0),(0,1),(0,2),(0,3),(100000,0),(100000,1),(100000,2),(100000,3),(100000,4),(100000,5)]⟩,⟨0,[]⟩,⟨0,[(0,0),(0,1),(0,2),(0,3),(100000,0),(100000,1),(100000,2),(100000,3),(100000,4),(100000,5)]⟩,⟨0,[]⟩,⟨0,[]⟩,⟨0,[(0,0),(0,1),(0,2),(0,3),(100000,0),(100000,1),(100000,2),(100000,3),(100000,4),(100000,5)]⟩,⟨0,[]⟩,⟨0,[(0,0),(0,1),(0,2),(0,3),(100000,0),(100000,1),(100000,2),(100000,3),(100000,4),(100000,5)]⟩,⟨0,[]⟩,⟨0,[]⟩,⟨0,[]⟩] [.mv 10 (.t 0),.mv 11 (.t 3),.ia 12 2 (.t 10) (.t 11),.fa 13 (.t 12) 0,.ldq 14 false 1 (.t 13),.call (some 15) (.c (Fc qbq)) [(.t 14)] (.ro true),.un 16 .not (.t 15),.mv 17 (.t 16),.gd 17 false (some 18) (.mv 18 (.t 0)),.gd 17 false (some 19) (.mv 19 (.t 3)),.gd 17 false (some 20) (.ia 20 2 (.t 18) (.t 19)),.gd 17 false (some 21) (.fa 21 (.t 20) 1),.gd 17 false (some 22) (.ldq 22 false 1 (.t 21)),.gd 17 false (some 23) (.slen 23 (.t 22)),.gd 17 false (some 24) (.bin 24 .gtr (.t 23) (.c (I 3000))),.pick 25 (.t 17) (.c (B true)) (.t 24),.mv 26 (.t 25),.gd 26 false (some 27) (.mv 27 (.t 3)),.gd 26 false (some 28) (.bin 28 .gtr (.t 27) (.c (I 0))),.gd 26 false (some 29) (.mv 29 (.t 28)),.gd 29 true (some 30) (.mv 30 (.t 0)),.gd 29 true (some 31) (.mv 31 (.t 3)),.gd 29 true (some 32) (.bin 32 .sub (.t 31) (.c (I 1))),.gd 29 true (some 33) (.ia 33 2 (.t 30) (.t 32)),.gd 29 true (some 34) (.fa 34 (.t 33) 0),.gd 29 true (some 35) (.ldq 35 false 1 (.t 34)),.gd 29 true (some 36) (.mv 36 (.t 0)),.gd 29 true (some 37) (.mv 37 (.t 3)),.gd 29 true (some 38) (.ia 38 2 (.t 36) (.t 37)),.gd 29 true (some 39) (.fa 39 (.t 38) 0),.gd 29 true (some 40) (.ldq 40 false 1 (.t 39)),.gd 29 true (some 41) (.bin 41 .geq (.t 35) (.t 40)),.gd 26 false (some 42) (.pick 42 (.t 29) (.t 41) (.c (B false))),.pick 43 (.t 26) (.c (B true)) (.t 42)]) (.keep [0,3,43] (.cond (.t 43) (.seq (.reg [.mv 2 (.c (B false))]) (.keep [2] .ret)) .skip)))) (.keep [0,3] (.reg [.mv 8 (.t 3),.bin 9 .add (.t 8) (.c (I 1)),.mv 3 (.t 9)])))))
def X5:Lp:=⟨[0,3],[(1,0)],Qr⟩
@[go_sem] theorem qsK:X5.ls=[0,3]:=rfl
@[go_sem] theorem qsJ:X5.ks=[(1,0)]:=rfl
@[go_sem] theorem qsI:X5.body=Qr:=rfl
def Zb:AF where
 nargs:=1
 ntmps:=47
 res:=[.tmp 2]
 body:=(.seq (.reg [.mv 2 (.c (B false))]) (.seq (.seq (.reg [.mv 3 (.c (I 0))]) (.block 0 (lpC X5))) (.keep [0] (.seq (.reg [.mv 44 (.t 0),.len 45 (.t 44),.bin 46 .leq (.t 45) (.c (I 6)),.mv 2 (.t 46)]) (.keep [2] .ret)))))
def kM:AF where
 nargs:=2
 ntmps:=33
 res:=[.tmp 4]
 body:=(.seq (.reg [.mv 4 (.c (B false))]) (.seq (.seq (.reg [.mv 5 (.t 0),.mv 6 (.t 1),.ix 7 (.t 5) (.t 6),.bin 8 .neq (.t 7) (.c (U8 46)),.mv 9 (.t 8),.gd 9 false (some 10) (.mv 10 (.t 1)),.gd 9 false (some 11) (.bin 11 .gtr (.t 10) (.c (I 0))),.gd 9 false (some 12) (.mv 12 (.t 11)),.gd 12 true (some 13) (.mv 13 (.t 0)),.gd 12 true (some 14) (.mv 14 (.t 1)),.gd 12 true (some 15) (.bin 15 .sub (.t 14) (.c (I 1))),.gd 12 true (some 16) (.ix 16 (.t 13) (.t 15)),.gd 12 true (some 17) (.call (some 17) (.c (Fc Yp)) [(.t 16)] (.ro true)),.gd 9 false (some 18) (.pick 18 (.t 12) (.t 17) (.c (B false))),.pick 19 (.t 9) (.c (B true)) (.t 18)]) (.keep [0,1,19] (.cond (.t 19) (.seq (.reg [.mv 4 (.c (B false))]) (.keep [4] .ret)) .skip))) (.keep [0,1] (.seq (.reg [.mv 20 (.t 1),.bin 21 .add (.t 20) (.c (I 1)),.mv 22 (.t 0),.slen 23 (.t 22),.bin 24 .eql (.t 21) (.t 23),.mv 25 (.t 24),.gd 25 false (some 26) (.mv 26 (.t 0)),.gd 25 false (some 27) (.mv 27 (.t 1)),.gd 25 false (some 28) (.bin 28 .add (.t 27) (.c (I 1))),.gd 25 false (some 29) (.ix 29 (.t 26) (.t 28)),.gd 25 false (some 30) (.call (some 30) (.c (Fc XT)) [(.c (S [32,9,10,37])),(.t 29)] (.ro false)),.gd 25 false (some 31) (.bin 31 .geq (.t 30) (.c (I 0))),.pick 32 (.t 25) (.c (B true)) (.t 31),.mv 4 (.t 32)]) (.keep [4] .ret)))))
def Qb:AF where
 nargs:=1
 ntmps:=9
 res:=[.tmp 2]
 body:=(.seq (.reg [.mv 2 (.c (B false))]) (.seq (.reg [.mv 3 (.t 0),.bin 4 .geq (.t 3) (.c (U8 97)),.mv 5 (.t 4),.gd 5 true (some 6) (.mv 6 (.t 0)),.gd 5 true (some 7) (.bin 7 .leq (.t 6) (.c (U8 122))),.pick 8 (.t 5) (.t 7) (.c (B false)),.mv 2 (.t 8)]) (.keep [2] .ret)))
def Qe:AF where
 nargs:=1
 ntmps:=9
 res:=[.tmp 2]
 body:=(.seq (.reg [.mv 2 (.c (B false))]) (.seq (.reg [.mv 3 (.t 0),.bin 4 .geq (.t 3) (.c (U8 65)),.mv 5 (.t 4),.gd 5 true (some 6) (.mv 6 (.t 0)),.gd 5 true (some 7) (.bin 7 .leq (.t 6) (.c (U8 90))),.pick 8 (.t 5) (.t 7) (.c (B false)),.mv 2 (.t 8)]) (.keep [2] .ret)))
def Z9:AF where
 nargs:=1
 ntmps:=17
 res:=[.tmp 2]
 body:=(.seq (.reg [.mv 2 (.c (B false))]) (.seq (.reg [.mv 3 (.t 0),.call (some 4) (.c (Fc XO)) [(.t 3)] (.ro false),.mv 5 (.t 4),.gd 5 false (some 6) (.mv 6 (.t 0)),.gd 5 false (some 7) (.call (some 7) (.c (Fc JD)) [(.t 6)] (.ro false)),.pick 8 (.t 5) (.c (B true)) (.t 7),.mv 9 (.t 8),.gd 9 false (some 10) (.mv 10 (.t 0)),.gd 9 false (some 11) (.call (some 11) (.c (Fc Yr)) [(.t 10)] (.ro false)),.pick 12 (.t 9) (.c (B true)) (.t 11),.mv 13 (.t 12),.gd 13 false (some 14) (.mv 14 (.t 0)),.gd 13 false (some 15) (.bin 15 .eql (.t 14) (.c (U8 95))),.pick 16 (.t 13) (.c (B true)) (.t 15),.mv 2 (.t 16)]) (.keep [2] .ret)))
def Qa:AF where
 nargs:=1
 ntmps:=9
 res:=[.tmp 2]
 body:=(.seq (.reg [.mv 2 (.c (B false))]) (.seq (.reg [.mv 3 (.t 0),.bin 4 .geq (.t 3) (.c (U8 48)),.mv 5 (.t 4),.gd 5 true (some 6) (.mv 6 (.t 0)),.gd 5 true (some 7) (.bin 7 .leq (.t 6) (.c (U8 57))),.pick 8 (.t 5) (.t 7) (.c (B false)),.mv 2 (.t 8)]) (.keep [2] .ret)))
def ZZ:AF where
 nargs:=1
 ntmps:=6
 res:=[.tmp 2]
 body:=(.seq (.reg [.mv 2 (.c (B false))]) (.seq (.reg [.mv 3 (.t 0),.call (some 4) (.c (Fc XT)) [(.c (S [43,45,42,47,92,94,60,62,61,126,58,46,63,64,35,38,36])),(.t 3)] (.ro false),.bin 5 .geq (.t 4) (.c (I 0)),.mv 2 (.t 5)]) (.keep [2] .ret)))
def jd:AF where
 nargs:=1
 ntmps:=14
 res:=[.tmp 2]
 body:=(.seq (.reg [.mv 2 (.c (B false))]) (.seq (.reg [.mv 3 (.t 0),.int 4 .i64 (.t 3),.call (some 5) (.c (Fc jf)) [(.t 4),(.c (I 33)),(.c (I 126))] (.ro false),.mv 6 (.t 5),.gd 6 true (some 7) (.mv 7 (.t 0)),.gd 6 true (some 8) (.bin 8 .neq (.t 7) (.c (U8 39))),.pick 9 (.t 6) (.t 8) (.c (B false)),.mv 10 (.t 9),.gd 10 true (some 11) (.mv 11 (.t 0)),.gd 10 true (some 12) (.bin 12 .neq (.t 11) (.c (U8 34))),.pick 13 (.t 10) (.t 12) (.c (B false)),.mv 2 (.t 13)]) (.keep [2] .ret)))
def zI:AF where
 nargs:=2
 ntmps:=221
 res:=[.cell 4 true 4,.tmp 5]
 body:=(.seq (.reg [.new 4 (.c (.a [(I 0),(S []),(I 0),(.n 4)])),.mv 5 (.c (I 0))]) (.seq (.reg [.mv 14 (.t 0),.call (some 15) (.c (Fc Zg)) [(.t 14),(.c (I 0))] (.ro false),.new 6 (.c (.a [(I 0),(S []),(I 0),(I 0),(B false)])),.st 5 (.t 6) (.t 15)]) (.keep [0,1,4,6] (.seq (.reg [.fa 17 (.t 6) 1,.ld 18 false 1 (.t 17),.call (some 19) (.c (Fc qa7)) [(.t 18)] (.ro false),.mv 16 (.t 19),.ext 20 (.t 16) 0,.ext 21 (.t 16) 1,.new 7 (.c (.a [(S []),(I 0),(I 0),(I 0)])),.st 4 (.t 7) (.t 20),.mv 8 (.t 21)]) (.keep [0,1,4,6,7,8] (.seq (.reg [.fa 23 (.t 6) 1,.ld 24 false 1 (.t 23),.call (some 25) (.c (Fc Jw)) [(.t 24)] (.ro true),.mv 22 (.t 25),.ext 26 (.t 22) 0,.ext 27 (.t 22) 1,.new 9 (.c (.a [(S []),(I 0),(I 0),(I 0)])),.st 4 (.t 9) (.t 26),.mv 10 (.t 27)]) (.keep [0,1,4,6,7,8,10] (.seq (.reg [.mv 28 (.t 0),.call (some 29) (.c (Fc Zg)) [(.t 28),(.c (I 1))] (.ro false),.new 11 (.c (.a [(I 0),(S []),(I 0),(I 0),(B false)])),.st 5 (.t 11) (.t 29)]) (.keep [0,1,4,6,7,8,10,11] (.seq (.block 0 (.seq (.reg [.fa 31 (.t 6) 0,.ld 32 false 1 (.t 31),.bin 33 .eql (.t 32) (.c (I 1)),.mv 34 (.t 33),.gd 34 true (some 35) (.fa 35 (.t 6) 4),.gd 34 true (some 36) (.ld 36 false 1 (.t 35)),.pick 37 (.t 34) (.t 36) (.c (B false)),.mv 30 (.t 37)]) (.keep [0,1,4,6,7,8,10,11,30] (.cond (.t 30) (.seq (.reg [.mv 38 (.t 0),.nilc 39 (.t 38),.fa 40 (.t 39) 1,.ld 41 false 1 (.t 40),.bin 42 .add (.t 41) (.c (I 1)),.nilc 43 (.t 38),.fa 44 (.t 43) 1,.st 1 (.t 44) (.t 42)]) (.keep [0,4,6] (.seq (.reg [.mv 45 (.t 0),.call (some 46) (.c (Fc Zf)) [(.t 45),(.c (S [40]))] (.io true)]) (.seq (.reg [.mv 47 (.t 0),.call (some 48) (.c (Fc Qj)) [(.t 47)] (.io false),.mv 12 (.t 48)]) (.seq (.reg [.mv 49 (.t 0),.call (some 50) (.c (Fc Zf)) [(.t 49),(.c (S [41]))] (.io true)]) (.seq (.seq (.reg [.mv 51 (.t 12),.len 52 (.t 51),.bin 53 .gtr (.t 52) (.c (I 5))]) (.cond (.t 53) (.reg [.mv 54 (.t 0),.nilc 55 (.t 54),.fa 56 (.t 55) 4,.st 1 (.t 56) (.c (B true))]) .skip)) (.keep [0,4,6,12] (.seq (.reg [.fa 57 (.t 6) 1,.ld 58 false 1 (.t 57),.mv 59 (.t 12),.call (some 60) (.c (Fc jO)) [(.t 58),(.t 59)] (.io false),.st 4 (.t 4) (.t 60),.mv 5 (.c (I 0))]) (.keep [0,4,5] .ret))))))))) (.seq (.reg [.mv 62 (.t 0),.call (some 63) (.c (Fc je)) [(.t 62),(.c (I 0)),(.c (S [40]))] (.ro true),.mv 64 (.t 63),.gd 64 true (some 65) (.fa 65 (.t 11) 0),.gd 64 true (some 66) (.ld 66 false 1 (.t 65)),.gd 64 true (some 67) (.bin 67 .eql (.t 66) (.c (I 1))),.pick 68 (.t 64) (.t 67) (.c (B false)),.mv 69 (.t 68),.gd 69 true (some 70) (.mv 70 (.t 0)),.gd 69 true (some 71) (.call (some 71) (.c (Fc je)) [(.t 70),(.c (I 2)),(.c (S [41]))] (.ro true)),.pick 72 (.t 69) (.t 71) (.c (B false)),.mv 61 (.t 72)]) (.keep [0,1,4,6,7,8,10,11,61] (.cond (.t 61) (.seq (.reg [.mv 73 (.t 0),.nilc 74 (.t 73),.fa 75 (.t 74) 1,.ld 76 false 1 (.t 75),.bin 77 .add (.t 76) (.c (I 3)),.nilc 78 (.t 73),.fa 79 (.t 78) 1,.st 1 (.t 79) (.t 77)]) (.keep [0,4,11] (.seq (.reg [.fa 80 (.t 11) 1,.ld 81 false 1 (.t 80),.call (some 82) (.c (Fc Yq)) [(.t 81)] (.ro false),.st 4 (.t 4) (.t 82),.mv 5 (.c (I 0))]) (.keep [0,4,5] .ret)))) (.seq (.reg [.mv 84 (.t 0),.call (some 85) (.c (Fc je)) [(.t 84),(.c (I 0)),(.c (S [40]))] (.ro true),.mv 83 (.t 85)]) (.cond (.t 83) (.seq (.reg [.mv 86 (.t 0),.nilc 87 (.t 86),.fa 88 (.t 87) 1,.ld 89 false 1 (.t 88),.bin 90 .add (.t 89) (.c (I 1)),.nilc 91 (.t 86),.fa 92 (.t 91) 1,.st 1 (.t 92) (.t 90)]) (.keep [0,4] (.seq (.reg [.mv 93 (.t 0),.call (some 94) (.c (Fc zY)) [(.t 93),(.c (I 1200))] (.io false),.new 13 (.c (.a [(I 0),(S []),(I 0),(.n 4)])),.st 4 (.t 13) (.t 94)]) (.keep [0,4,13] (.seq (.reg [.mv 95 (.t 0),.call (some 96) (.c (Fc Zf)) [(.t 95),(.c (S [41]))] (.io true)]) (.seq (.reg [.ld 97 true 4 (.t 13),.st 4 (.t 4) (.t 97),.mv 5 (.c (I 0))]) (.keep [0,4,5] .ret))))))) (.seq (.reg [.mv 99 (.t 0),.call (some 100) (.c (Fc je)) [(.t 99),(.c (I 0)),(.c (S [91]))] (.ro true),.mv 98 (.t 100)]) (.cond (.t 98) (.seq (.reg [.mv 101 (.t 0),.call (some 102) (.c (Fc Ys)) [(.t 101)] (.io false),.st 4 (.t 4) (.t 102),.mv 5 (.c (I 0))]) (.keep [0,4,5] .ret)) (.seq (.reg [.fa 104 (.t 6) 0,.ld 105 false 1 (.t 104),.bin 106 .eql (.t 105) (.c (I 3)),.mv 103 (.t 106)]) (.keep [0,1,4,6,7,8,10,11,103] (.cond (.t 103) (.seq (.reg [.mv 107 (.t 0),.nilc 108 (.t 107),.fa 109 (.t 108) 1,.ld 110 false 1 (.t 109),.bin 111 .add (.t 110) (.c (I 1)),.nilc 112 (.t 107),.fa 113 (.t 112) 1,.st 1 (.t 113) (.t 111)]) (.keep [0,4,6] (.seq (.reg [.fa 114 (.t 6) 2,.ld 115 false 1 (.t 114),.call (some 116) (.c (Fc JB)) [(.t 115)] (.ro false),.st 4 (.t 4) (.t 116),.mv 5 (.c (I 0))]) (.keep [0,4,5] .ret)))) (.seq (.reg [.fa 118 (.t 6) 0,.ld 119 false 1 (.t 118),.bin 120 .eql (.t 119) (.c (I 2)),.mv 117 (.t 120)]) (.keep [0,1,4,6,7,8,10,11,117] (.cond (.t 117) (.seq (.reg [.mv 121 (.t 0),.nilc 122 (.t 121),.fa 123 (.t 122) 1,.ld 124 false 1 (.t 123),.bin 125 .add (.t 124) (.c (I 1)),.nilc 126 (.t 121),.fa 127 (.t 126) 1,.st 1 (.t 127) (.t 125)]) (.keep [0,4,6] (.seq (.reg [.mv 128 (.t 0),.fa 129 (.t 6) 1,.ld 130 false 1 (.t 129),.call (some 131) (.c (Fc qbd)) [(.t 128),(.t 130)] (.io false),.st 4 (.t 4) (.t 131),.mv 5 (.c (I 0))]) (.keep [0,4,5] .ret)))) (.seq (.reg [.fa 133 (.t 6) 0,.ld 134 false 1 (.t 133),.bin 135 .eql (.t 134) (.c (I 1)),.mv 136 (.t 135),.gd 136 true (some 137) (.fa 137 (.t 6) 1),.gd 136 true (some 138) (.ld 138 false 1 (.t 137)),.gd 136 true (some 139) (.bin 139 .eql (.t 138) (.c (S [45]))),.pick 140 (.t 136) (.t 139) (.c (B false)),.mv 141 (.t 140),.gd 141 true (some 142) (.fa 142 (.t 11) 0),.gd 141 true (some 143) (.ld 143 false 1 (.t 142)),.gd 141 true (some 144) (.bin 144 .eql (.t 143) (.c (I 3))),.pick 145 (.t 141) (.t 144) (.c (B false)),.mv 146 (.t 145),.gd 146 true (some 147) (.fa 147 (.t 11) 3),.gd 146 true (some 148) (.ld 148 false 1 (.t 147)),.gd 146 true (some 149) (.fa 149 (.t 6) 3),.gd 146 true (some 150) (.ld 150 false 1 (.t 149)),.gd 146 true (some 151) (.bin 151 .add (.t 150) (.c (I 1))),.gd 146 true (some 152) (.bin 152 .eql (.t 148) (.t 151)),.pick 153 (.t 146) (.t 152) (.c (B false)),.mv 132 (.t 153)]) (.keep [0,1,4,6,7,8,10,11,132] (.cond (.t 132) (.seq (.reg [.mv 154 (.t 0),.nilc 155 (.t 154),.fa 156 (.t 155) 1,.ld 157 false 1 (.t 156),.bin 158 .add (.t 157) (.c (I 2)),.nilc 159 (.t 154),.fa 160 (.t 159) 1,.st 1 (.t 160) (.t 158)]) (.keep [0,4,11] (.seq (.reg [.fa 161 (.t 11) 2,.ld 162 false 1 (.t 161),.un 163 .neg (.t 162),.call (some 164) (.c (Fc JB)) [(.t 163)] (.ro false),.st 4 (.t 4) (.t 164),.mv 5 (.c (I 0))]) (.keep [0,4,5] .ret)))) (.seq (.reg [.fa 166 (.t 6) 0,.ld 167 false 1 (.t 166),.bin 168 .eql (.t 167) (.c (I 1)),.mv 169 (.t 168),.gd 169 true (some 170) (.mv 170 (.t 8)),.pick 171 (.t 169) (.t 170) (.c (B false)),.mv 172 (.t 171),.gd 172 true (some 173) (.fa 173 (.t 7) 1),.gd 172 true (some 174) (.ld 174 false 1 (.t 173)),.gd 172 true (some 175) (.mv 175 (.t 1)),.gd 172 true (some 176) (.bin 176 .leq (.t 174) (.t 175)),.pick 177 (.t 172) (.t 176) (.c (B false)),.mv 165 (.t 177)]) (.keep [0,4,6,7,8,10,165] (.cond (.t 165) (.seq (.reg [.mv 178 (.t 0),.nilc 179 (.t 178),.fa 180 (.t 179) 1,.ld 181 false 1 (.t 180),.bin 182 .add (.t 181) (.c (I 1)),.nilc 183 (.t 178),.fa 184 (.t 183) 1,.st 1 (.t 184) (.t 182)]) (.keep [0,4,6,7] (.seq (.dreg [⟨0,[]⟩,⟨0,[(6,0)]⟩,⟨0,[]⟩,⟨0,[]⟩,⟨0,[(7,0)]⟩,⟨1,[(0,0),(0,1),(0,2),(0,3),(15,0),(15,1),(15,2),(15,3),(18,0),(19,0),(19,1),(19,2),(19,3),(41,0),(76,0),(89,0),(110,0),(124,0),(157,0),(181,0),(189,0),(210,0)]⟩,⟨1,[]⟩,⟨1,[(0,0),(0,1),(0,2),(0,3),(15,0),(15,1),(15,2),(15,3),(18,0),(19,0),(19,1),(19,2),(19,3),(41,0),(76,0),(89,0),(110,0),(124,0),(157,0),(181,0),(186,0),(189,0),(190,0),(190,1),(190,2),(190,3),(191,0),(210,0)]⟩,⟨0,[]⟩,⟨0,[(7,0)]⟩,⟨1,[(4,0)]⟩,⟨0,[]⟩] [.fa 185 (.t 6) 1,.ldq 186 false 1 (.t 185),.mv 187 (.t 0),.fa 188 (.t 7) 3,.ldq 189 false 1 (.t 188),.call (some 190) (.c (Fc zY)) [(.t 187),(.t 189)] (.io false),.mks 191 4 [(.t 190)],.call (some 192) (.c (Fc jO)) [(.t 186),(.t 191)] (.io false),.fa 193 (.t 7) 1,.ldq 194 false 1 (.t 193),.st 4 (.t 4) (.t 192),.mv 5 (.t 194)]) (.keep [0,4,5] .ret)))) (.seq (.reg [.fa 196 (.t 6) 0,.ld 197 false 1 (.t 196),.bin 198 .eql (.t 197) (.c (I 1)),.mv 199 (.t 198),.gd 199 true (some 200) (.mv 200 (.t 8)),.gd 199 true (some 201) (.un 201 .not (.t 200)),.pick 202 (.t 199) (.t 201) (.c (B false)),.mv 203 (.t 202),.gd 203 true (some 204) (.mv 204 (.t 10)),.gd 203 true (some 205) (.un 205 .not (.t 204)),.pick 206 (.t 203) (.t 205) (.c (B false)),.mv 195 (.t 206)]) (.keep [0,4,6,195] (.cond (.t 195) (.seq (.reg [.mv 207 (.t 0),.nilc 208 (.t 207),.fa 209 (.t 208) 1,.ld 210 false 1 (.t 209),.bin 211 .add (.t 210) (.c (I 1)),.nilc 212 (.t 207),.fa 213 (.t 212) 1,.st 1 (.t 213) (.t 211)]) (.keep [0,4,6] (.seq (.reg [.fa 214 (.t 6) 1,.ld 215 false 1 (.t 214),.call (some 216) (.c (Fc Yq)) [(.t 215)] (.ro false),.st 4 (.t 4) (.t 216),.mv 5 (.c (I 0))]) (.keep [0,4,5] .ret)))) .skip)))))))))))))))))))))))))) (.keep [0,4] (.seq (.reg [.mv 217 (.t 0),.nilc 218 (.t 217),.fa 219 (.t 218) 4,.st 1 (.t 219) (.c (B true))]) (.keep [0,4] (.seq (.reg [.build 220 (.a [(I 0),(S []),(I 0),(.n 4)]) [],.st 4 (.t 4) (.t 220),.mv 5 (.c (I 0))]) (.keep [0,4,5] .ret)))))))))))))))
def yh:AF where
 nargs:=1
 ntmps:=42
 res:=[.cell 2 true 4,.tmp 3]
 body:=(.seq (.reg [.new 2 (.c (.a [(S []),(I 0),(I 0),(I 0)])),.mv 3 (.c (B false))]) (.seq (.seq (.reg [.mv 4 (.t 0)]) (.block 0 (.seq (.seq (.reg [.bin 6 .eql (.t 4) (.c (S [58,45])),.mv 5 (.t 6)]) (.cond (.t 5) .skip (.reg [.bin 7 .eql (.t 4) (.c (S [45,45,62])),.mv 5 (.t 7)]))) (.keep [0,2,4,5] (.cond (.t 5) (.seq (.reg [.mv 8 (.t 0),.build 9 (.a [(S []),(I 0),(I 0),(I 0)]) [(0,1,(.t 8)),(1,1,(.c (I 1200))),(2,1,(.c (I 1199))),(3,1,(.c (I 1199)))],.st 4 (.t 2) (.t 9),.mv 3 (.c (B true))]) (.keep [2,3] .ret)) (.seq (.reg [.bin 11 .eql (.t 4) (.c (S [59])),.mv 10 (.t 11)]) (.cond (.t 10) (.seq (.reg [.mv 12 (.t 0),.build 13 (.a [(S []),(I 0),(I 0),(I 0)]) [(0,1,(.t 12)),(1,1,(.c (I 1100))),(2,1,(.c (I 1099))),(3,1,(.c (I 1100)))],.st 4 (.t 2) (.t 13),.mv 3 (.c (B true))]) (.keep [2,3] .ret)) (.seq (.reg [.bin 15 .eql (.t 4) (.c (S [45,62])),.mv 14 (.t 15)]) (.cond (.t 14) (.seq (.reg [.mv 16 (.t 0),.build 17 (.a [(S []),(I 0),(I 0),(I 0)]) [(0,1,(.t 16)),(1,1,(.c (I 1050))),(2,1,(.c (I 1049))),(3,1,(.c (I 1050)))],.st 4 (.t 2) (.t 17),.mv 3 (.c (B true))]) (.keep [2,3] .ret)) (.seq (.reg [.bin 19 .eql (.t 4) (.c (S [44])),.mv 18 (.t 19)]) (.cond (.t 18) (.seq (.reg [.mv 20 (.t 0),.build 21 (.a [(S []),(I 0),(I 0),(I 0)]) [(0,1,(.t 20)),(1,1,(.c (I 1000))),(2,1,(.c (I 999))),(3,1,(.c (I 1000)))],.st 4 (.t 2) (.t 21),.mv 3 (.c (B true))]) (.keep [2,3] .ret)) (.seq (.seq (.reg [.bin 23 .eql (.t 4) (.c (S [61])),.mv 22 (.t 23)]) (.cond (.t 22) .skip (.seq (.reg [.bin 24 .eql (.t 4) (.c (S [92,61])),.mv 22 (.t 24)]) (.cond (.t 22) .skip (.seq (.reg [.bin 25 .eql (.t 4) (.c (S [61,61])),.mv 22 (.t 25)]) (.cond (.t 22) .skip (.seq (.reg [.bin 26 .eql (.t 4) (.c (S [105,115])),.mv 22 (.t 26)]) (.cond (.t 22) .skip (.seq (.reg [.bin 27 .eql (.t 4) (.c (S [60])),.mv 22 (.t 27)]) (.cond (.t 22) .skip (.reg [.bin 28 .eql (.t 4) (.c (S [61,58,61])),.mv 22 (.t 28)]))))))))))) (.keep [0,2,4,22] (.cond (.t 22) (.seq (.reg [.mv 29 (.t 0),.build 30 (.a [(S []),(I 0),(I 0),(I 0)]) [(0,1,(.t 29)),(1,1,(.c (I 700))),(2,1,(.c (I 699))),(3,1,(.c (I 699)))],.st 4 (.t 2) (.t 30),.mv 3 (.c (B true))]) (.keep [2,3] .ret)) (.seq (.seq (.reg [.bin 32 .eql (.t 4) (.c (S [43])),.mv 31 (.t 32)]) (.cond (.t 31) .skip (.reg [.bin 33 .eql (.t 4) (.c (S [45])),.mv 31 (.t 33)]))) (.keep [0,2,4,31] (.cond (.t 31) (.seq (.reg [.mv 34 (.t 0),.build 35 (.a [(S []),(I 0),(I 0),(I 0)]) [(0,1,(.t 34)),(1,1,(.c (I 500))),(2,1,(.c (I 500))),(3,1,(.c (I 499)))],.st 4 (.t 2) (.t 35),.mv 3 (.c (B true))]) (.keep [2,3] .ret)) (.seq (.seq (.reg [.bin 37 .eql (.t 4) (.c (S [42])),.mv 36 (.t 37)]) (.cond (.t 36) .skip (.reg [.bin 38 .eql (.t 4) (.c (S [47,47])),.mv 36 (.t 38)]))) (.keep [0,2,36] (.cond (.t 36) (.seq (.reg [.mv 39 (.t 0),.build 40 (.a [(S []),(I 0),(I 0),(I 0)]) [(0,1,(.t 39)),(1,1,(.c (I 400))),(2,1,(.c (I 400))),(3,1,(.c (I 399)))],.st 4 (.t 2) (.t 40),.mv 3 (.c (B true))]) (.keep [2,3] .ret)) .skip)))))))))))))))))))) (.keep [2] (.seq (.reg [.build 41 (.a [(S []),(I 0),(I 0),(I 0)]) [],.st 4 (.t 2) (.t 41),.mv 3 (.c (B false))]) (.keep [2,3] .ret)))))
def Z6:AF where
 nargs:=2
 ntmps:=8
 res:=[.cell 4 true 4]
 body:=(.seq (.reg [.new 4 (.c (.a [(I 0),(S []),(I 0),(.n 4)]))]) (.seq (.reg [.mv 5 (.t 0),.mv 6 (.t 1),.build 7 (.a [(I 0),(S []),(I 0),(.n 4)]) [(0,1,(.c (I 4))),(1,1,(.t 5)),(3,1,(.t 6))],.st 4 (.t 4) (.t 7)]) (.keep [4] .ret)))
def Kk:AC:=(.seq (.reg [.bin 85 .lss (.t 84) (.t 83)]) (.seq (.cond (.t 85) .skip (.keep [5] (.exit 1))) (.keep [1,5,82,83,84] (.seq (.block 2 (.seq (.reg [.ia 86 4 (.t 82) (.t 84),.ld 87 true 4 (.t 86),.new 7 (.c (.a [(I 0),(S []),(I 0),(.n 4)])),.st 4 (.t 7) (.t 87)]) (.keep [1,5,7,82,83,84] (.seq (.reg [.mv 88 (.t 5),.ld 89 true 4 (.t 7),.mv 90 (.t 1),.bin 91 .add (.t 90) (.c (I 1)),.call (some 92) (.c (Fc XQ)) [(.t 89),(.t 91)] (.ro false),.bin 93 .add (.t 88) (.t 92),.mv 5 (.t 93)]) (.keep [1,5,82,83,84] (.seq (.reg [.mv 94 (.t 5),.bin 95 .gtr (.t 94) (.c (I 400))]) (.cond (.t 95) (.seq (.reg [.mv 4 (.c (I 401))]) (.keep [4] .ret)) .skip))))))) (.keep [1,5,82,83,84] (.reg [.bin 96 .add (.t 84) (.c (I 1)),.mv 84 (.t 96)]))))))
def jh:Lp:=⟨[1,5,82,83,84],[(2,0)],Kk⟩
@[go_sem] theorem qsm:jh.ls=[1,5,82,83,84]:=rfl
@[go_sem] theorem qsl:jh.ks=[(2,0)]:=rfl
@[go_sem] theorem qsk:jh.body=Kk:=rfl
def zJ:AF where
 nargs:=2
 ntmps:=98
 res:=[.tmp 4]
 body:=(.seq (.reg [.new 2 (.t 0),.mv 4 (.c (I 0))]) (.seq (.seq (.reg [.mv 8 (.t 1),.bin 9 .gtr (.t 8) (.c (I 40))]) (.cond (.t 9) (.seq (.reg [.mv 4 (.c (I 401))]) (.keep [4] .ret)) .skip)) (.keep [1,2] (.seq (.seq (.reg [.fa 10 (.t 2) 0,.ld 11 false 1 (.t 10)]) (.block 0 (.seq (.reg [.bin 13 .eql (.t 11) (.c (I 1)),.mv 12 (.t 13)]) (.cond (.t 12) (.seq (.reg [.fa 14 (.t 2) 1,.ld 15 false 1 (.t 14),.bin 16 .neq (.t 15) (.c (S [])),.mv 17 (.t 16),.gd 17 false (some 18) (.fa 18 (.t 2) 2),.gd 17 false (some 19) (.ld 19 false 1 (.t 18)),.gd 17 false (some 20) (.call (some 20) (.c (Fc jf)) [(.t 19),(.c (I 0)),(.c (I 99999))] (.ro true)),.gd 17 false (some 21) (.un 21 .not (.t 20)),.pick 22 (.t 17) (.c (B true)) (.t 21),.mv 23 (.t 22),.gd 23 false (some 24) (.fa 24 (.t 2) 3),.gd 23 false (some 25) (.ld 25 false 1 (.t 24)),.gd 23 false (some 26) (.len 26 (.t 25)),.gd 23 false (some 27) (.bin 27 .gtr (.t 26) (.c (I 0))),.pick 28 (.t 23) (.c (B true)) (.t 27)]) (.keep [1,2,28] (.cond (.t 28) (.seq (.reg [.mv 4 (.c (I 401))]) (.keep [4] .ret)) .skip))) (.seq (.reg [.bin 30 .eql (.t 11) (.c (I 2)),.mv 29 (.t 30)]) (.cond (.t 29) (.seq (.reg [.fa 31 (.t 2) 1,.ld 32 false 1 (.t 31),.call (some 33) (.c (Fc Jz)) [(.t 32)] (.ro true),.un 34 .not (.t 33),.mv 35 (.t 34),.gd 35 false (some 36) (.fa 36 (.t 2) 2),.gd 35 false (some 37) (.ld 37 false 1 (.t 36)),.gd 35 false (some 38) (.bin 38 .neq (.t 37) (.c (I 0))),.pick 39 (.t 35) (.c (B true)) (.t 38),.mv 40 (.t 39),.gd 40 false (some 41) (.fa 41 (.t 2) 3),.gd 40 false (some 42) (.ld 42 false 1 (.t 41)),.gd 40 false (some 43) (.len 43 (.t 42)),.gd 40 false (some 44) (.bin 44 .gtr (.t 43) (.c (I 0))),.pick 45 (.t 40) (.c (B true)) (.t 44)]) (.keep [1,2,45] (.cond (.t 45) (.seq (.reg [.mv 4 (.c (I 401))]) (.keep [4] .ret)) .skip))) (.seq (.reg [.bin 47 .eql (.t 11) (.c (I 3)),.mv 46 (.t 47)]) (.cond (.t 46) (.seq (.reg [.fa 48 (.t 2) 1,.ld 49 false 1 (.t 48),.bin 50 .neq (.t 49) (.c (S [])),.mv 51 (.t 50),.gd 51 false (some 52) (.fa 52 (.t 2) 2),.gd 51 false (some 53) (.ld 53 false 1 (.t 52)),.gd 51 false (some 54) (.call (some 54) (.c (Fc jf)) [(.t 53),(.c (I (-999999999))),(.c (I 999999999))] (.ro true)),.gd 51 false (some 55) (.un 55 .not (.t 54)),.pick 56 (.t 51) (.c (B true)) (.t 55),.mv 57 (.t 56),.gd 57 false (some 58) (.fa 58 (.t 2) 3),.gd 57 false (some 59) (.ld 59 false 1 (.t 58)),.gd 57 false (some 60) (.len 60 (.t 59)),.gd 57 false (some 61) (.bin 61 .gtr (.t 60) (.c (I 0))),.pick 62 (.t 57) (.c (B true)) (.t 61)]) (.keep [1,2,62] (.cond (.t 62) (.seq (.reg [.mv 4 (.c (I 401))]) (.keep [4] .ret)) .skip))) (.seq (.reg [.bin 64 .eql (.t 11) (.c (I 4)),.mv 63 (.t 64)]) (.cond (.t 63) (.seq (.reg [.fa 65 (.t 2) 1,.ld 66 false 1 (.t 65),.call (some 67) (.c (Fc Jz)) [(.t 66)] (.ro true),.un 68 .not (.t 67),.mv 69 (.t 68),.gd 69 false (some 70) (.fa 70 (.t 2) 2),.gd 69 false (some 71) (.ld 71 false 1 (.t 70)),.gd 69 false (some 72) (.bin 72 .neq (.t 71) (.c (I 0))),.pick 73 (.t 69) (.c (B true)) (.t 72),.mv 74 (.t 73),.gd 74 false (some 75) (.fa 75 (.t 2) 3),.gd 74 false (some 76) (.ld 76 false 1 (.t 75)),.gd 74 false (some 77) (.len 77 (.t 76)),.gd 74 false (some 78) (.call (some 78) (.c (Fc jf)) [(.t 77),(.c (I 1)),(.c (I 5))] (.ro true)),.gd 74 false (some 79) (.un 79 .not (.t 78)),.pick 80 (.t 74) (.c (B true)) (.t 79)]) (.keep [1,2,80] (.cond (.t 80) (.seq (.reg [.mv 4 (.c (I 401))]) (.keep [4] .ret)) .skip))) (.seq (.reg [.mv 4 (.c (I 401))]) (.keep [4] .ret)))))))))))) (.keep [1,2] (.seq (.reg [.mv 5 (.c (I 1))]) (.seq (.seq (.reg [.fa 81 (.t 2) 3,.ld 82 false 1 (.t 81),.len 83 (.t 82),.mv 84 (.c (I 0))]) (.keep [1,5,82,83,84] (.block 1 (lpC jh)))) (.keep [5] (.seq (.reg [.mv 97 (.t 5),.mv 4 (.t 97)]) (.keep [4] .ret))))))))))
def Yk:AF where
 nargs:=0
 ntmps:=2
 res:=[.tmp 0]
 body:=(.seq (.reg [.mv 0 (.c (.n 1))]) (.seq (.reg [.mks 1 1 [(.c (S [112,40,97,41])),(.c (S [112,40,98,41])),(.c (S [112,40,99,41])),(.c (S [113,40,88,41,32,58,45,32,112,40,88,41])),(.c (S [113,40,122,41])),(.c (S [114,40,88,44,32,89,41,32,58,45,32,112,40,88,41,44,32,113,40,89,41])),(.c (S [97,112,112,40,91,93,44,32,76,44,32,76,41])),(.c (S [97,112,112,40,91,72,124,84,93,44,32,76,44,32,91,72,124,82,93,41,32,58,45,32,97,112,112,40,84,44,32,76,44,32,82,41])),(.c (S [108,101,110,40,91,93,44,32,48,41])),(.c (S [108,101,110,40,91,95,124,84,93,44,32,78,41,32,58,45,32,108,101,110,40,84,44,32,77,41,44,32,78,32,105,115,32,77,32,43,32,49])),(.c (S [115,40,88,41,32,58,45,32,112,40,88,41,44,32,33])),(.c (S [115,40,122,41])),(.c (S [116,40,88,41,32,58,45,32,40,112,40,88,41,32,45,62,32,116,114,117,101,32,59,32,88,32,61,32,110,111,110,101,41])),(.c (S [117,40,88,41,32,58,45,32,92,43,32,112,40,88,41])),(.c (S [119,40,88,41,32,58,45,32,112,40,88,41,44,32,119,114,105,116,101,40,88,41])),(.c (S [99,40,88,41,32,58,45,32,99,97,116,99,104,40,112,40,88,41,44,32,95,44,32,116,114,117,101,41])),(.c (S [101,40,88,41,32,58,45,32,99,97,116,99,104,40,116,104,114,111,119,40,88,41,44,32,89,44,32,119,114,105,116,101,40,89,41,41])),(.c (S [110,40,88,41,32,58,45,32,88,32,105,115,32,51,32,47,47,32,48])),(.c (S [109,40,88,41,32,58,45,32,99,97,116,99,104,40,110,40,88,41,44,32,101,114,114,111,114,40,69,44,32,95,41,44,32,40,88,32,61,32,69,41,41])),(.c (S [97,100,100,40,88,41,32,58,45,32,97,115,115,101,114,116,122,40,112,40,88,41,41])),(.c (S [100,101,108,40,88,41,32,58,45,32,114,101,116,114,97,99,116,40,112,40,88,41,41])),(.c (S [108,111,111,112,32,58,45,32,108,111,111,112])),(.c (S [118,40,88,41,32,58,45,32,99,97,108,108,40,112,44,32,88,41])),(.c (S [100,40,88,44,32,89,41,32,58,45,32,88,32,61,32,89,32,59,32,89,32,61,32,98])),(.c (S [103,40,102,40,88,41,44,32,88,41])),(.c (S [103,40,104,40,88,41,44,32,88,41])),(.c (S [103,40,49,44,32,111,110,101,41])),(.c (S [107,40,88,41,32,58,45,32,117,110,107,110,111,119,110,40,88,41])),(.c (S [121,40,88,41,32,58,45,32,112,40,88,41,44,32,97,115,115,101,114,116,122,40,112,40,100,41,41,44,32,88,32,61,32,98]))],.mv 0 (.t 1)]) (.keep [0] .ret)))
def Ks:AC:=(.seq (.seq (.reg [.mv 4 (.t 3),.mv 5 (.t 0),.slen 6 (.t 5),.bin 7 .lss (.t 4) (.t 6)]) (.keep [0,3,7] (.cond (.t 7) .skip (.keep [0] (.exit 0))))) (.keep [0,3] (.seq (.block 1 (.seq (.reg [.mv 10 (.t 0),.mv 11 (.t 3),.ix 12 (.t 10) (.t 11),.call (some 13) (.c (Fc qbm)) [(.t 12)] (.ro true),.un 14 .not (.t 13)]) (.keep [0,3,14] (.cond (.t 14) (.seq (.reg [.mv 2 (.c (B false))]) (.keep [2] .ret)) .skip)))) (.keep [0,3] (.reg [.mv 8 (.t 3),.bin 9 .add (.t 8) (.c (I 1)),.mv 3 (.t 9)])))))
def Ka:Lp:=⟨[0,3],[(1,0)],Ks⟩
@[go_sem] theorem qsZ:Ka.ls=[0,3]:=rfl
@[go_sem] theorem qsY:Ka.ks=[(1,0)]:=rfl
@[go_sem] theorem qsX:Ka.body=Ks:=rfl
def Zd:AF where
 nargs:=1
 ntmps:=18
 res:=[.tmp 2]
 body:=(.seq (.reg [.mv 2 (.c (B false))]) (.seq (.seq (.reg [.mv 3 (.c (I 0))]) (.block 0 (lpC Ka))) (.keep [0] (.seq (.reg [.mv 15 (.t 0),.slen 16 (.t 15),.call (some 17) (.c (Fc qbj)) [(.t 16),(.c (I 1)),(.c (I 8))] (.ro false),.mv 2 (.t 17)]) (.keep [2] .ret)))))
def jJ:AF where
 nargs:=1
 ntmps:=18
 res:=[.cell 2 true 4,.tmp 3]
 body:=(.seq (.reg [.new 2 (.c (.a [(S []),(I 0),(I 0),(I 0)])),.mv 3 (.c (B false))]) (.seq (.seq (.reg [.mv 4 (.t 0)]) (.block 0 (.seq (.reg [.bin 6 .eql (.t 4) (.c (S [58,45])),.mv 5 (.t 6)]) (.cond (.t 5) (.seq (.reg [.mv 7 (.t 0),.build 8 (.a [(S []),(I 0),(I 0),(I 0)]) [(0,1,(.t 7)),(1,1,(.c (I 1200))),(3,1,(.c (I 1199)))],.st 4 (.t 2) (.t 8),.mv 3 (.c (B true))]) (.keep [2,3] .ret)) (.seq (.reg [.bin 10 .eql (.t 4) (.c (S [92,43])),.mv 9 (.t 10)]) (.cond (.t 9) (.seq (.reg [.mv 11 (.t 0),.build 12 (.a [(S []),(I 0),(I 0),(I 0)]) [(0,1,(.t 11)),(1,1,(.c (I 900))),(3,1,(.c (I 900)))],.st 4 (.t 2) (.t 12),.mv 3 (.c (B true))]) (.keep [2,3] .ret)) (.seq (.reg [.bin 14 .eql (.t 4) (.c (S [45])),.mv 13 (.t 14)]) (.cond (.t 13) (.seq (.reg [.mv 15 (.t 0),.build 16 (.a [(S []),(I 0),(I 0),(I 0)]) [(0,1,(.t 15)),(1,1,(.c (I 200))),(3,1,(.c (I 200)))],.st 4 (.t 2) (.t 16),.mv 3 (.c (B true))]) (.keep [2,3] .ret)) .skip)))))))) (.keep [2] (.seq (.reg [.build 17 (.a [(S []),(I 0),(I 0),(I 0)]) [],.st 4 (.t 2) (.t 17),.mv 3 (.c (B false))]) (.keep [2,3] .ret)))))
def Q5:AF where
 nargs:=2
 ntmps:=18
 res:=[]
 body:=(.seq (.seq (.reg [.mv 4 (.t 0),.mv 5 (.t 1),.call (some 6) (.c (Fc je)) [(.t 4),(.c (I 0)),(.t 5)] (.ro true),.un 7 .not (.t 6)]) (.keep [0,7] (.cond (.t 7) (.reg [.mv 8 (.t 0),.nilc 9 (.t 8),.fa 10 (.t 9) 4,.st 1 (.t 10) (.c (B true))]) .skip))) (.keep [0] (.reg [.mv 11 (.t 0),.nilc 12 (.t 11),.fa 13 (.t 12) 1,.ld 14 false 1 (.t 13),.bin 15 .add (.t 14) (.c (I 1)),.nilc 16 (.t 11),.fa 17 (.t 16) 1,.st 1 (.t 17) (.t 15)])))
def Kh:AC:=(.seq (.seq (.reg [.mv 7 (.t 0),.nilc 8 (.t 7),.fa 9 (.t 8) 4,.ld 10 false 1 (.t 9),.un 11 .not (.t 10),.mv 12 (.t 11),.gd 12 true (some 13) (.mv 13 (.t 0)),.gd 12 true (some 14) (.call (some 14) (.c (Fc je)) [(.t 13),(.c (I 0)),(.c (S [44]))] (.ro true)),.pick 15 (.t 12) (.t 14) (.c (B false))]) (.keep [0,3,15] (.cond (.t 15) .skip (.keep [0,3] (.exit 0))))) (.keep [0,3] (.block 1 (.seq (.reg [.mv 16 (.t 0),.nilc 17 (.t 16),.fa 18 (.t 17) 1,.ld 19 false 1 (.t 18),.bin 20 .add (.t 19) (.c (I 1)),.nilc 21 (.t 16),.fa 22 (.t 21) 1,.st 1 (.t 22) (.t 20)]) (.keep [0,3] (.reg [.mv 23 (.t 3),.mv 24 (.t 0),.call (some 25) (.c (Fc zY)) [(.t 24),(.c (I 999))] (.io false),.mks 26 4 [(.t 25)],.app 27 4 56 (.t 23) (.t 26),.mv 3 (.t 27)]))))))
def kR:Lp:=⟨[0,3],[(1,0)],Kh⟩
@[go_sem] theorem qsa:kR.ls=[0,3]:=rfl
@[go_sem] theorem qr9:kR.ks=[(1,0)]:=rfl
@[go_sem] theorem qr8:kR.body=Kh:=rfl
def Z3:AF where
 nargs:=1
 ntmps:=29
 res:=[.tmp 2]
 body:=(.seq (.reg [.mv 2 (.c (.n 4))]) (.seq (.reg [.mv 4 (.t 0),.call (some 5) (.c (Fc zY)) [(.t 4),(.c (I 999))] (.io false),.mks 6 4 [(.t 5)],.mv 3 (.t 6)]) (.keep [0,3] (.seq (.block 0 (lpC kR)) (.keep [0,3] (.seq (.reg [.mv 28 (.t 3),.mv 2 (.t 28)]) (.keep [0,2] .ret)))))))
def Q4:AF where
 nargs:=3
 ntmps:=20
 res:=[.tmp 6]
 body:=(.seq (.reg [.mv 6 (.c (B false))]) (.seq (.reg [.mv 8 (.t 0),.mv 9 (.t 1),.call (some 10) (.c (Fc Zg)) [(.t 8),(.t 9)] (.ro false),.new 7 (.c (.a [(I 0),(S []),(I 0),(I 0),(B false)])),.st 5 (.t 7) (.t 10)]) (.keep [2,7] (.seq (.reg [.fa 11 (.t 7) 0,.ld 12 false 1 (.t 11),.bin 13 .eql (.t 12) (.c (I 4)),.mv 14 (.t 13),.gd 14 true (some 15) (.fa 15 (.t 7) 1),.gd 14 true (some 16) (.ld 16 false 1 (.t 15)),.gd 14 true (some 17) (.mv 17 (.t 2)),.gd 14 true (some 18) (.bin 18 .eql (.t 16) (.t 17)),.pick 19 (.t 14) (.t 18) (.c (B false)),.mv 6 (.t 19)]) (.keep [6] .ret)))))
def Z0:AF where
 nargs:=1
 ntmps:=5
 res:=[.cell 2 true 4]
 body:=(.seq (.reg [.new 2 (.c (.a [(I 0),(S []),(I 0),(.n 4)]))]) (.seq (.reg [.mv 3 (.t 0),.build 4 (.a [(I 0),(S []),(I 0),(.n 4)]) [(0,1,(.c (I 2))),(1,1,(.t 3))],.st 4 (.t 2) (.t 4)]) (.keep [2] .ret)))
def JM:AC:=(.seq (.seq (.reg [.mv 37 (.t 5),.bin 38 .geq (.t 37) (.c (I 0))]) (.cond (.t 38) .skip (.keep [0,2,4] (.exit 0)))) (.keep [0,2,3,4,5] (.seq (.block 1 (.opd [(500000,3,some 5)] (.dreg [⟨0,[]⟩,⟨0,[]⟩,⟨0,[(0,0),(0,1),(0,2),(0,3),(13,0),(19,0),(19,1),(19,2),(19,3),(26,0),(100000,0),(100000,1),(100000,2),(100000,3),(100000,4),(100000,5)]⟩,⟨0,[(0,0),(0,1),(0,2),(0,3),(13,0),(19,0),(19,1),(19,2),(19,3),(26,0),(100000,0),(100000,1),(100000,2),(100000,3),(100000,4),(100000,5)]⟩,⟨0,[(4,0),(100000,0),(100000,1),(100000,2),(100000,3),(100000,4),(100000,5)]⟩,⟨1,[]⟩,⟨1,[(0,0),(0,1),(0,2),(0,3),(13,0),(19,0),(19,1),(19,2),(19,3),(20,0),(20,1),(20,2),(20,3),(26,0),(31,0),(31,1),(31,2),(31,3),(44,0),(45,0),(46,0),(100000,0),(100000,1),(100000,2),(100000,3),(100000,4),(100000,5),(500000,0)]⟩,⟨1,[(4,0),(100000,0),(100000,1),(100000,2),(100000,3),(100000,4),(100000,5)]⟩] [.mv 41 (.t 3),.mv 42 (.t 5),.ia 43 4 (.t 41) (.t 42),.ldq 44 true 4 (.t 43),.ldq 45 true 4 (.t 4),.mks 46 4 [(.t 44),(.t 45)],.call (some 47) (.c (Fc jO)) [(.c (S [46])),(.t 46)] (.io false),.st 4 (.t 4) (.t 47)]))) (.keep [0,2,3,4,5] (.reg [.mv 39 (.t 5),.bin 40 .sub (.t 39) (.c (I 1)),.mv 5 (.t 40)])))))
def XX:Lp:=⟨[0,2,3,4,5],[(1,0)],JM⟩
@[go_sem] theorem qr4:XX.ls=[0,2,3,4,5]:=rfl
@[go_sem] theorem qr3:XX.ks=[(1,0)]:=rfl
@[go_sem] theorem qr2:XX.body=JM:=rfl
def Qc:AF where
 nargs:=1
 ntmps:=49
 res:=[.cell 2 true 4]
 body:=(.seq (.reg [.new 2 (.c (.a [(I 0),(S []),(I 0),(.n 4)]))]) (.seq (.reg [.mv 6 (.t 0),.call (some 7) (.c (Fc Zf)) [(.t 6),(.c (S [91]))] (.io true)]) (.seq (.seq (.reg [.mv 8 (.t 0),.call (some 9) (.c (Fc je)) [(.t 8),(.c (I 0)),(.c (S [93]))] (.ro true)]) (.cond (.t 9) (.seq (.reg [.mv 10 (.t 0),.nilc 11 (.t 10),.fa 12 (.t 11) 1,.ld 13 false 1 (.t 12),.bin 14 .add (.t 13) (.c (I 1)),.nilc 15 (.t 10),.fa 16 (.t 15) 1,.st 1 (.t 16) (.t 14)]) (.keep [0,2] (.seq (.reg [.call (some 17) (.c (Fc Yq)) [(.c (S [91,93]))] (.ro false),.st 4 (.t 2) (.t 17)]) (.keep [0,2] .ret)))) .skip)) (.keep [0,2] (.seq (.reg [.mv 18 (.t 0),.call (some 19) (.c (Fc Qj)) [(.t 18)] (.io false),.mv 3 (.t 19)]) (.seq (.reg [.call (some 20) (.c (Fc Yq)) [(.c (S [91,93]))] (.ro false),.new 4 (.c (.a [(I 0),(S []),(I 0),(.n 4)])),.st 4 (.t 4) (.t 20)]) (.seq (.seq (.reg [.mv 21 (.t 0),.call (some 22) (.c (Fc je)) [(.t 21),(.c (I 0)),(.c (S [124]))] (.ro true)]) (.cond (.t 22) (.seq (.reg [.mv 23 (.t 0),.nilc 24 (.t 23),.fa 25 (.t 24) 1,.ld 26 false 1 (.t 25),.bin 27 .add (.t 26) (.c (I 1)),.nilc 28 (.t 23),.fa 29 (.t 28) 1,.st 1 (.t 29) (.t 27)]) (.keep [0,2,3,4] (.reg [.mv 30 (.t 0),.call (some 31) (.c (Fc zY)) [(.t 30),(.c (I 999))] (.io false),.st 4 (.t 4) (.t 31)]))) .skip)) (.keep [0,2,3,4] (.seq (.reg [.mv 32 (.t 0),.call (some 33) (.c (Fc Zf)) [(.t 32),(.c (S [93]))] (.io true)]) (.seq (.seq (.reg [.mv 34 (.t 3),.len 35 (.t 34),.bin 36 .sub (.t 35) (.c (I 1)),.mv 5 (.t 36)]) (.keep [0,2,3,4,5] (.block 0 (lpC XX)))) (.keep [0,2,4] (.seq (.reg [.ld 48 true 4 (.t 4),.st 4 (.t 2) (.t 48)]) (.keep [0,2] .ret)))))))))))))
def Z2:AF where
 nargs:=1
 ntmps:=5
 res:=[.cell 2 true 4]
 body:=(.seq (.reg [.new 2 (.c (.a [(I 0),(S []),(I 0),(.n 4)]))]) (.seq (.reg [.mv 3 (.t 0),.build 4 (.a [(I 0),(S []),(I 0),(.n 4)]) [(0,1,(.c (I 3))),(2,1,(.t 3))],.st 4 (.t 2) (.t 4)]) (.keep [2] .ret)))
def Qd:AF where
 nargs:=2
 ntmps:=35
 res:=[.cell 4 true 4]
 body:=(.seq (.reg [.new 4 (.c (.a [(I 0),(S []),(I 0),(.n 4)]))]) (.seq (.reg [.mv 6 (.t 0),.nilc 7 (.t 6),.fa 8 (.t 7) 2,.ld 9 false 1 (.t 8),.mv 10 (.t 1),.call (some 11) (.c (Fc JF)) [(.t 9),(.t 10)] (.ro false),.mv 5 (.t 11)]) (.keep [0,1,4,5] (.seq (.seq (.reg [.mv 12 (.t 5),.bin 13 .lss (.t 12) (.c (I 0)),.mv 14 (.t 13),.gd 14 false (some 15) (.mv 15 (.t 1)),.gd 14 false (some 16) (.bin 16 .eql (.t 15) (.c (S [95]))),.pick 17 (.t 14) (.c (B true)) (.t 16)]) (.keep [0,1,4,5,17] (.cond (.t 17) (.seq (.reg [.mv 18 (.t 0),.nilc 19 (.t 18),.fa 20 (.t 19) 2,.ld 21 false 1 (.t 20),.len 22 (.t 21),.mv 5 (.t 22)]) (.keep [0,1,4,5] (.reg [.mv 23 (.t 0),.mv 24 (.t 0),.nilc 25 (.t 24),.fa 26 (.t 25) 2,.ld 27 false 1 (.t 26),.mv 28 (.t 1),.mks 29 1 [(.t 28)],.app 30 1 16 (.t 27) (.t 29),.nilc 31 (.t 23),.fa 32 (.t 31) 2,.st 1 (.t 32) (.t 30)]))) .skip))) (.keep [0,4,5] (.seq (.reg [.mv 33 (.t 5),.call (some 34) (.c (Fc qbe)) [(.t 33)] (.ro false),.st 4 (.t 4) (.t 34)]) (.keep [0,4] .ret)))))))
def Qq:AC:=(.seq (.seq (.reg [.mv 4 (.t 3),.mv 5 (.t 0),.slen 6 (.t 5),.bin 7 .lss (.t 4) (.t 6)]) (.keep [0,3,7] (.cond (.t 7) .skip (.keep [0] (.exit 0))))) (.keep [0,3] (.seq (.block 1 (.seq (.reg [.mv 10 (.t 0),.mv 11 (.t 3),.ix 12 (.t 10) (.t 11),.int 13 .i64 (.t 12),.call (some 14) (.c (Fc jf)) [(.t 13),(.c (I 33)),(.c (I 126))] (.ro true),.un 15 .not (.t 14),.mv 16 (.t 15),.gd 16 false (some 17) (.mv 17 (.t 0)),.gd 16 false (some 18) (.mv 18 (.t 3)),.gd 16 false (some 19) (.ix 19 (.t 17) (.t 18)),.gd 16 false (some 20) (.bin 20 .eql (.t 19) (.c (U8 39))),.pick 21 (.t 16) (.c (B true)) (.t 20),.mv 22 (.t 21),.gd 22 false (some 23) (.mv 23 (.t 0)),.gd 22 false (some 24) (.mv 24 (.t 3)),.gd 22 false (some 25) (.ix 25 (.t 23) (.t 24)),.gd 22 false (some 26) (.bin 26 .eql (.t 25) (.c (U8 34))),.pick 27 (.t 22) (.c (B true)) (.t 26)]) (.keep [0,3,27] (.cond (.t 27) (.seq (.reg [.mv 2 (.c (B false))]) (.keep [2] .ret)) .skip)))) (.keep [0,3] (.reg [.mv 8 (.t 3),.bin 9 .add (.t 8) (.c (I 1)),.mv 3 (.t 9)])))))
def Yw:Lp:=⟨[0,3],[(1,0)],Qq⟩
@[go_sem] theorem qrY:Yw.ls=[0,3]:=rfl
@[go_sem] theorem qrX:Yw.ks=[(1,0)]:=rfl
@[go_sem] theorem qrW:Yw.body=Qq:=rfl
def Q3:AF where
 nargs:=1
 ntmps:=31
 res:=[.tmp 2]
 body:=(.seq (.reg [.mv 2 (.c (B false))]) (.seq (.seq (.reg [.mv 3 (.c (I 0))]) (.block 0 (lpC Yw))) (.keep [0] (.seq (.reg [.mv 28 (.t 0),.slen 29 (.t 28),.call (some 30) (.c (Fc jf)) [(.t 29),(.c (I 1)),(.c (I 20))] (.ro false),.mv 2 (.t 30)]) (.keep [2] .ret)))))
def Qf:AF where
 nargs:=1
 ntmps:=9
 res:=[.tmp 2]
 body:=(.seq (.reg [.mv 2 (.c (B false))]) (.seq (.reg [.mv 3 (.t 0),.bin 4 .geq (.t 3) (.c (U8 97)),.mv 5 (.t 4),.gd 5 true (some 6) (.mv 6 (.t 0)),.gd 5 true (some 7) (.bin 7 .leq (.t 6) (.c (U8 122))),.pick 8 (.t 5) (.t 7) (.c (B false)),.mv 2 (.t 8)]) (.keep [2] .ret)))
def Yf:AF where
 nargs:=3
 ntmps:=15
 res:=[.tmp 6]
 body:=(.seq (.reg [.mv 6 (.c (B false))]) (.seq (.reg [.mv 7 (.t 0),.mv 8 (.t 1),.bin 9 .geq (.t 7) (.t 8),.mv 10 (.t 9),.gd 10 true (some 11) (.mv 11 (.t 0)),.gd 10 true (some 12) (.mv 12 (.t 2)),.gd 10 true (some 13) (.bin 13 .leq (.t 11) (.t 12)),.pick 14 (.t 10) (.t 13) (.c (B false)),.mv 6 (.t 14)]) (.keep [6] .ret)))
def Z7:AF where
 nargs:=1
 ntmps:=5
 res:=[.cell 2 true 4]
 body:=(.seq (.reg [.new 2 (.c (.a [(I 0),(S []),(I 0),(.n 4)]))]) (.seq (.reg [.mv 3 (.t 0),.build 4 (.a [(I 0),(S []),(I 0),(.n 4)]) [(0,1,(.c (I 1))),(2,1,(.t 3))],.st 4 (.t 2) (.t 4)]) (.keep [2] .ret)))
def qaA:Nat→Option AE
 |3=>some (.fn jL)
 |4=>some (.fn Ya)
 |5=>some (.fn Yd)
 |7=>some (.fn ZW)
 |8=>some (.fn ZU)
 |9=>some (.fn Za)
 |10=>some (.fn ZX)
 |11=>some (.fn Q7)
 |12=>some (.fn Ze)
 |14=>some (.fn Yc)
 |15=>some (.fn Q2)
 |16=>some (.fn QY)
 |17=>some (.fn Z4)
 |18=>some (.fn Yb)
 |19=>some (.fn ZV)
 |20=>some (.fn QZ)
 |21=>some (.fn Z1)
 |22=>some (.fn jK)
 |23=>some (.fn Yh)
 |24=>some (.fn Yj)
 |25=>some (.fn Yi)
 |26=>some (.fn Qg)
 |27=>some (.fn Yn)
 |28=>some (.fn Q9)
 |29=>some (.fn Q8)
 |30=>some (.fn Q0)
 |31=>some (.fn xB)
 |32=>some (.fn Ye)
 |33=>some (.fn Yl)
 |34=>some (.fn Yg)
 |35=>some (.fn kN)
 |36=>some (.fn Yo)
 |37=>some (.fn Z5)
 |38=>some (.fn ZY)
 |39=>some (.fn zV)
 |40=>some (.fn Z8)
 |41=>some (.fn kh)
 |42=>some (.fn Q6)
 |43=>some (.fn Q1)
 |44=>some (.fn Zc)
 |45=>some (.fn Ym)
 |46=>some (.fn Zb)
 |47=>some (.fn kM)
 |48=>some (.fn Qb)
 |49=>some (.fn Qe)
 |50=>some (.fn Z9)
 |51=>some (.fn Qa)
 |52=>some (.fn ZZ)
 |53=>some (.prim KV)
 |54=>some (.fn jd)
 |_=>none
def qcQ:Nat→Option AE
 |55=>some (.fn zI)
 |56=>some (.fn yh)
 |57=>some (.fn Z6)
 |58=>some (.fn zJ)
 |59=>some (.fn Yk)
 |60=>some (.fn Zd)
 |62=>some (.fn jJ)
 |63=>some (.fn Q5)
 |64=>some (.fn Z3)
 |65=>some (.fn Q4)
 |66=>some (.fn Z0)
 |67=>some (.fn Qc)
 |68=>some (.fn Z2)
 |69=>some (.fn Qd)
 |70=>some (.fn Q3)
 |71=>some (.fn Qf)
 |72=>some (.fn Yf)
 |74=>some (.fn Z7)
 |_=>none
def qh(n:Nat):Option AE:=
 match qaA n with
 |some e=>some e
 |none=>
 qcQ n
theorem qn3:qh Yt=some (.fn jL):=rfl
theorem qn4:qh qbf=some (.fn Ya):=rfl
theorem qoa:qh qbi=some (.fn Yd):=rfl
theorem qnx:qh Ju=some (.fn ZW):=rfl
theorem qnu:qh XM=some (.fn ZU):=rfl
theorem qob:qh Yv=some (.fn Za):=rfl
theorem qny:qh Jv=some (.fn ZX):=rfl
theorem qn5:qh XR=some (.fn Q7):=rfl
theorem qha:qh qbs=some (.fn Ze):=rfl
theorem qn7:qh Yu=some (.fn Yc):=rfl
theorem qnJ:qh Qi=some (.fn Q2):=rfl
theorem qnw:qh jN=some (.fn QY):=rfl
theorem qnV:qh JC=some (.fn Z4):=rfl
theorem qn6:qh qbg=some (.fn Yb):=rfl
theorem qnv:qh kQ=some (.fn ZV):=rfl
theorem qnB:qh qa8=some (.fn QZ):=rfl
theorem qnK:qh Jy=some (.fn Z1):=rfl
theorem qg7:qh XP=some (.fn jK):=rfl
theorem qog:qh qbl=some (.fn Yh):=rfl
theorem qoi:qh Qk=some (.fn Yj):=rfl
theorem qoh:qh XS=some (.fn Yi):=rfl
theorem qcK:qh qbo=some (.fn Qg):=rfl
theorem qoo:qh qbt=some (.fn Yn):=rfl
theorem qn9:qh JF=some (.fn Q9):=rfl
theorem qn8:qh qbh=some (.fn Q8):=rfl
theorem qnC:qh qa9=some (.fn Q0):=rfl
theorem K4:qh Qh=some (.fn xB):=rfl
theorem qod:qh jP=some (.fn Ye):=rfl
theorem qol:qh qbp=some (.fn Yl):=rfl
theorem qof:qh qbk=some (.fn Yg):=rfl
theorem qoc:qh JH=some (.fn kN):=rfl
theorem qop:qh qbu=some (.fn Yo):=rfl
theorem qnW:qh Zh=some (.fn Z5):=rfl
theorem qnD:qh Jx=some (.fn ZY):=rfl
theorem qnN:qh qbc=some (.fn zV):=rfl
theorem qn1:qh jf=some (.fn Z8):=rfl
theorem K5:qh zY=some (.fn kh):=rfl
theorem qnS:qh Zg=some (.fn Q6):=rfl
theorem qnF:qh qba=some (.fn Q1):=rfl
theorem qg9:qh Zi=some (.fn Zc):=rfl
theorem qon:qh qbr=some (.fn Ym):=rfl
theorem qg8:qh JG=some (.fn Zb):=rfl
theorem qnH:qh qbb=some (.fn kM):=rfl
theorem qnL:qh XO=some (.fn Qb):=rfl
theorem qnZ:qh JD=some (.fn Qe):=rfl
theorem qn2:qh JE=some (.fn Z9):=rfl
theorem qnI:qh Yr=some (.fn Qa):=rfl
theorem qnE:qh Yp=some (.fn ZZ):=rfl
theorem qnO:qh JA=some (.fn jd):=rfl
theorem kb:qh yW=some (.fn zI):=rfl
theorem qnz:qh Jw=some (.fn yh):=rfl
theorem qnY:qh jO=some (.fn Z6):=rfl
theorem qnX:qh XQ=some (.fn zJ):=rfl
theorem qok:qh qbn=some (.fn Yk):=rfl
theorem qom:qh qbq=some (.fn Zd):=rfl
theorem qnA:qh qa7=some (.fn jJ):=rfl
theorem qnR:qh Zf=some (.fn Q5):=rfl
theorem qnT:qh Qj=some (.fn Z3):=rfl
theorem qnQ:qh je=some (.fn Q4):=rfl
theorem qnG:qh Yq=some (.fn Z0):=rfl
theorem qcJ:qh Ys=some (.fn Qc):=rfl
theorem qnP:qh JB=some (.fn Z2):=rfl
theorem qnU:qh qbd=some (.fn Qd):=rfl
theorem qnM:qh Jz=some (.fn Q3):=rfl
theorem qoj:qh qbm=some (.fn Qf):=rfl
theorem qoe:qh qbj=some (.fn Yf):=rfl
theorem qn0:qh qbe=some (.fn Z7):=rfl
theorem qoq:qh XT=some (.prim KV):=rfl
end Go.Vm
