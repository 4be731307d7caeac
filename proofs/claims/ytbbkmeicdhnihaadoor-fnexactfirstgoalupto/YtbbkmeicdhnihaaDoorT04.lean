import Derived.Test.YtbbkmeicdhnihaaDoorT03
set_option autoImplicit false
set_option maxRecDepth 100000
namespace Go.Vm
abbrev qmB:Nat:=0
abbrev qml:Nat:=1
abbrev qmm:Nat:=2
abbrev XS:Nat:=3
abbrev XV:Nat:=4
abbrev XW:Nat:=5
abbrev Qr:Nat:=6
abbrev Qn:Nat:=7
abbrev yX:Nat:=8
abbrev XT:Nat:=9
abbrev XU:Nat:=10
abbrev jP:Nat:=11
abbrev jO:Nat:=12
abbrev Zt:Nat:=13
abbrev JU:Nat:=14
abbrev Qt:Nat:=15
abbrev Qs:Nat:=16
abbrev Qo:Nat:=17
abbrev Qp:Nat:=18
abbrev JG:Nat:=19
abbrev YH:Nat:=20
abbrev YG:Nat:=21
abbrev qbJ:Nat:=22
abbrev JM:Nat:=23
abbrev JS:Nat:=24
abbrev YM:Nat:=25
abbrev JH:Nat:=26
abbrev JB:Nat:=27
abbrev JC:Nat:=28
abbrev Jz:Nat:=29
abbrev JE:Nat:=30
abbrev JD:Nat:=31
abbrev JF:Nat:=32
abbrev YI:Nat:=33
abbrev JT:Nat:=34
abbrev JQ:Nat:=35
abbrev XY:Nat:=36
abbrev JA:Nat:=37
abbrev YF:Nat:=38
abbrev JI:Nat:=39
abbrev Zs:Nat:=40
abbrev YE:Nat:=41
abbrev JO:Nat:=42
abbrev YL:Nat:=43
abbrev qbK:Nat:=44
abbrev Qq:Nat:=45
abbrev XR:Nat:=46
abbrev JJ:Nat:=47
abbrev YJ:Nat:=48
abbrev YK:Nat:=49
abbrev JN:Nat:=50
abbrev JK:Nat:=51
abbrev qmt:Nat:=52
abbrev JR:Nat:=53
abbrev JL:Nat:=54
abbrev qms:Nat:=55
abbrev Zu:Nat:=56
abbrev XX:Nat:=57
abbrev JP:Nat:=58
abbrev qmA:Nat:=59
abbrev qmz:Nat:=60
abbrev qmv:Nat:=61
abbrev qmw:Nat:=62
abbrev qmy:Nat:=63
abbrev qmC:Nat:=64
abbrev qmu:Nat:=65
abbrev qmx:Nat:=66
abbrev qmD:Nat:=67
abbrev qmE:Nat:=68
abbrev qmF:Nat:=69
abbrev qmK:Nat:=70
abbrev qmL:Nat:=71
abbrev qmO:Nat:=72
abbrev qmP:Nat:=73
abbrev qmQ:Nat:=74
abbrev qmR:Nat:=75
abbrev qmM:Nat:=76
abbrev qmN:Nat:=77
abbrev qmI:Nat:=78
abbrev qmJ:Nat:=79
abbrev qmG:Nat:=80
abbrev qmH:Nat:=81
abbrev qmp:Nat:=82
abbrev qmq:Nat:=83
abbrev qmr:Nat:=84
abbrev qmo:Nat:=85
abbrev qmS:Nat:=86
abbrev qmT:Nat:=87
abbrev qmU:Nat:=88
abbrev qmV:Nat:=89
abbrev qmW:Nat:=90
abbrev qmn:Nat:=91
def Jr:AC:=
 (.keep [12,13] (.seq (.seq (.reg [.mv 130 (.t 13),.mv 131 (.t 12),.bin 132 .neq (.t 130) (.t 131)]) (.cond (.t 132) (.seq (.reg [.mv 2 (.c (B false))]) (.keep [2] .ret)) .skip)) (.keep [] (.seq (.reg [.mv 2 (.c (B true))]) (.keep [2] .ret)))))
def Js:AC:=
 (.keep [9,12,13] (.seq (.seq (.reg [.mv 123 (.t 13),.bin 124 .lss (.t 123) (.c (I 0))]) (.cond (.t 124) (.seq (.reg [.mv 2 (.c (B false))]) (.keep [2] .ret)) .skip)) (.keep [9,12,13] (.seq (.reg [.ld 125 true 4 (.t 9),.mv 126 (.t 13),.call (some 127) (.c (Fc jO)) [(.t 125),(.t 126)] (.ro true),.mv 13 (.t 127)]) (.keep [12,13] (.seq (.seq (.reg [.mv 128 (.t 13),.bin 129 .lss (.t 128) (.c (I 0))]) (.cond (.t 129) (.seq (.reg [.mv 2 (.c (B false))]) (.keep [2] .ret)) .skip)) Jr))))))
def Jt:AC:=
 (.keep [1,4,5,6,8,9,12] (.seq (.reg [.ld 99 true 9 (.t 1),.call (some 100) (.c (Fc Qr)) [(.t 99)] (.ro true),.call (some 101) (.c (Fc Qn)) [(.t 100)] (.ro true),.mv 98 (.t 101),.ext 102 (.t 98) 0,.ext 103 (.t 98) 1,.ext 104 (.t 98) 2,.new 14 (.c (.a [(I 0),(S []),(I 0),(.n 4)])),.new 15 (.c (.a [(I 0),(S []),(I 0),(.n 4)])),.st 4 (.t 14) (.t 102),.st 4 (.t 15) (.t 103),.mv 16 (.t 104)]) (.keep [4,5,6,8,9,12,14,15,16] (.seq (.seq (.reg [.ld 105 true 4 (.t 14),.ld 106 true 4 (.t 4),.call (some 107) (.c (Fc yX)) [(.t 105),(.t 106)] (.ro true),.un 108 .not (.t 107),.mv 109 (.t 108),.gd 109 false (some 110) (.ld 110 true 4 (.t 15)),.gd 109 false (some 111) (.ld 111 true 4 (.t 5)),.gd 109 false (some 112) (.call (some 112) (.c (Fc yX)) [(.t 110),(.t 111)] (.ro true)),.gd 109 false (some 113) (.un 113 .not (.t 112)),.pick 114 (.t 109) (.c (B true)) (.t 113),.mv 115 (.t 114),.gd 115 false (some 116) (.mv 116 (.t 16)),.gd 115 false (some 117) (.mv 117 (.t 6)),.gd 115 false (some 118) (.eqs 118 0 true (.t 116) (.t 117)),.pick 119 (.t 115) (.c (B true)) (.t 118)]) (.keep [8,9,12,119] (.cond (.t 119) (.seq (.reg [.mv 2 (.c (B false))]) (.keep [2] .ret)) .skip))) (.keep [8,9,12] (.seq (.reg [.mv 13 (.c (I 1))]) (.seq (.reg [.ld 120 true 4 (.t 8),.mv 121 (.t 13),.call (some 122) (.c (Fc jO)) [(.t 120),(.t 121)] (.ro true),.mv 13 (.t 122)]) Js)))))))
def Ju:AC:=
 (.keep [1,4,5,6,8,9,12,13] (.seq (.reg [.ld 90 true 4 (.t 9),.mv 91 (.t 13),.call (some 92) (.c (Fc jO)) [(.t 90),(.t 91)] (.ro true),.mv 13 (.t 92)]) (.keep [1,4,5,6,8,9,12,13] (.seq (.seq (.reg [.mv 93 (.t 13),.bin 94 .lss (.t 93) (.c (I 0))]) (.cond (.t 94) (.seq (.reg [.mv 2 (.c (B false))]) (.keep [2] .ret)) .skip)) (.keep [1,4,5,6,8,9,12,13] (.seq (.seq (.reg [.mv 95 (.t 13),.mv 96 (.t 12),.bin 97 .neq (.t 95) (.t 96)]) (.cond (.t 97) (.seq (.reg [.mv 2 (.c (B false))]) (.keep [2] .ret)) .skip)) Jt))))))
def Jv:AC:=
 (.keep [1,4,5,6,8,9,12] (.seq (.reg [.mv 13 (.c (I 1))]) (.seq (.reg [.ld 85 true 4 (.t 8),.mv 86 (.t 13),.call (some 87) (.c (Fc jO)) [(.t 85),(.t 86)] (.ro true),.mv 13 (.t 87)]) (.keep [1,4,5,6,8,9,12,13] (.seq (.seq (.reg [.mv 88 (.t 13),.bin 89 .lss (.t 88) (.c (I 0))]) (.cond (.t 89) (.seq (.reg [.mv 2 (.c (B false))]) (.keep [2] .ret)) .skip)) Ju)))))
def Jw:AC:=
 (.keep [1,4,5,6,8,9] (.seq (.reg [.mv 12 (.c (I 1))]) (.seq (.reg [.ld 79 true 4 (.t 8),.mv 80 (.t 12),.call (some 81) (.c (Fc jP)) [(.t 79),(.t 80)] (.io false),.mv 12 (.t 81)]) (.keep [1,4,5,6,8,9,12] (.seq (.reg [.ld 82 true 4 (.t 9),.mv 83 (.t 12),.call (some 84) (.c (Fc jP)) [(.t 82),(.t 83)] (.io false),.mv 12 (.t 84)]) Jv)))))
def Jx:AC:=
 (.keep [1,4,5,6,7,8,9,10] (.seq (.reg [.mv 11 (.c (I 1))]) (.seq (.reg [.ld 57 true 9 (.t 7),.mv 58 (.t 11),.call (some 59) (.c (Fc XU)) [(.t 57),(.t 58)] (.io false),.mv 11 (.t 59)]) (.keep [1,4,5,6,8,9,10,11] (.seq (.seq (.reg [.mv 60 (.t 11),.bin 61 .lss (.t 60) (.c (I 0)),.mv 62 (.t 61),.gd 62 false (some 63) (.ld 63 true 4 (.t 8)),.gd 62 false (some 64) (.ld 64 true 4 (.t 4)),.gd 62 false (some 65) (.call (some 65) (.c (Fc yX)) [(.t 63),(.t 64)] (.ro true)),.gd 62 false (some 66) (.un 66 .not (.t 65)),.pick 67 (.t 62) (.c (B true)) (.t 66),.mv 68 (.t 67),.gd 68 false (some 69) (.ld 69 true 4 (.t 9)),.gd 68 false (some 70) (.ld 70 true 4 (.t 5)),.gd 68 false (some 71) (.call (some 71) (.c (Fc yX)) [(.t 69),(.t 70)] (.ro true)),.gd 68 false (some 72) (.un 72 .not (.t 71)),.pick 73 (.t 68) (.c (B true)) (.t 72),.mv 74 (.t 73),.gd 74 false (some 75) (.mv 75 (.t 10)),.gd 74 false (some 76) (.mv 76 (.t 6)),.gd 74 false (some 77) (.eqs 77 0 true (.t 75) (.t 76)),.pick 78 (.t 74) (.c (B true)) (.t 77)]) (.keep [1,4,5,6,8,9,78] (.cond (.t 78) (.seq (.reg [.mv 2 (.c (B false))]) (.keep [2] .ret)) .skip))) Jw)))))
def Jy:AC:=
 (.keep [1,4,5,6,7] (.seq (.reg [.ld 32 true 9 (.t 7),.call (some 33) (.c (Fc Qn)) [(.t 32)] (.ro false),.mv 31 (.t 33),.ext 34 (.t 31) 0,.ext 35 (.t 31) 1,.ext 36 (.t 31) 2,.new 8 (.c (.a [(I 0),(S []),(I 0),(.n 4)])),.new 9 (.c (.a [(I 0),(S []),(I 0),(.n 4)])),.st 4 (.t 8) (.t 34),.st 4 (.t 9) (.t 35),.mv 10 (.t 36)]) (.keep [1,4,5,6,7,8,9,10] (.seq (.seq (.reg [.ld 37 true 4 (.t 8),.ld 38 true 4 (.t 4),.call (some 39) (.c (Fc yX)) [(.t 37),(.t 38)] (.ro true),.un 40 .not (.t 39),.mv 41 (.t 40),.gd 41 false (some 42) (.ld 42 true 4 (.t 9)),.gd 41 false (some 43) (.ld 43 true 4 (.t 5)),.gd 41 false (some 44) (.call (some 44) (.c (Fc yX)) [(.t 42),(.t 43)] (.ro true)),.gd 41 false (some 45) (.un 45 .not (.t 44)),.pick 46 (.t 41) (.c (B true)) (.t 45),.mv 47 (.t 46),.gd 47 false (some 48) (.mv 48 (.t 10)),.gd 47 false (some 49) (.mv 49 (.t 6)),.gd 47 false (some 50) (.eqs 50 0 true (.t 48) (.t 49)),.pick 51 (.t 47) (.c (B true)) (.t 50)]) (.keep [1,4,5,6,7,8,9,10,51] (.cond (.t 51) (.seq (.reg [.mv 2 (.c (B false))]) (.keep [2] .ret)) .skip))) (.keep [1,4,5,6,7,8,9,10] (.seq (.seq (.dreg [⟨0,[(7,0)]⟩,⟨0,[(1,0)]⟩,⟨2,[(0,0),(0,1),(0,2),(0,3),(53,0)]⟩,⟨2,[(0,0),(0,1),(0,2),(0,3),(29,0),(30,0),(30,1),(30,2),(30,3),(52,0),(53,0),(54,0),(54,1),(54,2),(54,3)]⟩,⟨0,[]⟩] [.ldq 52 true 9 (.t 7),.ldq 53 true 9 (.t 1),.call (some 54) (.c (Fc Qr)) [(.t 53)] (.ro true),.call (some 55) (.c (Fc XT)) [(.t 52),(.t 54)] (.ro true),.un 56 .not (.t 55)]) (.keep [1,4,5,6,7,8,9,10,56] (.cond (.t 56) (.seq (.reg [.mv 2 (.c (B false))]) (.keep [2] .ret)) .skip))) Jx))))))
def XP:AC:=
 (.keep [1,3] (.seq (.seq (.reg [.mv 20 (.t 3),.bin 21 .lss (.t 20) (.c (I 0))]) (.cond (.t 21) (.seq (.reg [.mv 2 (.c (B true))]) (.keep [2] .ret)) .skip)) (.keep [1] (.seq (.reg [.ld 23 true 9 (.t 1),.call (some 24) (.c (Fc Qr)) [(.t 23)] (.ro true),.call (some 25) (.c (Fc XW)) [(.t 24)] (.ro true),.mv 22 (.t 25),.ext 26 (.t 22) 0,.ext 27 (.t 22) 1,.ext 28 (.t 22) 2,.new 4 (.c (.a [(I 0),(S []),(I 0),(.n 4)])),.new 5 (.c (.a [(I 0),(S []),(I 0),(.n 4)])),.st 4 (.t 4) (.t 26),.st 4 (.t 5) (.t 27),.mv 6 (.t 28)]) (.keep [1,4,5,6] (.seq (.reg [.ld 29 true 9 (.t 1),.call (some 30) (.c (Fc Qr)) [(.t 29)] (.ro false),.new 7 (.c (.a [(I 0),(S []),(I 0),(.n 4),(I 0),(S []),(I 0),(.n 4),(S [])])),.st 9 (.t 7) (.t 30)]) Jy))))))
def jI:AF where
 nargs:=1
 ntmps:=133
 res:=[.tmp 2]
 body:=(.seq (.reg [.new 1 (.t 0),.mv 2 (.c (B false))]) (.seq (.reg [.mv 3 (.c (I 1048576))]) (.seq (.reg [.ld 17 true 9 (.t 1),.mv 18 (.t 3),.call (some 19) (.c (Fc XV)) [(.t 17),(.t 18)] (.ro true),.mv 3 (.t 19)]) XP)))
def ji:AF where
 nargs:=2
 ntmps:=25
 res:=[.tmp 4]
 body:=(.seq (.reg [.new 2 (.t 0),.mv 4 (.c (I 0))]) (.seq (.reg [.fa 5 (.t 2) 0,.ld 6 true 4 (.t 5),.mv 7 (.t 1),.call (some 8) (.c (Fc Zt)) [(.t 6),(.t 7)] (.ro false),.mv 1 (.t 8)]) (.keep [1,2] (.seq (.seq (.reg [.mv 9 (.t 1),.bin 10 .lss (.t 9) (.c (I 0))]) (.cond (.t 10) (.seq (.reg [.mv 4 (.c (I (-1)))]) (.keep [4] .ret)) .skip)) (.keep [1,2] (.seq (.reg [.fa 11 (.t 2) 4,.ld 12 true 4 (.t 11),.mv 13 (.t 1),.call (some 14) (.c (Fc Zt)) [(.t 12),(.t 13)] (.ro false),.mv 1 (.t 14)]) (.keep [1,2] (.seq (.seq (.reg [.mv 15 (.t 1),.bin 16 .lss (.t 15) (.c (I 0))]) (.cond (.t 16) (.seq (.reg [.mv 4 (.c (I (-1)))]) (.keep [4] .ret)) .skip)) (.keep [1,2] (.seq (.reg [.mv 17 (.t 1),.fa 18 (.t 2) 8,.ld 19 false 1 (.t 18),.slen 20 (.t 19),.bin 21 .sub (.t 17) (.t 20),.mv 1 (.t 21)]) (.keep [1] (.seq (.seq (.reg [.mv 22 (.t 1),.bin 23 .lss (.t 22) (.c (I 0))]) (.cond (.t 23) (.seq (.reg [.mv 4 (.c (I (-1)))]) (.keep [4] .ret)) .skip)) (.keep [1] (.seq (.reg [.mv 24 (.t 1),.mv 4 (.t 24)]) (.keep [4] .ret)))))))))))))))
def jj:AF where
 nargs:=1
 ntmps:=19
 res:=[.cell 2 true 4,.cell 3 true 4,.tmp 4]
 body:=(.seq (.reg [.new 1 (.t 0),.new 2 (.c (.a [(I 0),(S []),(I 0),(.n 4)])),.new 3 (.c (.a [(I 0),(S []),(I 0),(.n 4)])),.mv 4 (.c (B false))]) (.keep [1,2,3] (.seq (.reg [.ld 9 true 9 (.t 1),.call (some 10) (.c (Fc JU)) [(.t 9)] (.ro false),.mv 8 (.t 10),.ext 11 (.t 8) 0,.ext 12 (.t 8) 1,.ext 13 (.t 8) 2,.new 5 (.c (.a [(I 0),(S []),(I 0),(.n 4)])),.new 6 (.c (.a [(I 0),(S []),(I 0),(.n 4)])),.st 4 (.t 5) (.t 11),.st 4 (.t 6) (.t 12),.mv 7 (.t 13)]) (.keep [2,3,5,6,7] (.seq (.dreg [⟨0,[(5,0)]⟩,⟨2,[(0,0),(0,1),(0,2),(0,3),(9,0),(10,0),(10,1),(10,2),(10,3),(14,0)]⟩,⟨0,[(6,0)]⟩,⟨2,[(0,0),(0,1),(0,2),(0,3),(9,0),(10,0),(10,1),(10,2),(10,3),(16,0)]⟩,⟨0,[]⟩,⟨1,[(2,0)]⟩,⟨1,[(3,0)]⟩,⟨0,[]⟩] [.ldq 14 true 4 (.t 5),.call (some 15) (.c (Fc Qt)) [(.t 14)] (.ro false),.ldq 16 true 4 (.t 6),.call (some 17) (.c (Fc Qt)) [(.t 16)] (.ro false),.mv 18 (.t 7),.st 4 (.t 2) (.t 15),.st 4 (.t 3) (.t 17),.mv 4 (.t 18)]) (.keep [2,3,4] .ret))))))
def Zh:AF where
 nargs:=1
 ntmps:=16
 res:=[.cell 2 true 9]
 body:=(.seq (.reg [.new 1 (.t 0),.new 2 (.c (.a [(I 0),(S []),(I 0),(.n 4),(I 0),(S []),(I 0),(.n 4),(S [])]))]) (.seq (.reg [.new 3 (.c (.a [(I 0),(S []),(I 0),(.n 4),(I 0),(S []),(I 0),(.n 4),(S [])]))]) (.seq (.reg [.fa 4 (.t 1) 0,.ld 5 true 4 (.t 4),.call (some 6) (.c (Fc Qs)) [(.t 5)] (.ro false),.fa 7 (.t 3) 0,.st 4 (.t 7) (.t 6)]) (.keep [1,2,3] (.seq (.reg [.fa 8 (.t 1) 4,.ld 9 true 4 (.t 8),.call (some 10) (.c (Fc Qs)) [(.t 9)] (.ro false),.fa 11 (.t 3) 4,.st 4 (.t 11) (.t 10)]) (.keep [1,2,3] (.seq (.reg [.fa 12 (.t 1) 8,.ld 13 false 1 (.t 12),.fa 14 (.t 3) 8,.st 1 (.t 14) (.t 13)]) (.keep [2,3] (.seq (.reg [.ld 15 true 9 (.t 3),.st 9 (.t 2) (.t 15)]) (.keep [2] .ret))))))))))
def qmh:AF where
 nargs:=1
 ntmps:=28
 res:=[.cell 2 true 4,.cell 3 true 4,.tmp 4]
 body:=(.seq (.reg [.new 1 (.t 0),.new 2 (.c (.a [(I 0),(S []),(I 0),(.n 4)])),.new 3 (.c (.a [(I 0),(S []),(I 0),(.n 4)])),.mv 4 (.c (B false))]) (.keep [1,2,3] (.seq (.reg [.fa 8 (.t 1) 4,.ld 9 true 4 (.t 8),.call (some 10) (.c (Fc Qo)) [(.t 9)] (.ro false),.mv 7 (.t 10),.ext 11 (.t 7) 0,.ext 12 (.t 7) 1,.mv 5 (.t 11),.mv 6 (.t 12)]) (.keep [2,3,5,6] (.seq (.seq (.reg [.mv 13 (.t 6),.un 14 .not (.t 13),.mv 15 (.t 14),.gd 15 false (some 16) (.mv 16 (.t 5)),.gd 15 false (some 17) (.len 17 (.t 16)),.gd 15 false (some 18) (.bin 18 .eql (.t 17) (.c (I 0))),.pick 19 (.t 15) (.c (B true)) (.t 18)]) (.keep [2,3,5,19] (.cond (.t 19) (.seq (.reg [.build 20 (.a [(I 0),(S []),(I 0),(.n 4)]) [],.build 21 (.a [(I 0),(S []),(I 0),(.n 4)]) [],.st 4 (.t 2) (.t 20),.st 4 (.t 3) (.t 21),.mv 4 (.c (B false))]) (.keep [2,3,4] .ret)) .skip))) (.keep [2,3,5] (.seq (.dreg [⟨0,[]⟩,⟨0,[(0,0),(0,1),(0,2),(0,3),(9,0),(10,0),(10,1),(10,2),(10,3)]⟩,⟨0,[(0,0),(0,1),(0,2),(0,3),(1,0),(9,0),(10,0),(10,1),(10,2),(10,3)]⟩,⟨0,[]⟩,⟨0,[(0,0),(0,1),(0,2),(0,3),(9,0),(10,0),(10,1),(10,2),(10,3)]⟩,⟨2,[(0,0),(0,1),(0,2),(0,3),(9,0),(10,0),(10,1),(10,2),(10,3)]⟩,⟨1,[(2,0)]⟩,⟨1,[(3,0)]⟩,⟨0,[]⟩] [.mv 22 (.t 5),.ia 23 4 (.t 22) (.c (I 0)),.ldq 24 true 4 (.t 23),.mv 25 (.t 5),.sl 26 4 (.t 25) (some (.c (I 1))) none,.call (some 27) (.c (Fc Qp)) [(.t 26)] (.ro false),.st 4 (.t 2) (.t 24),.st 4 (.t 3) (.t 27),.mv 4 (.c (B true))]) (.keep [2,3,4] .ret))))))))
def Zb:AF where
 nargs:=2
 ntmps:=26
 res:=[.tmp 4]
 body:=(.seq (.reg [.new 2 (.t 0),.new 3 (.t 1),.mv 4 (.c (B false))]) (.seq (.seq (.reg [.fa 5 (.t 2) 0,.ld 6 false 1 (.t 5),.fa 7 (.t 3) 0,.ld 8 false 1 (.t 7),.bin 9 .neq (.t 6) (.t 8)]) (.keep [2,3,9] (.cond (.t 9) (.seq (.reg [.mv 4 (.c (B false))]) (.keep [4] .ret)) .skip))) (.keep [2,3] (.seq (.seq (.reg [.fa 10 (.t 2) 1,.ld 11 false 1 (.t 10),.fa 12 (.t 3) 1,.ld 13 false 1 (.t 12),.bin 14 .neq (.t 11) (.t 13)]) (.keep [2,3,14] (.cond (.t 14) (.seq (.reg [.mv 4 (.c (B false))]) (.keep [4] .ret)) .skip))) (.keep [2,3] (.seq (.seq (.reg [.fa 15 (.t 2) 2,.ld 16 false 1 (.t 15),.fa 17 (.t 3) 2,.ld 18 false 1 (.t 17),.bin 19 .neq (.t 16) (.t 18)]) (.keep [2,3,19] (.cond (.t 19) (.seq (.reg [.mv 4 (.c (B false))]) (.keep [4] .ret)) .skip))) (.keep [2,3] (.seq (.seq (.reg [.fa 20 (.t 2) 3,.ld 21 false 1 (.t 20),.fa 22 (.t 3) 3,.ld 23 false 1 (.t 22),.call (some 24) (.c (Fc JG)) [(.t 21),(.t 23)] (.ro true),.un 25 .not (.t 24)]) (.keep [25] (.cond (.t 25) (.seq (.reg [.mv 4 (.c (B false))]) (.keep [4] .ret)) .skip))) (.keep [] (.seq (.reg [.mv 4 (.c (B true))]) (.keep [4] .ret)))))))))))
def jh:AF where
 nargs:=2
 ntmps:=22
 res:=[.tmp 4]
 body:=(.seq (.reg [.new 2 (.t 0),.new 3 (.t 1),.mv 4 (.c (B false))]) (.seq (.seq (.reg [.fa 5 (.t 2) 0,.ld 6 true 4 (.t 5),.fa 7 (.t 3) 0,.ld 8 true 4 (.t 7),.call (some 9) (.c (Fc yX)) [(.t 6),(.t 8)] (.ro true),.un 10 .not (.t 9)]) (.keep [2,3,10] (.cond (.t 10) (.seq (.reg [.mv 4 (.c (B false))]) (.keep [4] .ret)) .skip))) (.keep [2,3] (.seq (.seq (.reg [.fa 11 (.t 2) 4,.ld 12 true 4 (.t 11),.fa 13 (.t 3) 4,.ld 14 true 4 (.t 13),.call (some 15) (.c (Fc yX)) [(.t 12),(.t 14)] (.ro true),.un 16 .not (.t 15)]) (.keep [2,3,16] (.cond (.t 16) (.seq (.reg [.mv 4 (.c (B false))]) (.keep [4] .ret)) .skip))) (.keep [2,3] (.seq (.seq (.reg [.fa 17 (.t 2) 8,.ld 18 false 1 (.t 17),.fa 19 (.t 3) 8,.ld 20 false 1 (.t 19),.bin 21 .neq (.t 18) (.t 20)]) (.keep [21] (.cond (.t 21) (.seq (.reg [.mv 4 (.c (B false))]) (.keep [4] .ret)) .skip))) (.keep [] (.seq (.reg [.mv 4 (.c (B true))]) (.keep [4] .ret)))))))))
def Ze:AF where
 nargs:=2
 ntmps:=14
 res:=[.tmp 4]
 body:=(.seq (.reg [.new 2 (.t 0),.mv 4 (.c (I 0))]) (.seq (.reg [.fa 5 (.t 2) 0,.ld 6 true 4 (.t 5),.mv 7 (.t 1),.call (some 8) (.c (Fc jP)) [(.t 6),(.t 7)] (.io false),.mv 1 (.t 8)]) (.keep [1,2] (.seq (.reg [.fa 9 (.t 2) 4,.ld 10 true 4 (.t 9),.mv 11 (.t 1),.call (some 12) (.c (Fc jP)) [(.t 10),(.t 11)] (.io false),.mv 1 (.t 12)]) (.keep [1] (.seq (.reg [.mv 13 (.t 1),.mv 4 (.t 13)]) (.keep [4] .ret)))))))
def Zf:AF where
 nargs:=2
 ntmps:=10
 res:=[.tmp 4]
 body:=(.seq (.reg [.new 2 (.t 0),.mv 4 (.c (I 0))]) (.seq (.reg [.fa 5 (.t 2) 3,.ld 6 false 1 (.t 5),.mv 7 (.t 1),.call (some 8) (.c (Fc YH)) [(.t 6),(.t 7)] (.io false),.mv 1 (.t 8)]) (.keep [1] (.seq (.reg [.mv 9 (.t 1),.mv 4 (.t 9)]) (.keep [4] .ret)))))
def Zc:AF where
 nargs:=2
 ntmps:=12
 res:=[.tmp 4]
 body:=(.seq (.reg [.new 2 (.t 0),.mv 4 (.c (I 0))]) (.seq (.reg [.fa 5 (.t 2) 3,.ld 6 false 1 (.t 5),.mv 7 (.t 1),.call (some 8) (.c (Fc YG)) [(.t 6),(.t 7)] (.ro false),.mv 1 (.t 8)]) (.keep [1] (.seq (.seq (.reg [.mv 9 (.t 1),.bin 10 .lss (.t 9) (.c (I 0))]) (.cond (.t 10) (.seq (.reg [.mv 4 (.c (I (-1)))]) (.keep [4] .ret)) .skip)) (.keep [1] (.seq (.reg [.mv 11 (.t 1),.mv 4 (.t 11)]) (.keep [4] .ret)))))))
def jJ:AF where
 nargs:=2
 ntmps:=19
 res:=[.tmp 4]
 body:=(.seq (.reg [.new 2 (.t 0),.mv 4 (.c (I 0))]) (.seq (.reg [.mv 5 (.t 1),.fa 6 (.t 2) 1,.ld 7 false 1 (.t 6),.slen 8 (.t 7),.bin 9 .sub (.t 5) (.t 8),.mv 1 (.t 9)]) (.keep [1,2] (.seq (.seq (.reg [.mv 10 (.t 1),.bin 11 .lss (.t 10) (.c (I 0))]) (.cond (.t 11) (.seq (.reg [.mv 4 (.c (I (-1)))]) (.keep [4] .ret)) .skip)) (.keep [1,2] (.seq (.reg [.fa 12 (.t 2) 3,.ld 13 false 1 (.t 12),.mv 14 (.t 1),.call (some 15) (.c (Fc qbJ)) [(.t 13),(.t 14)] (.ro false),.mv 1 (.t 15)]) (.keep [1] (.seq (.seq (.reg [.mv 16 (.t 1),.bin 17 .lss (.t 16) (.c (I 0))]) (.cond (.t 17) (.seq (.reg [.mv 4 (.c (I (-1)))]) (.keep [4] .ret)) .skip)) (.keep [1] (.seq (.reg [.mv 18 (.t 1),.mv 4 (.t 18)]) (.keep [4] .ret)))))))))))
def jl:AF where
 nargs:=1
 ntmps:=28
 res:=[.cell 2 true 4,.cell 3 true 4,.tmp 4]
 body:=(.seq (.reg [.new 1 (.t 0),.new 2 (.c (.a [(I 0),(S []),(I 0),(.n 4)])),.new 3 (.c (.a [(I 0),(S []),(I 0),(.n 4)])),.mv 4 (.c (B false))]) (.keep [1,2,3] (.seq (.reg [.fa 8 (.t 1) 4,.ld 9 true 4 (.t 8),.call (some 10) (.c (Fc JM)) [(.t 9)] (.ro true),.mv 7 (.t 10),.ext 11 (.t 7) 0,.ext 12 (.t 7) 1,.mv 5 (.t 11),.mv 6 (.t 12)]) (.keep [2,3,5,6] (.seq (.seq (.reg [.mv 13 (.t 6),.un 14 .not (.t 13),.mv 15 (.t 14),.gd 15 false (some 16) (.mv 16 (.t 5)),.gd 15 false (some 17) (.len 17 (.t 16)),.gd 15 false (some 18) (.bin 18 .eql (.t 17) (.c (I 0))),.pick 19 (.t 15) (.c (B true)) (.t 18)]) (.keep [2,3,5,19] (.cond (.t 19) (.seq (.reg [.build 20 (.a [(I 0),(S []),(I 0),(.n 4)]) [],.build 21 (.a [(I 0),(S []),(I 0),(.n 4)]) [],.st 4 (.t 2) (.t 20),.st 4 (.t 3) (.t 21),.mv 4 (.c (B false))]) (.keep [2,3,4] .ret)) .skip))) (.keep [2,3,5] (.seq (.dreg [⟨0,[]⟩,⟨0,[(0,0),(0,1),(0,2),(0,3),(9,0),(10,0),(10,1),(10,2),(10,3)]⟩,⟨0,[(0,0),(0,1),(0,2),(0,3),(1,0),(9,0),(10,0),(10,1),(10,2),(10,3)]⟩,⟨0,[]⟩,⟨0,[(0,0),(0,1),(0,2),(0,3),(9,0),(10,0),(10,1),(10,2),(10,3)]⟩,⟨2,[(0,0),(0,1),(0,2),(0,3),(9,0),(10,0),(10,1),(10,2),(10,3)]⟩,⟨1,[(2,0)]⟩,⟨1,[(3,0)]⟩,⟨0,[]⟩] [.mv 22 (.t 5),.ia 23 4 (.t 22) (.c (I 0)),.ldq 24 true 4 (.t 23),.mv 25 (.t 5),.sl 26 4 (.t 25) (some (.c (I 1))) none,.call (some 27) (.c (Fc JS)) [(.t 26)] (.ro false),.st 4 (.t 2) (.t 24),.st 4 (.t 3) (.t 27),.mv 4 (.c (B true))]) (.keep [2,3,4] .ret))))))))
def Zq:AF where
 nargs:=1
 ntmps:=8
 res:=[.cell 2 true 4]
 body:=(.seq (.reg [.new 1 (.t 0),.new 2 (.c (.a [(I 0),(S []),(I 0),(.n 4)]))]) (.seq (.reg [.fa 3 (.t 1) 3,.ld 4 false 1 (.t 3),.call (some 5) (.c (Fc YM)) [(.t 4)] (.ro false),.fa 6 (.t 1) 3,.st 1 (.t 6) (.t 5)]) (.keep [1,2] (.seq (.reg [.ld 7 true 4 (.t 1),.st 4 (.t 2) (.t 7)]) (.keep [2] .ret)))))
def Zi:AF where
 nargs:=1
 ntmps:=18
 res:=[.cell 2 true 4]
 body:=(.seq (.reg [.new 1 (.t 0),.new 2 (.c (.a [(I 0),(S []),(I 0),(.n 4)]))]) (.seq (.reg [.new 3 (.c (.a [(I 0),(S []),(I 0),(.n 4)]))]) (.seq (.reg [.fa 4 (.t 1) 0,.ld 5 false 1 (.t 4),.fa 6 (.t 3) 0,.st 1 (.t 6) (.t 5)]) (.keep [1,2,3] (.seq (.reg [.fa 7 (.t 1) 1,.ld 8 false 1 (.t 7),.fa 9 (.t 3) 1,.st 1 (.t 9) (.t 8)]) (.keep [1,2,3] (.seq (.reg [.fa 10 (.t 1) 2,.ld 11 false 1 (.t 10),.fa 12 (.t 3) 2,.st 1 (.t 12) (.t 11)]) (.keep [1,2,3] (.seq (.reg [.fa 13 (.t 1) 3,.ld 14 false 1 (.t 13),.call (some 15) (.c (Fc JH)) [(.t 14)] (.ro false),.fa 16 (.t 3) 3,.st 1 (.t 16) (.t 15)]) (.keep [2,3] (.seq (.reg [.ld 17 true 4 (.t 3),.st 4 (.t 2) (.t 17)]) (.keep [2] .ret))))))))))))
def yW:AF where
 nargs:=1
 ntmps:=60
 res:=[.tmp 2,.tmp 3]
 body:=(.seq (.reg [.new 1 (.t 0),.mv 2 (.c (.n 4)),.mv 3 (.c (B false))]) (.seq (.reg [.ld 9 true 4 (.t 1),.call (some 10) (.c (Fc JB)) [(.t 9)] (.ro true),.mv 4 (.t 10)]) (.seq (.block 0 (.seq (.reg [.ld 12 true 4 (.t 1),.call (some 13) (.c (Fc JC)) [(.t 12)] (.ro true),.un 14 .not (.t 13),.mv 11 (.t 14)]) (.keep [1,4,11] (.cond (.t 11) (.seq (.reg [.mv 2 (.c (.n 4)),.mv 3 (.c (B false))]) (.keep [2,3] .ret)) (.seq (.reg [.mv 16 (.t 4),.bin 17 .eql (.t 16) (.c (S [44,47,50])),.mv 15 (.t 17)]) (.cond (.t 15) (.seq (.reg [.fa 19 (.t 1) 3,.ld 20 false 1 (.t 19),.ia 21 4 (.t 20) (.c (I 0)),.ld 22 true 4 (.t 21),.call (some 23) (.c (Fc Qo)) [(.t 22)] (.ro false),.mv 18 (.t 23),.ext 24 (.t 18) 0,.ext 25 (.t 18) 1,.mv 5 (.t 24),.mv 6 (.t 25)]) (.keep [1,5,6] (.seq (.reg [.fa 27 (.t 1) 3,.ld 28 false 1 (.t 27),.ia 29 4 (.t 28) (.c (I 1)),.ld 30 true 4 (.t 29),.call (some 31) (.c (Fc Qo)) [(.t 30)] (.ro false),.mv 26 (.t 31),.ext 32 (.t 26) 0,.ext 33 (.t 26) 1,.mv 7 (.t 32),.mv 8 (.t 33)]) (.keep [5,6,7,8] (.seq (.seq (.reg [.mv 34 (.t 6),.un 35 .not (.t 34),.mv 36 (.t 35),.gd 36 false (some 37) (.mv 37 (.t 8)),.gd 36 false (some 38) (.un 38 .not (.t 37)),.pick 39 (.t 36) (.c (B true)) (.t 38)]) (.keep [5,7,39] (.cond (.t 39) (.seq (.reg [.mv 2 (.c (.n 4)),.mv 3 (.c (B false))]) (.keep [2,3] .ret)) .skip))) (.keep [5,7] (.seq (.reg [.mv 40 (.t 5),.mv 41 (.t 7),.app 42 4 56 (.t 40) (.t 41),.mv 2 (.t 42),.mv 3 (.c (B true))]) (.keep [2,3] .ret)))))))) (.seq (.reg [.mv 44 (.t 4),.bin 45 .eql (.t 44) (.c (S [116,114,117,101,47,48])),.mv 43 (.t 45)]) (.cond (.t 43) (.seq (.reg [.mv 2 (.c (.n 4)),.mv 3 (.c (B true))]) (.keep [2,3] .ret)) (.seq (.reg [.mv 47 (.t 4),.bin 48 .eql (.t 47) (.c (S [])),.mv 49 (.t 48),.gd 49 false (some 50) (.mv 50 (.t 4)),.gd 49 false (some 51) (.call (some 51) (.c (Fc Jz)) [(.t 50)] (.ro true)),.gd 49 false (some 52) (.mv 52 (.t 51)),.gd 52 true (some 53) (.mv 53 (.t 4)),.gd 52 true (some 54) (.bin 54 .neq (.t 53) (.c (S [61,47,50]))),.gd 49 false (some 55) (.pick 55 (.t 52) (.t 54) (.c (B false))),.pick 56 (.t 49) (.c (B true)) (.t 55),.mv 46 (.t 56)]) (.keep [1,46] (.cond (.t 46) (.seq (.reg [.mv 2 (.c (.n 4)),.mv 3 (.c (B false))]) (.keep [2,3] .ret)) .skip))))))))))) (.keep [1] (.seq (.reg [.ld 57 true 4 (.t 1),.call (some 58) (.c (Fc JE)) [(.t 57)] (.ro false),.mks 59 4 [(.t 58)],.mv 2 (.t 59),.mv 3 (.c (B true))]) (.keep [2,3] .ret))))))
def ZD:AC:=(.seq (.seq (.reg [.mv 18 (.t 4),.bin 19 .geq (.t 18) (.c (I 0))]) (.cond (.t 19) .skip (.keep [2,3] (.exit 0)))) (.keep [0,2,3,4] (.seq (.block 1 (.dreg [⟨0,[]⟩,⟨0,[]⟩,⟨0,[(0,0),(0,1),(0,2),(0,3),(100000,0),(100000,1),(100000,2),(100000,3),(100000,4),(100000,5)]⟩,⟨0,[(0,0),(0,1),(0,2),(0,3),(100000,0),(100000,1),(100000,2),(100000,3),(100000,4),(100000,5)]⟩,⟨0,[(3,0),(100000,0),(100000,1),(100000,2),(100000,3),(100000,4),(100000,5)]⟩,⟨1,[]⟩,⟨1,[(0,0),(0,1),(0,2),(0,3),(14,0),(25,0),(26,0),(27,0),(100000,0),(100000,1),(100000,2),(100000,3),(100000,4),(100000,5)]⟩,⟨1,[(3,0),(100000,0),(100000,1),(100000,2),(100000,3),(100000,4),(100000,5)]⟩] [.mv 22 (.t 0),.mv 23 (.t 4),.ia 24 4 (.t 22) (.t 23),.ldq 25 true 4 (.t 24),.ldq 26 true 4 (.t 3),.mks 27 4 [(.t 25),(.t 26)],.call (some 28) (.c (Fc JF)) [(.c (S [44])),(.t 27)] (.io false),.st 4 (.t 3) (.t 28)])) (.keep [0,2,3,4] (.reg [.mv 20 (.t 4),.bin 21 .sub (.t 20) (.c (I 1)),.mv 4 (.t 21)])))))
def Qv:Lp:=⟨[0,2,3,4],[(1,0)],ZD⟩
@[go_sem] theorem qm9:Qv.ls=[0,2,3,4]:=rfl
@[go_sem] theorem qm8:Qv.ks=[(1,0)]:=rfl
@[go_sem] theorem qm7:Qv.body=ZD:=rfl
def jH:AF where
 nargs:=1
 ntmps:=30
 res:=[.cell 2 true 4]
 body:=(.seq (.reg [.new 2 (.c (.a [(I 0),(S []),(I 0),(.n 4)]))]) (.seq (.seq (.reg [.mv 5 (.t 0),.len 6 (.t 5),.bin 7 .eql (.t 6) (.c (I 0))]) (.cond (.t 7) (.seq (.reg [.call (some 8) (.c (Fc JD)) [(.c (S [116,114,117,101]))] (.ro false),.st 4 (.t 2) (.t 8)]) (.keep [2] .ret)) .skip)) (.keep [0,2] (.seq (.reg [.mv 9 (.t 0),.mv 10 (.t 0),.len 11 (.t 10),.bin 12 .sub (.t 11) (.c (I 1)),.ia 13 4 (.t 9) (.t 12),.ld 14 true 4 (.t 13),.new 3 (.c (.a [(I 0),(S []),(I 0),(.n 4)])),.st 4 (.t 3) (.t 14)]) (.keep [0,2,3] (.seq (.seq (.reg [.mv 15 (.t 0),.len 16 (.t 15),.bin 17 .sub (.t 16) (.c (I 2)),.mv 4 (.t 17)]) (.keep [0,2,3,4] (.block 0 (lpC Qv)))) (.keep [2,3] (.seq (.reg [.ld 29 true 4 (.t 3),.st 4 (.t 2) (.t 29)]) (.keep [2] .ret)))))))))
def qbP:AC:=(.seq (.seq (.reg [.mv 11 (.t 5),.mv 12 (.t 0),.len 13 (.t 12),.bin 14 .lss (.t 11) (.t 13)]) (.keep [0,1,5,14] (.cond (.t 14) .skip (.keep [] (.exit 0))))) (.keep [0,1,5] (.seq (.block 1 (.seq (.dreg [⟨0,[]⟩,⟨0,[]⟩,⟨0,[(0,0),(0,1),(0,2),(0,3),(100000,0),(100000,1),(100000,2),(100000,3),(100000,4),(100000,5)]⟩,⟨0,[(0,0),(0,1),(0,2),(0,3),(100000,0),(100000,1),(100000,2),(100000,3),(100000,4),(100000,5)]⟩,⟨0,[]⟩,⟨0,[]⟩,⟨0,[(1,0),(1,1),(1,2),(1,3),(100000,0),(100000,1),(100000,2),(100000,3),(100000,4),(100000,5)]⟩,⟨0,[(1,0),(1,1),(1,2),(1,3),(100000,0),(100000,1),(100000,2),(100000,3),(100000,4),(100000,5)]⟩,⟨2,[(0,0),(0,1),(0,2),(0,3),(1,0),(1,1),(1,2),(1,3),(20,0),(24,0),(100000,0),(100000,1),(100000,2),(100000,3),(100000,4),(100000,5)]⟩,⟨0,[]⟩] [.mv 17 (.t 0),.mv 18 (.t 5),.ia 19 4 (.t 17) (.t 18),.ldq 20 true 4 (.t 19),.mv 21 (.t 1),.mv 22 (.t 5),.ia 23 4 (.t 21) (.t 22),.ldq 24 true 4 (.t 23),.call (some 25) (.c (Fc yX)) [(.t 20),(.t 24)] (.ro true),.un 26 .not (.t 25)]) (.keep [0,1,5,26] (.cond (.t 26) (.seq (.reg [.mv 4 (.c (B false))]) (.keep [4] .ret)) .skip)))) (.keep [0,1,5] (.reg [.mv 15 (.t 5),.bin 16 .add (.t 15) (.c (I 1)),.mv 5 (.t 16)])))))
def X2:Lp:=⟨[0,1,5],[(2,0)],qbP⟩
@[go_sem] theorem qnl:X2.ls=[0,1,5]:=rfl
@[go_sem] theorem qnk:X2.ks=[(2,0)]:=rfl
@[go_sem] theorem qnj:X2.body=qbP:=rfl
def XN:AF where
 nargs:=2
 ntmps:=27
 res:=[.tmp 4]
 body:=(.seq (.reg [.mv 4 (.c (B false))]) (.seq (.seq (.reg [.mv 6 (.t 0),.len 7 (.t 6),.mv 8 (.t 1),.len 9 (.t 8),.bin 10 .neq (.t 7) (.t 9)]) (.keep [0,1,10] (.cond (.t 10) (.seq (.reg [.mv 4 (.c (B false))]) (.keep [4] .ret)) .skip))) (.keep [0,1] (.seq (.seq (.reg [.mv 5 (.c (I 0))]) (.block 0 (lpC X2))) (.keep [] (.seq (.reg [.mv 4 (.c (B true))]) (.keep [4] .ret)))))))
def X6:AC:=(.seq (.seq (.reg [.mv 6 (.t 5),.mv 7 (.t 0),.len 8 (.t 7),.bin 9 .lss (.t 6) (.t 8)]) (.keep [0,1,5,9] (.cond (.t 9) .skip (.keep [1] (.exit 0))))) (.keep [0,1,5] (.seq (.block 1 (.seq (.reg [.mv 12 (.t 0),.mv 13 (.t 5),.mv 14 (.t 1),.ia 15 4 (.t 12) (.t 13),.fa 16 (.t 15) 0,.st 1 (.t 16) (.t 14)]) (.keep [0,1,5] (.seq (.reg [.mv 17 (.t 1),.bin 18 .add (.t 17) (.c (I 1)),.mv 1 (.t 18)]) (.seq (.reg [.mv 19 (.t 0),.mv 20 (.t 5),.mv 21 (.t 1),.call (some 22) (.c (Fc YI)) [(.t 21)] (.ro false),.ia 23 4 (.t 19) (.t 20),.fa 24 (.t 23) 1,.st 1 (.t 24) (.t 22)]) (.keep [0,1,5] (.seq (.reg [.mv 25 (.t 1),.bin 26 .add (.t 25) (.c (I 1)),.mv 1 (.t 26)]) (.seq (.reg [.mv 27 (.t 0),.mv 28 (.t 5),.mv 29 (.t 1),.ia 30 4 (.t 27) (.t 28),.fa 31 (.t 30) 2,.st 1 (.t 31) (.t 29)]) (.keep [0,1,5] (.seq (.reg [.mv 32 (.t 1),.bin 33 .add (.t 32) (.c (I 1)),.mv 1 (.t 33)]) (.reg [.mv 34 (.t 0),.mv 35 (.t 5),.ia 36 4 (.t 34) (.t 35),.fa 37 (.t 36) 3,.ld 38 false 1 (.t 37),.mv 39 (.t 1),.call (some 40) (.c (Fc YH)) [(.t 38),(.t 39)] (.io false),.mv 1 (.t 40)]))))))))))) (.keep [0,1,5] (.reg [.mv 10 (.t 5),.bin 11 .add (.t 10) (.c (I 1)),.mv 5 (.t 11)])))))
def YQ:Lp:=⟨[0,1,5],[(2,0)],X6⟩
@[go_sem] theorem qnr:YQ.ls=[0,1,5]:=rfl
@[go_sem] theorem qnq:YQ.ks=[(2,0)]:=rfl
@[go_sem] theorem qnp:YQ.body=X6:=rfl
def Zg:AF where
 nargs:=2
 ntmps:=42
 res:=[.tmp 4]
 body:=(.seq (.reg [.mv 4 (.c (I 0))]) (.seq (.seq (.reg [.mv 5 (.c (I 0))]) (.block 0 (lpC YQ))) (.keep [1] (.seq (.reg [.mv 41 (.t 1),.mv 4 (.t 41)]) (.keep [4] .ret)))))
def X5:AC:=(.seq (.seq (.reg [.mv 6 (.t 5),.mv 7 (.t 0),.len 8 (.t 7),.bin 9 .lss (.t 6) (.t 8)]) (.keep [0,1,5,9] (.cond (.t 9) .skip (.keep [1] (.exit 0))))) (.keep [0,1,5] (.seq (.block 1 (.seq (.seq (.reg [.mv 12 (.t 0),.mv 13 (.t 5),.ia 14 4 (.t 12) (.t 13),.fa 15 (.t 14) 0,.ld 16 false 1 (.t 15),.mv 17 (.t 1),.bin 18 .neq (.t 16) (.t 17)]) (.keep [0,1,5,18] (.cond (.t 18) (.seq (.reg [.mv 4 (.c (I (-1)))]) (.keep [4] .ret)) .skip))) (.keep [0,1,5] (.seq (.reg [.mv 19 (.t 1),.bin 20 .add (.t 19) (.c (I 1)),.mv 1 (.t 20)]) (.seq (.seq (.dreg [⟨0,[]⟩,⟨0,[]⟩,⟨0,[(0,0),(0,1),(0,2),(0,3),(100000,0),(100000,1),(100000,2),(100000,3),(100000,4),(100000,5)]⟩,⟨0,[]⟩,⟨0,[(0,0),(0,1),(0,2),(0,3),(100000,0),(100000,1),(100000,2),(100000,3),(100000,4),(100000,5)]⟩,⟨0,[]⟩,⟨2,[(0,0),(0,1),(0,2),(0,3),(1,0),(1,1),(1,2),(1,3),(44,0),(46,0),(46,1),(46,2),(46,3),(100000,0),(100000,1),(100000,2),(100000,3),(100000,4),(100000,5)]⟩,⟨0,[]⟩] [.mv 21 (.t 0),.mv 22 (.t 5),.ia 23 4 (.t 21) (.t 22),.fa 24 (.t 23) 1,.ldq 25 false 1 (.t 24),.mv 26 (.t 1),.call (some 27) (.c (Fc YI)) [(.t 26)] (.ro true),.bin 28 .neq (.t 25) (.t 27)]) (.keep [0,1,5,28] (.cond (.t 28) (.seq (.reg [.mv 4 (.c (I (-1)))]) (.keep [4] .ret)) .skip))) (.keep [0,1,5] (.seq (.reg [.mv 29 (.t 1),.bin 30 .add (.t 29) (.c (I 1)),.mv 1 (.t 30)]) (.seq (.seq (.reg [.mv 31 (.t 0),.mv 32 (.t 5),.ia 33 4 (.t 31) (.t 32),.fa 34 (.t 33) 2,.ld 35 false 1 (.t 34),.mv 36 (.t 1),.bin 37 .neq (.t 35) (.t 36)]) (.keep [0,1,5,37] (.cond (.t 37) (.seq (.reg [.mv 4 (.c (I (-1)))]) (.keep [4] .ret)) .skip))) (.keep [0,1,5] (.seq (.reg [.mv 38 (.t 1),.bin 39 .add (.t 38) (.c (I 1)),.mv 1 (.t 39)]) (.seq (.reg [.mv 40 (.t 0),.mv 41 (.t 5),.ia 42 4 (.t 40) (.t 41),.fa 43 (.t 42) 3,.ld 44 false 1 (.t 43),.mv 45 (.t 1),.call (some 46) (.c (Fc YG)) [(.t 44),(.t 45)] (.ro false),.mv 1 (.t 46)]) (.keep [0,1,5] (.seq (.reg [.mv 47 (.t 1),.bin 48 .lss (.t 47) (.c (I 0))]) (.cond (.t 48) (.seq (.reg [.mv 4 (.c (I (-1)))]) (.keep [4] .ret)) .skip)))))))))))))) (.keep [0,1,5] (.reg [.mv 10 (.t 5),.bin 11 .add (.t 10) (.c (I 1)),.mv 5 (.t 11)])))))
def YP:Lp:=⟨[0,1,5],[(2,0)],X5⟩
@[go_sem] theorem qno:YP.ls=[0,1,5]:=rfl
@[go_sem] theorem qnn:YP.ks=[(2,0)]:=rfl
@[go_sem] theorem qnm:YP.body=X5:=rfl
def Zd:AF where
 nargs:=2
 ntmps:=50
 res:=[.tmp 4]
 body:=(.seq (.reg [.mv 4 (.c (I 0))]) (.seq (.seq (.reg [.mv 5 (.c (I 0))]) (.block 0 (lpC YP))) (.keep [1] (.seq (.reg [.mv 49 (.t 1),.mv 4 (.t 49)]) (.keep [4] .ret)))))
def qbQ:AC:=(.seq (.seq (.reg [.mv 12 (.t 5),.mv 13 (.t 0),.len 14 (.t 13),.bin 15 .lss (.t 12) (.t 14)]) (.keep [0,1,5,15] (.cond (.t 15) .skip (.keep [1] (.exit 0))))) (.keep [0,1,5] (.seq (.block 1 (.seq (.reg [.mv 18 (.t 0),.mv 19 (.t 5),.ia 20 4 (.t 18) (.t 19),.ld 21 true 4 (.t 20),.mv 22 (.t 1),.call (some 23) (.c (Fc Zt)) [(.t 21),(.t 22)] (.ro false),.mv 1 (.t 23)]) (.keep [0,1,5] (.seq (.reg [.mv 24 (.t 1),.bin 25 .lss (.t 24) (.c (I 0))]) (.cond (.t 25) (.seq (.reg [.mv 4 (.c (I (-1)))]) (.keep [4] .ret)) .skip))))) (.keep [0,1,5] (.reg [.mv 16 (.t 5),.bin 17 .add (.t 16) (.c (I 1)),.mv 5 (.t 17)])))))
def X3:Lp:=⟨[0,1,5],[(2,0)],qbQ⟩
@[go_sem] theorem qnx:X3.ls=[0,1,5]:=rfl
@[go_sem] theorem qnw:X3.ks=[(2,0)]:=rfl
@[go_sem] theorem qnv:X3.body=qbQ:=rfl
def XO:AF where
 nargs:=2
 ntmps:=27
 res:=[.tmp 4]
 body:=(.seq (.reg [.mv 4 (.c (I 0))]) (.seq (.reg [.mv 6 (.t 1),.mv 7 (.t 0),.len 8 (.t 7),.bin 9 .sub (.t 6) (.t 8),.mv 1 (.t 9)]) (.keep [0,1] (.seq (.seq (.reg [.mv 10 (.t 1),.bin 11 .lss (.t 10) (.c (I 0))]) (.cond (.t 11) (.seq (.reg [.mv 4 (.c (I (-1)))]) (.keep [4] .ret)) .skip)) (.keep [0,1] (.seq (.seq (.reg [.mv 5 (.c (I 0))]) (.block 0 (lpC X3))) (.keep [1] (.seq (.reg [.mv 26 (.t 1),.mv 4 (.t 26)]) (.keep [4] .ret)))))))))
def Zl:AF where
 nargs:=1
 ntmps:=14
 res:=[.tmp 2,.tmp 3]
 body:=(.seq (.reg [.new 1 (.t 0),.mv 2 (.c (.n 4)),.mv 3 (.c (B false))]) (.seq (.reg [.ld 7 true 4 (.t 1),.call (some 8) (.c (Fc JT)) [(.t 7)] (.ro false),.mv 6 (.t 8),.ext 9 (.t 6) 0,.ext 10 (.t 6) 1,.mv 4 (.t 9),.mv 5 (.t 10)]) (.keep [4,5] (.seq (.reg [.mv 11 (.t 4),.call (some 12) (.c (Fc YM)) [(.t 11)] (.ro false),.mv 13 (.t 5),.mv 2 (.t 12),.mv 3 (.t 13)]) (.keep [2,3] .ret)))))
def ZF:AC:=(.seq (.seq (.reg [.mv 18 (.t 4),.bin 19 .geq (.t 18) (.c (I 0))]) (.cond (.t 19) .skip (.keep [2,3] (.exit 0)))) (.keep [0,2,3,4] (.seq (.block 1 (.dreg [⟨0,[]⟩,⟨0,[]⟩,⟨0,[(0,0),(0,1),(0,2),(0,3),(100000,0),(100000,1),(100000,2),(100000,3),(100000,4),(100000,5)]⟩,⟨0,[(0,0),(0,1),(0,2),(0,3),(100000,0),(100000,1),(100000,2),(100000,3),(100000,4),(100000,5)]⟩,⟨0,[(3,0),(100000,0),(100000,1),(100000,2),(100000,3),(100000,4),(100000,5)]⟩,⟨1,[(0,0),(0,1),(0,2),(0,3),(14,0),(25,0),(26,0),(100000,0),(100000,1),(100000,2),(100000,3),(100000,4),(100000,5)]⟩,⟨1,[(3,0),(100000,0),(100000,1),(100000,2),(100000,3),(100000,4),(100000,5)]⟩] [.mv 22 (.t 0),.mv 23 (.t 4),.ia 24 4 (.t 22) (.t 23),.ldq 25 true 4 (.t 24),.ldq 26 true 4 (.t 3),.call (some 27) (.c (Fc XY)) [(.c (S [44])),(.t 25),(.t 26)] (.io false),.st 4 (.t 3) (.t 27)])) (.keep [0,2,3,4] (.reg [.mv 20 (.t 4),.bin 21 .sub (.t 20) (.c (I 1)),.mv 4 (.t 21)])))))
def Qw:Lp:=⟨[0,2,3,4],[(1,0)],ZF⟩
@[go_sem] theorem qnS:Qw.ls=[0,2,3,4]:=rfl
@[go_sem] theorem qnR:Qw.ks=[(1,0)]:=rfl
@[go_sem] theorem qnQ:Qw.body=ZF:=rfl
def jM:AF where
 nargs:=1
 ntmps:=29
 res:=[.cell 2 true 4]
 body:=(.seq (.reg [.new 2 (.c (.a [(I 0),(S []),(I 0),(.n 4)]))]) (.seq (.seq (.reg [.mv 5 (.t 0),.len 6 (.t 5),.bin 7 .eql (.t 6) (.c (I 0))]) (.cond (.t 7) (.seq (.reg [.call (some 8) (.c (Fc JQ)) [(.c (S [116,114,117,101]))] (.ro false),.st 4 (.t 2) (.t 8)]) (.keep [2] .ret)) .skip)) (.keep [0,2] (.seq (.reg [.mv 9 (.t 0),.mv 10 (.t 0),.len 11 (.t 10),.bin 12 .sub (.t 11) (.c (I 1)),.ia 13 4 (.t 9) (.t 12),.ld 14 true 4 (.t 13),.new 3 (.c (.a [(I 0),(S []),(I 0),(.n 4)])),.st 4 (.t 3) (.t 14)]) (.keep [0,2,3] (.seq (.seq (.reg [.mv 15 (.t 0),.len 16 (.t 15),.bin 17 .sub (.t 16) (.c (I 2)),.mv 4 (.t 17)]) (.keep [0,2,3,4] (.block 0 (lpC Qw)))) (.keep [2,3] (.seq (.reg [.ld 28 true 4 (.t 3),.st 4 (.t 2) (.t 28)]) (.keep [2] .ret)))))))))
def X8:AC:=(.seq (.seq (.reg [.mv 6 (.t 4),.mv 7 (.t 0),.len 8 (.t 7),.bin 9 .lss (.t 6) (.t 8)]) (.keep [0,3,4,9] (.cond (.t 9) .skip (.keep [3] (.exit 0))))) (.keep [0,3,4] (.seq (.block 1 (.reg [.mv 12 (.t 3),.mv 13 (.t 0),.mv 14 (.t 4),.ia 15 4 (.t 13) (.t 14),.ld 16 true 4 (.t 15),.call (some 17) (.c (Fc Qt)) [(.t 16)] (.ro false),.mks 18 4 [(.t 17)],.app 19 4 56 (.t 12) (.t 18),.mv 3 (.t 19)])) (.keep [0,3,4] (.reg [.mv 10 (.t 4),.bin 11 .add (.t 10) (.c (I 1)),.mv 4 (.t 11)])))))
def YU:Lp:=⟨[0,3,4],[(1,0)],X8⟩
@[go_sem] theorem qnV:YU.ls=[0,3,4]:=rfl
@[go_sem] theorem qnU:YU.ks=[(1,0)]:=rfl
@[go_sem] theorem qnT:YU.body=X8:=rfl
def Zr:AF where
 nargs:=1
 ntmps:=21
 res:=[.tmp 2]
 body:=(.seq (.reg [.mv 2 (.c (.n 4))]) (.seq (.reg [.mks 5 4 [],.mv 3 (.t 5)]) (.seq (.seq (.reg [.mv 4 (.c (I 0))]) (.block 0 (lpC YU))) (.keep [3] (.seq (.reg [.mv 20 (.t 3),.mv 2 (.t 20)]) (.keep [2] .ret))))))
def X7:AC:=(.seq (.seq (.reg [.mv 8 (.t 4),.mv 9 (.t 0),.len 10 (.t 9),.bin 11 .lss (.t 8) (.t 10)]) (.keep [0,3,4,11] (.cond (.t 11) .skip (.keep [3] (.exit 0))))) (.keep [0,3,4] (.seq (.block 1 (.reg [.mv 14 (.t 3),.mv 15 (.t 4),.mv 16 (.t 0),.mv 17 (.t 4),.ia 18 4 (.t 16) (.t 17),.ld 19 true 4 (.t 18),.call (some 20) (.c (Fc Qs)) [(.t 19)] (.ro false),.ia 21 4 (.t 14) (.t 15),.st 4 (.t 21) (.t 20)])) (.keep [0,3,4] (.reg [.mv 12 (.t 4),.bin 13 .add (.t 12) (.c (I 1)),.mv 4 (.t 13)])))))
def YS:Lp:=⟨[0,3,4],[(1,0)],X7⟩
@[go_sem] theorem qnA:YS.ls=[0,3,4]:=rfl
@[go_sem] theorem qnz:YS.ks=[(1,0)]:=rfl
@[go_sem] theorem qny:YS.body=X7:=rfl
def Zj:AF where
 nargs:=1
 ntmps:=23
 res:=[.tmp 2]
 body:=(.seq (.reg [.mv 2 (.c (.n 4))]) (.seq (.reg [.mv 5 (.t 0),.len 6 (.t 5),.mk 7 4 (.a [(I 0),(S []),(I 0),(.n 4)]) 56 (.t 6) (.t 6),.mv 3 (.t 7)]) (.keep [0,3] (.seq (.seq (.reg [.mv 4 (.c (I 0))]) (.block 0 (lpC YS))) (.keep [3] (.seq (.reg [.mv 22 (.t 3),.mv 2 (.t 22)]) (.keep [2] .ret)))))))
def jG:AF where
 nargs:=1
 ntmps:=19
 res:=[.tmp 2]
 body:=(.seq (.reg [.new 1 (.t 0),.mv 2 (.c (S []))]) (.seq (.seq (.reg [.fa 3 (.t 1) 0,.ld 4 false 1 (.t 3),.bin 5 .neq (.t 4) (.c (I 2)),.mv 6 (.t 5),.gd 6 true (some 7) (.fa 7 (.t 1) 0),.gd 6 true (some 8) (.ld 8 false 1 (.t 7)),.gd 6 true (some 9) (.bin 9 .neq (.t 8) (.c (I 4))),.pick 10 (.t 6) (.t 9) (.c (B false))]) (.keep [1,10] (.cond (.t 10) (.seq (.reg [.mv 2 (.c (S []))]) (.keep [2] .ret)) .skip))) (.keep [1] (.seq (.dreg [⟨0,[]⟩,⟨0,[(1,0)]⟩,⟨0,[]⟩,⟨0,[]⟩,⟨0,[(1,0)]⟩,⟨0,[(0,0),(0,1),(0,2),(0,3),(15,0)]⟩,⟨2,[(0,0),(0,1),(0,2),(0,3),(15,0)]⟩,⟨0,[]⟩,⟨0,[]⟩] [.fa 11 (.t 1) 1,.ldq 12 false 1 (.t 11),.bin 13 .add (.t 12) (.c (S [47])),.fa 14 (.t 1) 3,.ldq 15 false 1 (.t 14),.len 16 (.t 15),.call (some 17) (.c (Fc JA)) [(.t 16)] (.ro false),.bin 18 .add (.t 13) (.t 17),.mv 2 (.t 18)]) (.keep [2] .ret)))))
def Qf:AF where
 nargs:=1
 ntmps:=6
 res:=[.tmp 2]
 body:=(.seq (.reg [.new 1 (.t 0),.mv 2 (.c (B false))]) (.seq (.reg [.ld 3 true 4 (.t 1),.call (some 4) (.c (Fc YF)) [(.t 3),(.c (I 1))] (.ro false),.bin 5 .leq (.t 4) (.c (I 400)),.mv 2 (.t 5)]) (.keep [2] .ret)))
def Q4:AF where
 nargs:=1
 ntmps:=8
 res:=[.tmp 2]
 body:=(.seq (.reg [.mv 2 (.c (B false))]) (.seq (.reg [.mks 4 1 [(.c (S [116,114,117,101,47,48])),(.c (S [102,97,105,108,47,48])),(.c (S [33,47,48])),(.c (S [44,47,50])),(.c (S [59,47,50])),(.c (S [45,62,47,50])),(.c (S [92,43,47,49])),(.c (S [99,97,108,108,47,49])),(.c (S [99,97,108,108,47,50])),(.c (S [99,97,108,108,47,51])),(.c (S [99,97,116,99,104,47,51])),(.c (S [116,104,114,111,119,47,49])),(.c (S [61,47,50])),(.c (S [92,61,47,50])),(.c (S [61,61,47,50])),(.c (S [105,115,47,50])),(.c (S [60,47,50])),(.c (S [61,58,61,47,50])),(.c (S [118,97,114,47,49])),(.c (S [97,116,111,109,47,49])),(.c (S [119,114,105,116,101,47,49])),(.c (S [97,115,115,101,114,116,122,47,49])),(.c (S [114,101,116,114,97,99,116,47,49])),(.c (S [58,45,47,50])),(.c (S [58,45,47,49])),(.c (S [45,45,62,47,50]))],.mv 3 (.t 4)]) (.seq (.reg [.mv 5 (.t 3),.mv 6 (.t 0),.call (some 7) (.c (Fc JI)) [(.t 5),(.t 6)] (.ro false),.mv 2 (.t 7)]) (.keep [2] .ret))))
def Q7:AF where
 nargs:=1
 ntmps:=5
 res:=[.cell 2 true 4]
 body:=(.seq (.reg [.new 1 (.t 0),.new 2 (.c (.a [(I 0),(S []),(I 0),(.n 4)]))]) (.seq (.reg [.ld 3 true 4 (.t 1),.call (some 4) (.c (Fc Zs)) [(.t 3),(.c (Fc YE))] (.ro false),.st 4 (.t 2) (.t 4)]) (.keep [2] .ret)))
def Q6:AF where
 nargs:=1
 ntmps:=5
 res:=[.cell 2 true 4]
 body:=(.seq (.reg [.new 2 (.c (.a [(I 0),(S []),(I 0),(.n 4)]))]) (.seq (.reg [.mv 3 (.t 0),.build 4 (.a [(I 0),(S []),(I 0),(.n 4)]) [(0,1,(.c (I 2))),(1,1,(.t 3))],.st 4 (.t 2) (.t 4)]) (.keep [2] .ret)))
def Q9:AF where
 nargs:=2
 ntmps:=8
 res:=[.cell 4 true 4]
 body:=(.seq (.reg [.new 4 (.c (.a [(I 0),(S []),(I 0),(.n 4)]))]) (.seq (.reg [.mv 5 (.t 0),.mv 6 (.t 1),.build 7 (.a [(I 0),(S []),(I 0),(.n 4)]) [(0,1,(.c (I 4))),(1,1,(.t 5)),(3,1,(.t 6))],.st 4 (.t 4) (.t 7)]) (.keep [4] .ret)))
def YW:AC:=(.seq (.seq (.reg [.mv 6 (.t 0),.bin 7 .gtr (.t 6) (.c (I 0))]) (.cond (.t 7) .skip (.keep [3] (.exit 0)))) (.keep [0,3] (.block 1 (.seq (.reg [.mv 8 (.t 0),.bin 9 .rem (.t 8) (.c (I 10)),.bin 10 .add (.c (I 48)) (.t 9),.int 11 .u8 (.t 10),.mks 12 1 [(.t 11)],.str 13 (.t 12),.mv 14 (.t 3),.bin 15 .add (.t 13) (.t 14),.mv 3 (.t 15)]) (.keep [0,3] (.reg [.mv 16 (.t 0),.bin 17 .quo (.t 16) (.c (I 10)),.mv 0 (.t 17)]))))))
def YR:Lp:=⟨[0,3],[(1,0)],YW⟩
@[go_sem] theorem qnu:YR.ls=[0,3]:=rfl
@[go_sem] theorem qnt:YR.ks=[(1,0)]:=rfl
@[go_sem] theorem qns:YR.body=YW:=rfl
def Qi:AF where
 nargs:=1
 ntmps:=20
 res:=[.tmp 2]
 body:=(.seq (.reg [.mv 2 (.c (S []))]) (.seq (.seq (.reg [.mv 4 (.t 0),.bin 5 .leq (.t 4) (.c (I 0))]) (.cond (.t 5) (.seq (.reg [.mv 2 (.c (S [109,48]))]) (.keep [2] .ret)) .skip)) (.keep [0] (.seq (.reg [.mv 3 (.c (S []))]) (.seq (.block 0 (lpC YR)) (.keep [3] (.seq (.reg [.mv 18 (.t 3),.bin 19 .add (.c (S [109])) (.t 18),.mv 2 (.t 19)]) (.keep [2] .ret))))))))
def jN:AF where
 nargs:=1
 ntmps:=20
 res:=[.tmp 2,.tmp 3]
 body:=(.seq (.reg [.new 1 (.t 0),.mv 2 (.c (.n 4)),.mv 3 (.c (B false))]) (.seq (.seq (.reg [.ld 6 true 4 (.t 1),.call (some 7) (.c (Fc JO)) [(.t 6)] (.ro true),.un 8 .not (.t 7)]) (.cond (.t 8) (.seq (.reg [.mks 9 4 [],.mv 2 (.t 9),.mv 3 (.c (B false))]) (.keep [2,3] .ret)) .skip)) (.keep [1] (.seq (.reg [.ld 11 true 4 (.t 1),.mks 12 4 [],.call (some 13) (.c (Fc YL)) [(.t 11),(.t 12)] (.io false),.mv 10 (.t 13),.ext 14 (.t 10) 0,.ext 15 (.t 10) 1,.mv 4 (.t 14),.mv 5 (.t 15)]) (.keep [4,5] (.seq (.seq (.reg [.mv 16 (.t 5),.un 17 .not (.t 16)]) (.cond (.t 17) (.seq (.reg [.mks 18 4 [],.mv 2 (.t 18),.mv 3 (.c (B false))]) (.keep [2,3] .ret)) .skip)) (.keep [4] (.seq (.reg [.mv 19 (.t 4),.mv 2 (.t 19),.mv 3 (.c (B true))]) (.keep [2,3] .ret)))))))))
def Zo:AF where
 nargs:=1
 ntmps:=5
 res:=[.cell 2 true 4]
 body:=(.seq (.reg [.new 2 (.c (.a [(I 0),(S []),(I 0),(.n 4)]))]) (.seq (.reg [.mv 3 (.t 0),.build 4 (.a [(I 0),(S []),(I 0),(.n 4)]) [(0,1,(.c (I 2))),(1,1,(.t 3))],.st 4 (.t 2) (.t 4)]) (.keep [2] .ret)))
def Qm:AF where
 nargs:=3
 ntmps:=12
 res:=[.cell 6 true 4]
 body:=(.seq (.reg [.new 4 (.t 1),.new 5 (.t 2),.new 6 (.c (.a [(I 0),(S []),(I 0),(.n 4)]))]) (.seq (.reg [.mv 7 (.t 0),.ld 8 true 4 (.t 4),.ld 9 true 4 (.t 5),.mks 10 4 [(.t 8),(.t 9)],.build 11 (.a [(I 0),(S []),(I 0),(.n 4)]) [(0,1,(.c (I 4))),(1,1,(.t 7)),(3,1,(.t 10))],.st 4 (.t 6) (.t 11)]) (.keep [6] .ret)))
def Q5:AF where
 nargs:=1
 ntmps:=5
 res:=[.tmp 2]
 body:=(.seq (.reg [.mv 2 (.c (S []))]) (.seq (.reg [.mv 3 (.t 0),.call (some 4) (.c (Fc qbK)) [(.t 3)] (.ro false),.mv 2 (.t 4)]) (.keep [2] .ret)))
def YV:AC:=(.seq (.reg [.bin 85 .lss (.t 84) (.t 83)]) (.seq (.cond (.t 85) .skip (.keep [5] (.exit 1))) (.keep [1,5,82,83,84] (.seq (.block 2 (.seq (.reg [.ia 86 4 (.t 82) (.t 84),.ld 87 true 4 (.t 86),.new 7 (.c (.a [(I 0),(S []),(I 0),(.n 4)])),.st 4 (.t 7) (.t 87)]) (.keep [1,5,7,82,83,84] (.seq (.reg [.mv 88 (.t 5),.ld 89 true 4 (.t 7),.mv 90 (.t 1),.bin 91 .add (.t 90) (.c (I 1)),.call (some 92) (.c (Fc YF)) [(.t 89),(.t 91)] (.ro false),.bin 93 .add (.t 88) (.t 92),.mv 5 (.t 93)]) (.keep [1,5,82,83,84] (.seq (.reg [.mv 94 (.t 5),.bin 95 .gtr (.t 94) (.c (I 400))]) (.cond (.t 95) (.seq (.reg [.mv 4 (.c (I 401))]) (.keep [4] .ret)) .skip))))))) (.keep [1,5,82,83,84] (.reg [.bin 96 .add (.t 84) (.c (I 1)),.mv 84 (.t 96)]))))))
def kJ:Lp:=⟨[1,5,82,83,84],[(2,0)],YV⟩
@[go_sem] theorem qni:kJ.ls=[1,5,82,83,84]:=rfl
@[go_sem] theorem qnh:kJ.ks=[(2,0)]:=rfl
@[go_sem] theorem qng:kJ.body=YV:=rfl
def zy:AF where
 nargs:=2
 ntmps:=98
 res:=[.tmp 4]
 body:=(.seq (.reg [.new 2 (.t 0),.mv 4 (.c (I 0))]) (.seq (.seq (.reg [.mv 8 (.t 1),.bin 9 .gtr (.t 8) (.c (I 40))]) (.cond (.t 9) (.seq (.reg [.mv 4 (.c (I 401))]) (.keep [4] .ret)) .skip)) (.keep [1,2] (.seq (.seq (.reg [.fa 10 (.t 2) 0,.ld 11 false 1 (.t 10)]) (.block 0 (.seq (.reg [.bin 13 .eql (.t 11) (.c (I 1)),.mv 12 (.t 13)]) (.cond (.t 12) (.seq (.reg [.fa 14 (.t 2) 1,.ld 15 false 1 (.t 14),.bin 16 .neq (.t 15) (.c (S [])),.mv 17 (.t 16),.gd 17 false (some 18) (.fa 18 (.t 2) 2),.gd 17 false (some 19) (.ld 19 false 1 (.t 18)),.gd 17 false (some 20) (.call (some 20) (.c (Fc Qq)) [(.t 19),(.c (I 0)),(.c (I 99999))] (.ro true)),.gd 17 false (some 21) (.un 21 .not (.t 20)),.pick 22 (.t 17) (.c (B true)) (.t 21),.mv 23 (.t 22),.gd 23 false (some 24) (.fa 24 (.t 2) 3),.gd 23 false (some 25) (.ld 25 false 1 (.t 24)),.gd 23 false (some 26) (.len 26 (.t 25)),.gd 23 false (some 27) (.bin 27 .gtr (.t 26) (.c (I 0))),.pick 28 (.t 23) (.c (B true)) (.t 27)]) (.keep [1,2,28] (.cond (.t 28) (.seq (.reg [.mv 4 (.c (I 401))]) (.keep [4] .ret)) .skip))) (.seq (.reg [.bin 30 .eql (.t 11) (.c (I 2)),.mv 29 (.t 30)]) (.cond (.t 29) (.seq (.reg [.fa 31 (.t 2) 1,.ld 32 false 1 (.t 31),.call (some 33) (.c (Fc XR)) [(.t 32)] (.ro true),.un 34 .not (.t 33),.mv 35 (.t 34),.gd 35 false (some 36) (.fa 36 (.t 2) 2),.gd 35 false (some 37) (.ld 37 false 1 (.t 36)),.gd 35 false (some 38) (.bin 38 .neq (.t 37) (.c (I 0))),.pick 39 (.t 35) (.c (B true)) (.t 38),.mv 40 (.t 39),.gd 40 false (some 41) (.fa 41 (.t 2) 3),.gd 40 false (some 42) (.ld 42 false 1 (.t 41)),.gd 40 false (some 43) (.len 43 (.t 42)),.gd 40 false (some 44) (.bin 44 .gtr (.t 43) (.c (I 0))),.pick 45 (.t 40) (.c (B true)) (.t 44)]) (.keep [1,2,45] (.cond (.t 45) (.seq (.reg [.mv 4 (.c (I 401))]) (.keep [4] .ret)) .skip))) (.seq (.reg [.bin 47 .eql (.t 11) (.c (I 3)),.mv 46 (.t 47)]) (.cond (.t 46) (.seq (.reg [.fa 48 (.t 2) 1,.ld 49 false 1 (.t 48),.bin 50 .neq (.t 49) (.c (S [])),.mv 51 (.t 50),.gd 51 false (some 52) (.fa 52 (.t 2) 2),.gd 51 false (some 53) (.ld 53 false 1 (.t 52)),.gd 51 false (some 54) (.call (some 54) (.c (Fc Qq)) [(.t 53),(.c (I (-999999999))),(.c (I 999999999))] (.ro true)),.gd 51 false (some 55) (.un 55 .not (.t 54)),.pick 56 (.t 51) (.c (B true)) (.t 55),.mv 57 (.t 56),.gd 57 false (some 58) (.fa 58 (.t 2) 3),.gd 57 false (some 59) (.ld 59 false 1 (.t 58)),.gd 57 false (some 60) (.len 60 (.t 59)),.gd 57 false (some 61) (.bin 61 .gtr (.t 60) (.c (I 0))),.pick 62 (.t 57) (.c (B true)) (.t 61)]) (.keep [1,2,62] (.cond (.t 62) (.seq (.reg [.mv 4 (.c (I 401))]) (.keep [4] .ret)) .skip))) (.seq (.reg [.bin 64 .eql (.t 11) (.c (I 4)),.mv 63 (.t 64)]) (.cond (.t 63) (.seq (.reg [.fa 65 (.t 2) 1,.ld 66 false 1 (.t 65),.call (some 67) (.c (Fc XR)) [(.t 66)] (.ro true),.un 68 .not (.t 67),.mv 69 (.t 68),.gd 69 false (some 70) (.fa 70 (.t 2) 2),.gd 69 false (some 71) (.ld 71 false 1 (.t 70)),.gd 69 false (some 72) (.bin 72 .neq (.t 71) (.c (I 0))),.pick 73 (.t 69) (.c (B true)) (.t 72),.mv 74 (.t 73),.gd 74 false (some 75) (.fa 75 (.t 2) 3),.gd 74 false (some 76) (.ld 76 false 1 (.t 75)),.gd 74 false (some 77) (.len 77 (.t 76)),.gd 74 false (some 78) (.call (some 78) (.c (Fc Qq)) [(.t 77),(.c (I 1)),(.c (I 5))] (.ro true)),.gd 74 false (some 79) (.un 79 .not (.t 78)),.pick 80 (.t 74) (.c (B true)) (.t 79)]) (.keep [1,2,80] (.cond (.t 80) (.seq (.reg [.mv 4 (.c (I 401))]) (.keep [4] .ret)) .skip))) (.seq (.reg [.mv 4 (.c (I 401))]) (.keep [4] .ret)))))))))))) (.keep [1,2] (.seq (.reg [.mv 5 (.c (I 1))]) (.seq (.seq (.reg [.fa 81 (.t 2) 3,.ld 82 false 1 (.t 81),.len 83 (.t 82),.mv 84 (.c (I 0))]) (.keep [1,5,82,83,84] (.block 1 (lpC kJ)))) (.keep [5] (.seq (.reg [.mv 97 (.t 5),.mv 4 (.t 97)]) (.keep [4] .ret))))))))))
def Zk:AF where
 nargs:=2
 ntmps:=9
 res:=[.tmp 4]
 body:=(.seq (.reg [.mv 4 (.c (B false))]) (.seq (.reg [.mv 5 (.t 0),.mv 6 (.t 1),.call (some 7) (.c (Fc JJ)) [(.t 5),(.t 6)] (.ro false),.bin 8 .geq (.t 7) (.c (I 0)),.mv 4 (.t 8)]) (.keep [4] .ret)))
def X4:AC:=(.seq (.reg [.bin 22 .lss (.t 21) (.t 20)]) (.seq (.cond (.t 22) .skip (.keep [4,5] (.exit 0))) (.keep [1,4,5,19,20,21] (.seq (.block 1 (.seq (.reg [.ia 23 4 (.t 19) (.t 21),.ld 24 true 4 (.t 23),.new 7 (.c (.a [(I 0),(S []),(I 0),(.n 4)])),.st 4 (.t 7) (.t 24)]) (.keep [1,4,5,7,19,20,21] (.dreg [⟨0,[]⟩,⟨0,[(5,0),(100000,0),(100000,1),(100000,2),(100000,3),(100000,4),(100000,5)]⟩,⟨0,[(7,0)]⟩,⟨0,[]⟩,⟨2,[(0,0),(0,1),(0,2),(0,3),(1,0),(1,1),(1,2),(1,3),(19,0),(24,0),(27,0),(100000,0),(100000,1),(100000,2),(100000,3),(100000,4),(100000,5)]⟩,⟨1,[]⟩,⟨1,[(0,0),(0,1),(0,2),(0,3),(1,0),(1,1),(1,2),(1,3),(19,0),(24,0),(27,0),(29,0),(29,1),(29,2),(29,3),(30,0),(500000,0),(100000,0),(100000,1),(100000,2),(100000,3),(100000,4),(100000,5)]⟩,⟨0,[]⟩,⟨1,[(5,0),(100000,0),(100000,1),(100000,2),(100000,3),(100000,4),(100000,5)]⟩] [.fa 25 (.t 5) 3,.ldq 26 false 1 (.t 25),.ldq 27 true 4 (.t 7),.mv 28 (.t 1),.call (some 29) (.c (Fc Zs)) [(.t 27),(.t 28)] (.ro false),.mks 30 4 [(.t 29)],.app 31 4 56 (.t 26) (.t 30),.fa 32 (.t 5) 3,.st 1 (.t 32) (.t 31)])))) (.keep [1,4,5,19,20,21] (.reg [.bin 33 .add (.t 21) (.c (I 1)),.mv 21 (.t 33)]))))))
def Zy:Lp:=⟨[1,4,5,19,20,21],[(2,0)],X4⟩
@[go_sem] theorem qnf:Zy.ls=[1,4,5,19,20,21]:=rfl
@[go_sem] theorem qne:Zy.ks=[(2,0)]:=rfl
@[go_sem] theorem qnd:Zy.body=X4:=rfl
def Qh:AF where
 nargs:=2
 ntmps:=35
 res:=[.cell 4 true 4]
 body:=(.seq (.reg [.new 2 (.t 0),.new 4 (.c (.a [(I 0),(S []),(I 0),(.n 4)]))]) (.seq (.reg [.ld 8 true 4 (.t 2),.new 5 (.c (.a [(I 0),(S []),(I 0),(.n 4)])),.st 4 (.t 5) (.t 8)]) (.seq (.reg [.fa 9 (.t 5) 3,.st 1 (.t 9) (.c (.n 4))]) (.seq (.seq (.reg [.fa 10 (.t 2) 0,.ld 11 false 1 (.t 10),.bin 12 .eql (.t 11) (.c (I 1))]) (.cond (.t 12) (.reg [.mv 13 (.t 1),.fa 14 (.t 2) 2,.ld 15 false 1 (.t 14),.call (some 16) (.t 13) [(.t 15)] (.ro false),.fa 17 (.t 5) 2,.st 1 (.t 17) (.t 16)]) .skip)) (.keep [1,2,4,5] (.seq (.seq (.reg [.fa 18 (.t 2) 3,.ld 19 false 1 (.t 18),.len 20 (.t 19),.mv 21 (.c (I 0))]) (.keep [1,4,5,19,20,21] (.block 0 (lpC Zy)))) (.keep [4,5] (.seq (.reg [.ld 34 true 4 (.t 5),.st 4 (.t 4) (.t 34)]) (.keep [4] .ret)))))))))
def Q8:AF where
 nargs:=1
 ntmps:=4
 res:=[.tmp 2]
 body:=(.seq (.reg [.mv 2 (.c (I 0))]) (.seq (.reg [.mv 3 (.t 0),.mv 2 (.t 3)]) (.keep [2] .ret)))
def Qk:AF where
 nargs:=1
 ntmps:=10
 res:=[.tmp 2]
 body:=(.seq (.reg [.new 1 (.t 0),.mv 2 (.c (B false))]) (.seq (.reg [.ld 3 true 4 (.t 1),.call (some 4) (.c (Fc YJ)) [(.t 3),(.c (I 400))] (.ro false),.bin 5 .geq (.t 4) (.c (I 0)),.mv 6 (.t 5),.gd 6 true (some 7) (.ld 7 true 4 (.t 1)),.gd 6 true (some 8) (.call (some 8) (.c (Fc YK)) [(.t 7),(.c (I 1))] (.ro false)),.pick 9 (.t 6) (.t 8) (.c (B false)),.mv 2 (.t 9)]) (.keep [2] .ret)))
def xN:AF where
 nargs:=2
 ntmps:=56
 res:=[.tmp 4,.tmp 5]
 body:=(.seq (.reg [.new 2 (.t 0),.mv 4 (.c (.n 4)),.mv 5 (.c (B false))]) (.seq (.reg [.ld 9 true 4 (.t 2),.call (some 10) (.c (Fc JN)) [(.t 9)] (.ro true),.mv 6 (.t 10)]) (.seq (.block 0 (.seq (.reg [.mv 12 (.t 6),.bin 13 .eql (.t 12) (.c (S [116,114,117,101,47,48])),.mv 11 (.t 13)]) (.cond (.t 11) (.seq (.reg [.mv 14 (.t 1),.mv 4 (.t 14),.mv 5 (.c (B true))]) (.keep [4,5] .ret)) (.seq (.reg [.mv 16 (.t 6),.bin 17 .eql (.t 16) (.c (S [44,47,50])),.mv 15 (.t 17)]) (.cond (.t 15) (.seq (.reg [.fa 19 (.t 2) 3,.ld 20 false 1 (.t 19),.ia 21 4 (.t 20) (.c (I 0)),.ld 22 true 4 (.t 21),.mv 23 (.t 1),.call (some 24) (.c (Fc YL)) [(.t 22),(.t 23)] (.io false),.mv 18 (.t 24),.ext 25 (.t 18) 0,.ext 26 (.t 18) 1,.mv 7 (.t 25),.mv 8 (.t 26)]) (.keep [2,7,8] (.seq (.seq (.reg [.mv 27 (.t 8),.un 28 .not (.t 27)]) (.cond (.t 28) (.seq (.reg [.mv 29 (.t 7),.mv 4 (.t 29),.mv 5 (.c (B false))]) (.keep [4,5] .ret)) .skip)) (.keep [2,7] (.seq (.reg [.fa 30 (.t 2) 3,.ld 31 false 1 (.t 30),.ia 32 4 (.t 31) (.c (I 1)),.ld 33 true 4 (.t 32),.mv 34 (.t 7),.call (some 35) (.c (Fc YL)) [(.t 33),(.t 34)] (.io false),.ext 36 (.t 35) 0,.ext 37 (.t 35) 1,.mv 4 (.t 36),.mv 5 (.t 37)]) (.keep [4,5] .ret)))))) (.seq (.reg [.mv 39 (.t 6),.bin 40 .eql (.t 39) (.c (S [61,47,50])),.mv 38 (.t 40)]) (.cond (.t 38) (.seq (.reg [.mv 41 (.t 1),.ld 42 true 4 (.t 2),.mks 43 4 [(.t 42)],.app 44 4 56 (.t 41) (.t 43),.mv 4 (.t 44),.mv 5 (.c (B true))]) (.keep [4,5] .ret)) .skip))))))) (.keep [1,2,6] (.seq (.seq (.reg [.mv 45 (.t 6),.bin 46 .eql (.t 45) (.c (S [])),.mv 47 (.t 46),.gd 47 false (some 48) (.mv 48 (.t 6)),.gd 47 false (some 49) (.call (some 49) (.c (Fc JK)) [(.t 48)] (.ro true)),.pick 50 (.t 47) (.c (B true)) (.t 49)]) (.keep [1,2,50] (.cond (.t 50) (.seq (.reg [.mv 51 (.t 1),.mv 4 (.t 51),.mv 5 (.c (B false))]) (.keep [4,5] .ret)) .skip))) (.keep [1,2] (.seq (.reg [.mv 52 (.t 1),.ld 53 true 4 (.t 2),.mks 54 4 [(.t 53)],.app 55 4 56 (.t 52) (.t 54),.mv 4 (.t 55),.mv 5 (.c (B true))]) (.keep [4,5] .ret))))))))
def Za:AF where
 nargs:=3
 ntmps:=15
 res:=[.tmp 6]
 body:=(.seq (.reg [.mv 6 (.c (B false))]) (.seq (.reg [.mv 7 (.t 0),.mv 8 (.t 1),.bin 9 .geq (.t 7) (.t 8),.mv 10 (.t 9),.gd 10 true (some 11) (.mv 11 (.t 0)),.gd 10 true (some 12) (.mv 12 (.t 2)),.gd 10 true (some 13) (.bin 13 .leq (.t 11) (.t 12)),.pick 14 (.t 10) (.t 13) (.c (B false)),.mv 6 (.t 14)]) (.keep [6] .ret)))
def jS:AC:=(.seq (.seq (.reg [.mv 4 (.t 3),.mv 5 (.t 0),.slen 6 (.t 5),.bin 7 .lss (.t 4) (.t 6)]) (.keep [0,3,7] (.cond (.t 7) .skip (.keep [0] (.exit 0))))) (.keep [0,3] (.seq (.block 1 (.seq (.reg [.mv 10 (.t 0),.mv 11 (.t 3),.ix 12 (.t 10) (.t 11),.int 13 .i64 (.t 12),.call (some 14) (.c (Fc Qq)) [(.t 13),(.c (I 33)),(.c (I 126))] (.ro true),.un 15 .not (.t 14),.mv 16 (.t 15),.gd 16 false (some 17) (.mv 17 (.t 0)),.gd 16 false (some 18) (.mv 18 (.t 3)),.gd 16 false (some 19) (.ix 19 (.t 17) (.t 18)),.gd 16 false (some 20) (.bin 20 .eql (.t 19) (.c (U8 39))),.pick 21 (.t 16) (.c (B true)) (.t 20),.mv 22 (.t 21),.gd 22 false (some 23) (.mv 23 (.t 0)),.gd 22 false (some 24) (.mv 24 (.t 3)),.gd 22 false (some 25) (.ix 25 (.t 23) (.t 24)),.gd 22 false (some 26) (.bin 26 .eql (.t 25) (.c (U8 34))),.pick 27 (.t 22) (.c (B true)) (.t 26)]) (.keep [0,3,27] (.cond (.t 27) (.seq (.reg [.mv 2 (.c (B false))]) (.keep [2] .ret)) .skip)))) (.keep [0,3] (.reg [.mv 8 (.t 3),.bin 9 .add (.t 8) (.c (I 1)),.mv 3 (.t 9)])))))
def Zx:Lp:=⟨[0,3],[(1,0)],jS⟩
@[go_sem] theorem qnc:Zx.ls=[0,3]:=rfl
@[go_sem] theorem qnb:Zx.ks=[(1,0)]:=rfl
@[go_sem] theorem qna:Zx.body=jS:=rfl
def Qg:AF where
 nargs:=1
 ntmps:=31
 res:=[.tmp 2]
 body:=(.seq (.reg [.mv 2 (.c (B false))]) (.seq (.seq (.reg [.mv 3 (.c (I 0))]) (.block 0 (lpC Zx))) (.keep [0] (.seq (.reg [.mv 28 (.t 0),.slen 29 (.t 28),.call (some 30) (.c (Fc Qq)) [(.t 29),(.c (I 1)),(.c (I 20))] (.ro false),.mv 2 (.t 30)]) (.keep [2] .ret)))))
def YX:AC:=(.seq (.reg [.bin 9 .lss (.t 8) (.t 7)]) (.seq (.cond (.t 9) .skip (.keep [] (.exit 0))) (.keep [0,1,7,8] (.seq (.block 1 (.seq (.reg [.mv 10 (.t 8),.mv 5 (.t 10)]) (.seq (.reg [.mv 11 (.t 1),.mv 12 (.t 0),.mv 13 (.t 5),.ia 14 1 (.t 12) (.t 13),.ld 15 false 1 (.t 14),.bin 16 .eql (.t 11) (.t 15)]) (.keep [0,1,5,7,8,16] (.cond (.t 16) (.seq (.reg [.mv 17 (.t 5),.mv 4 (.t 17)]) (.keep [4] .ret)) .skip))))) (.keep [0,1,7,8] (.reg [.bin 18 .add (.t 8) (.c (I 1)),.mv 8 (.t 18)]))))))
def Zz:Lp:=⟨[0,1,7,8],[(2,0)],YX⟩
@[go_sem] theorem qnD:Zz.ls=[0,1,7,8]:=rfl
@[go_sem] theorem qnC:Zz.ks=[(2,0)]:=rfl
@[go_sem] theorem qnB:Zz.body=YX:=rfl
def Qj:AF where
 nargs:=2
 ntmps:=19
 res:=[.tmp 4]
 body:=(.seq (.reg [.mv 4 (.c (I 0))]) (.seq (.seq (.reg [.mv 6 (.t 0),.len 7 (.t 6),.mv 8 (.c (I 0))]) (.block 0 (lpC Zz))) (.keep [] (.seq (.reg [.mv 4 (.c (I (-1)))]) (.keep [4] .ret)))))
def YY:AC:=(.seq (.seq (.reg [.mv 8 (.t 5),.fa 9 (.t 2) 3,.ld 10 false 1 (.t 9),.len 11 (.t 10),.bin 12 .lss (.t 8) (.t 11),.mv 13 (.t 12),.gd 13 true (some 14) (.mv 14 (.t 1)),.gd 13 true (some 15) (.bin 15 .geq (.t 14) (.c (I 0))),.pick 16 (.t 13) (.t 15) (.c (B false))]) (.keep [1,2,5,16] (.cond (.t 16) .skip (.keep [1] (.exit 0))))) (.keep [1,2,5] (.seq (.block 1 (.reg [.fa 19 (.t 2) 3,.ld 20 false 1 (.t 19),.mv 21 (.t 5),.ia 22 4 (.t 20) (.t 21),.ld 23 true 4 (.t 22),.mv 24 (.t 1),.call (some 25) (.c (Fc YJ)) [(.t 23),(.t 24)] (.ro false),.mv 1 (.t 25)])) (.keep [1,2,5] (.reg [.mv 17 (.t 5),.bin 18 .add (.t 17) (.c (I 1)),.mv 5 (.t 18)])))))
def ZA:Lp:=⟨[1,2,5],[(2,0)],YY⟩
@[go_sem] theorem qnJ:ZA.ls=[1,2,5]:=rfl
@[go_sem] theorem qnI:ZA.ks=[(2,0)]:=rfl
@[go_sem] theorem qnH:ZA.body=YY:=rfl
def Zp:AF where
 nargs:=2
 ntmps:=27
 res:=[.tmp 4]
 body:=(.seq (.reg [.new 2 (.t 0),.mv 4 (.c (I 0))]) (.seq (.reg [.mv 6 (.t 1),.bin 7 .sub (.t 6) (.c (I 1)),.mv 1 (.t 7)]) (.seq (.seq (.reg [.mv 5 (.c (I 0))]) (.block 0 (lpC ZA))) (.keep [1] (.seq (.reg [.mv 26 (.t 1),.mv 4 (.t 26)]) (.keep [4] .ret))))))
def YZ:AC:=(.seq (.seq (.reg [.mv 13 (.t 5),.fa 14 (.t 2) 3,.ld 15 false 1 (.t 14),.len 16 (.t 15),.bin 17 .lss (.t 13) (.t 16)]) (.keep [1,2,5,17] (.cond (.t 17) .skip (.keep [] (.exit 0))))) (.keep [1,2,5] (.seq (.block 1 (.seq (.reg [.fa 20 (.t 2) 3,.ld 21 false 1 (.t 20),.mv 22 (.t 5),.ia 23 4 (.t 21) (.t 22),.ld 24 true 4 (.t 23),.mv 25 (.t 1),.bin 26 .add (.t 25) (.c (I 1)),.call (some 27) (.c (Fc YK)) [(.t 24),(.t 26)] (.ro true),.un 28 .not (.t 27)]) (.keep [1,2,5,28] (.cond (.t 28) (.seq (.reg [.mv 4 (.c (B false))]) (.keep [4] .ret)) .skip)))) (.keep [1,2,5] (.reg [.mv 18 (.t 5),.bin 19 .add (.t 18) (.c (I 1)),.mv 5 (.t 19)])))))
def ZC:Lp:=⟨[1,2,5],[(2,0)],YZ⟩
@[go_sem] theorem qnP:ZC.ls=[1,2,5]:=rfl
@[go_sem] theorem qnO:ZC.ks=[(2,0)]:=rfl
@[go_sem] theorem qnN:ZC.body=YZ:=rfl
def jk:AF where
 nargs:=2
 ntmps:=29
 res:=[.tmp 4]
 body:=(.seq (.reg [.new 2 (.t 0),.mv 4 (.c (B false))]) (.seq (.seq (.reg [.mv 6 (.t 1),.bin 7 .gtr (.t 6) (.c (I 40)),.mv 8 (.t 7),.gd 8 false (some 9) (.ld 9 true 4 (.t 2)),.gd 8 false (some 10) (.call (some 10) (.c (Fc JR)) [(.t 9)] (.ro true)),.gd 8 false (some 11) (.un 11 .not (.t 10)),.pick 12 (.t 8) (.c (B true)) (.t 11)]) (.keep [1,2,12] (.cond (.t 12) (.seq (.reg [.mv 4 (.c (B false))]) (.keep [4] .ret)) .skip))) (.keep [1,2] (.seq (.seq (.reg [.mv 5 (.c (I 0))]) (.block 0 (lpC ZC))) (.keep [] (.seq (.reg [.mv 4 (.c (B true))]) (.keep [4] .ret)))))))
def jL:AF where
 nargs:=1
 ntmps:=19
 res:=[.tmp 2]
 body:=(.seq (.reg [.new 1 (.t 0),.mv 2 (.c (S []))]) (.seq (.seq (.reg [.fa 3 (.t 1) 0,.ld 4 false 1 (.t 3),.bin 5 .neq (.t 4) (.c (I 2)),.mv 6 (.t 5),.gd 6 true (some 7) (.fa 7 (.t 1) 0),.gd 6 true (some 8) (.ld 8 false 1 (.t 7)),.gd 6 true (some 9) (.bin 9 .neq (.t 8) (.c (I 4))),.pick 10 (.t 6) (.t 9) (.c (B false))]) (.keep [1,10] (.cond (.t 10) (.seq (.reg [.mv 2 (.c (S []))]) (.keep [2] .ret)) .skip))) (.keep [1] (.seq (.dreg [⟨0,[]⟩,⟨0,[(1,0)]⟩,⟨0,[]⟩,⟨0,[]⟩,⟨0,[(1,0)]⟩,⟨0,[(0,0),(0,1),(0,2),(0,3),(15,0)]⟩,⟨2,[(0,0),(0,1),(0,2),(0,3),(15,0)]⟩,⟨0,[]⟩,⟨0,[]⟩] [.fa 11 (.t 1) 1,.ldq 12 false 1 (.t 11),.bin 13 .add (.t 12) (.c (S [47])),.fa 14 (.t 1) 3,.ldq 15 false 1 (.t 14),.len 16 (.t 15),.call (some 17) (.c (Fc JL)) [(.t 16)] (.ro false),.bin 18 .add (.t 13) (.t 17),.mv 2 (.t 18)]) (.keep [2] .ret)))))
def zk:AF where
 nargs:=1
 ntmps:=32
 res:=[.tmp 2]
 body:=(.seq (.reg [.mv 2 (.c (B false))]) (.seq (.seq (.reg [.mv 3 (.t 0)]) (.block 0 (.seq (.seq (.reg [.bin 5 .eql (.t 3) (.c (S [116,114,117,101,47,48])),.mv 4 (.t 5)]) (.cond (.t 4) .skip (.seq (.reg [.bin 6 .eql (.t 3) (.c (S [102,97,105,108,47,48])),.mv 4 (.t 6)]) (.cond (.t 4) .skip (.seq (.reg [.bin 7 .eql (.t 3) (.c (S [33,47,48])),.mv 4 (.t 7)]) (.cond (.t 4) .skip (.seq (.reg [.bin 8 .eql (.t 3) (.c (S [44,47,50])),.mv 4 (.t 8)]) (.cond (.t 4) .skip (.seq (.reg [.bin 9 .eql (.t 3) (.c (S [59,47,50])),.mv 4 (.t 9)]) (.cond (.t 4) .skip (.seq (.reg [.bin 10 .eql (.t 3) (.c (S [45,62,47,50])),.mv 4 (.t 10)]) (.cond (.t 4) .skip (.seq (.reg [.bin 11 .eql (.t 3) (.c (S [92,43,47,49])),.mv 4 (.t 11)]) (.cond (.t 4) .skip (.seq (.reg [.bin 12 .eql (.t 3) (.c (S [99,97,108,108,47,49])),.mv 4 (.t 12)]) (.cond (.t 4) .skip (.seq (.reg [.bin 13 .eql (.t 3) (.c (S [99,97,108,108,47,50])),.mv 4 (.t 13)]) (.cond (.t 4) .skip (.seq (.reg [.bin 14 .eql (.t 3) (.c (S [99,97,108,108,47,51])),.mv 4 (.t 14)]) (.cond (.t 4) .skip (.seq (.reg [.bin 15 .eql (.t 3) (.c (S [99,97,116,99,104,47,51])),.mv 4 (.t 15)]) (.cond (.t 4) .skip (.reg [.bin 16 .eql (.t 3) (.c (S [116,104,114,111,119,47,49])),.mv 4 (.t 16)]))))))))))))))))))))))) (.keep [3,4] (.cond (.t 4) (.seq (.reg [.mv 2 (.c (B true))]) (.keep [2] .ret)) (.seq (.seq (.reg [.bin 18 .eql (.t 3) (.c (S [61,47,50])),.mv 17 (.t 18)]) (.cond (.t 17) .skip (.seq (.reg [.bin 19 .eql (.t 3) (.c (S [92,61,47,50])),.mv 17 (.t 19)]) (.cond (.t 17) .skip (.seq (.reg [.bin 20 .eql (.t 3) (.c (S [61,61,47,50])),.mv 17 (.t 20)]) (.cond (.t 17) .skip (.seq (.reg [.bin 21 .eql (.t 3) (.c (S [105,115,47,50])),.mv 17 (.t 21)]) (.cond (.t 17) .skip (.seq (.reg [.bin 22 .eql (.t 3) (.c (S [60,47,50])),.mv 17 (.t 22)]) (.cond (.t 17) .skip (.seq (.reg [.bin 23 .eql (.t 3) (.c (S [61,58,61,47,50])),.mv 17 (.t 23)]) (.cond (.t 17) .skip (.seq (.reg [.bin 24 .eql (.t 3) (.c (S [118,97,114,47,49])),.mv 17 (.t 24)]) (.cond (.t 17) .skip (.seq (.reg [.bin 25 .eql (.t 3) (.c (S [97,116,111,109,47,49])),.mv 17 (.t 25)]) (.cond (.t 17) .skip (.seq (.reg [.bin 26 .eql (.t 3) (.c (S [119,114,105,116,101,47,49])),.mv 17 (.t 26)]) (.cond (.t 17) .skip (.seq (.reg [.bin 27 .eql (.t 3) (.c (S [97,115,115,101,114,116,122,47,49])),.mv 17 (.t 27)]) (.cond (.t 17) .skip (.seq (.reg [.bin 28 .eql (.t 3) (.c (S [114,101,116,114,97,99,116,47,49])),.mv 17 (.t 28)]) (.cond (.t 17) .skip (.seq (.reg [.bin 29 .eql (.t 3) (.c (S [58,45,47,50])),.mv 17 (.t 29)]) (.cond (.t 17) .skip (.seq (.reg [.bin 30 .eql (.t 3) (.c (S [58,45,47,49])),.mv 17 (.t 30)]) (.cond (.t 17) .skip (.reg [.bin 31 .eql (.t 3) (.c (S [45,45,62,47,50])),.mv 17 (.t 31)]))))))))))))))))))))))))))) (.keep [17] (.cond (.t 17) (.seq (.reg [.mv 2 (.c (B true))]) (.keep [2] .ret)) .skip)))))))) (.keep [] (.seq (.reg [.mv 2 (.c (B false))]) (.keep [2] .ret)))))
def yl:AF where
 nargs:=1
 ntmps:=69
 res:=[.tmp 2]
 body:=(.seq (.reg [.new 1 (.t 0),.mv 2 (.c (B false))]) (.seq (.seq (.reg [.fa 3 (.t 1) 0,.ld 4 false 1 (.t 3)]) (.block 0 (.seq (.reg [.bin 6 .eql (.t 4) (.c (I 1)),.mv 5 (.t 6)]) (.cond (.t 5) (.seq (.reg [.fa 7 (.t 1) 2,.ld 8 false 1 (.t 7),.call (some 9) (.c (Fc Zu)) [(.t 8),(.c (I 0)),(.c (I 99999))] (.ro false),.mv 10 (.t 9),.gd 10 true (some 11) (.fa 11 (.t 1) 1),.gd 10 true (some 12) (.ld 12 false 1 (.t 11)),.gd 10 true (some 13) (.bin 13 .eql (.t 12) (.c (S []))),.pick 14 (.t 10) (.t 13) (.c (B false)),.mv 15 (.t 14),.gd 15 true (some 16) (.fa 16 (.t 1) 3),.gd 15 true (some 17) (.ld 17 false 1 (.t 16)),.gd 15 true (some 18) (.len 18 (.t 17)),.gd 15 true (some 19) (.bin 19 .eql (.t 18) (.c (I 0))),.pick 20 (.t 15) (.t 19) (.c (B false)),.mv 2 (.t 20)]) (.keep [2] .ret)) (.seq (.reg [.bin 22 .eql (.t 4) (.c (I 2)),.mv 21 (.t 22)]) (.cond (.t 21) (.seq (.reg [.fa 23 (.t 1) 1,.ld 24 false 1 (.t 23),.call (some 25) (.c (Fc XX)) [(.t 24)] (.ro false),.mv 26 (.t 25),.gd 26 true (some 27) (.fa 27 (.t 1) 2),.gd 26 true (some 28) (.ld 28 false 1 (.t 27)),.gd 26 true (some 29) (.bin 29 .eql (.t 28) (.c (I 0))),.pick 30 (.t 26) (.t 29) (.c (B false)),.mv 31 (.t 30),.gd 31 true (some 32) (.fa 32 (.t 1) 3),.gd 31 true (some 33) (.ld 33 false 1 (.t 32)),.gd 31 true (some 34) (.len 34 (.t 33)),.gd 31 true (some 35) (.bin 35 .eql (.t 34) (.c (I 0))),.pick 36 (.t 31) (.t 35) (.c (B false)),.mv 2 (.t 36)]) (.keep [2] .ret)) (.seq (.reg [.bin 38 .eql (.t 4) (.c (I 3)),.mv 37 (.t 38)]) (.cond (.t 37) (.seq (.reg [.fa 39 (.t 1) 2,.ld 40 false 1 (.t 39),.call (some 41) (.c (Fc Zu)) [(.t 40),(.c (I (-999999999))),(.c (I 999999999))] (.ro false),.mv 42 (.t 41),.gd 42 true (some 43) (.fa 43 (.t 1) 1),.gd 42 true (some 44) (.ld 44 false 1 (.t 43)),.gd 42 true (some 45) (.bin 45 .eql (.t 44) (.c (S []))),.pick 46 (.t 42) (.t 45) (.c (B false)),.mv 47 (.t 46),.gd 47 true (some 48) (.fa 48 (.t 1) 3),.gd 47 true (some 49) (.ld 49 false 1 (.t 48)),.gd 47 true (some 50) (.len 50 (.t 49)),.gd 47 true (some 51) (.bin 51 .eql (.t 50) (.c (I 0))),.pick 52 (.t 47) (.t 51) (.c (B false)),.mv 2 (.t 52)]) (.keep [2] .ret)) (.seq (.reg [.bin 54 .eql (.t 4) (.c (I 4)),.mv 53 (.t 54)]) (.cond (.t 53) (.seq (.reg [.fa 55 (.t 1) 1,.ld 56 false 1 (.t 55),.call (some 57) (.c (Fc XX)) [(.t 56)] (.ro false),.mv 58 (.t 57),.gd 58 true (some 59) (.fa 59 (.t 1) 2),.gd 58 true (some 60) (.ld 60 false 1 (.t 59)),.gd 58 true (some 61) (.bin 61 .eql (.t 60) (.c (I 0))),.pick 62 (.t 58) (.t 61) (.c (B false)),.mv 63 (.t 62),.gd 63 true (some 64) (.fa 64 (.t 1) 3),.gd 63 true (some 65) (.ld 65 false 1 (.t 64)),.gd 63 true (some 66) (.len 66 (.t 65)),.gd 63 true (some 67) (.call (some 67) (.c (Fc Zu)) [(.t 66),(.c (I 1)),(.c (I 5))] (.ro false)),.pick 68 (.t 63) (.t 67) (.c (B false)),.mv 2 (.t 68)]) (.keep [2] .ret)) .skip)))))))))) (.keep [] (.seq (.reg [.mv 2 (.c (B false))]) (.keep [2] .ret)))))
def ZE:AC:=(.seq (.seq (.reg [.mv 10 (.t 0),.bin 11 .neq (.t 10) (.c (I 0))]) (.cond (.t 11) .skip (.keep [3,4] (.exit 0)))) (.keep [0,3,4] (.block 1 (.seq (.reg [.mv 12 (.t 0),.bin 13 .rem (.t 12) (.c (I 10)),.mv 5 (.t 13)]) (.seq (.seq (.reg [.mv 14 (.t 5),.bin 15 .lss (.t 14) (.c (I 0))]) (.cond (.t 15) (.reg [.mv 16 (.t 5),.un 17 .neg (.t 16),.mv 5 (.t 17)]) .skip)) (.keep [0,3,4,5] (.seq (.reg [.mv 18 (.t 5),.call (some 19) (.c (Fc JP)) [(.t 18)] (.ro false),.mks 20 1 [(.t 19)],.str 21 (.t 20),.mv 22 (.t 4),.bin 23 .add (.t 21) (.t 22),.mv 4 (.t 23)]) (.keep [0,3,4] (.reg [.mv 24 (.t 0),.bin 25 .quo (.t 24) (.c (I 10)),.mv 0 (.t 25)])))))))))
def YT:Lp:=⟨[0,3,4],[(1,0)],ZE⟩
@[go_sem] theorem qnG:YT.ls=[0,3,4]:=rfl
@[go_sem] theorem qnF:YT.ks=[(1,0)]:=rfl
@[go_sem] theorem qnE:YT.body=ZE:=rfl
def jK:AF where
 nargs:=1
 ntmps:=30
 res:=[.tmp 2]
 body:=(.seq (.reg [.mv 2 (.c (S []))]) (.seq (.seq (.reg [.mv 6 (.t 0),.bin 7 .eql (.t 6) (.c (I 0))]) (.cond (.t 7) (.seq (.reg [.mv 2 (.c (S [48]))]) (.keep [2] .ret)) .skip)) (.keep [0] (.seq (.reg [.mv 8 (.t 0),.bin 9 .lss (.t 8) (.c (I 0)),.mv 3 (.t 9)]) (.seq (.reg [.mv 4 (.c (S []))]) (.seq (.block 0 (lpC YT)) (.keep [3,4] (.seq (.seq (.reg [.mv 26 (.t 3)]) (.cond (.t 26) (.seq (.reg [.mv 27 (.t 4),.bin 28 .add (.c (S [45])) (.t 27),.mv 2 (.t 28)]) (.keep [2] .ret)) .skip)) (.keep [4] (.seq (.reg [.mv 29 (.t 4),.mv 2 (.t 29)]) (.keep [2] .ret)))))))))))
def Zn:AF where
 nargs:=3
 ntmps:=15
 res:=[.tmp 6]
 body:=(.seq (.reg [.mv 6 (.c (B false))]) (.seq (.reg [.mv 7 (.t 0),.mv 8 (.t 1),.bin 9 .geq (.t 7) (.t 8),.mv 10 (.t 9),.gd 10 true (some 11) (.mv 11 (.t 0)),.gd 10 true (some 12) (.mv 12 (.t 2)),.gd 10 true (some 13) (.bin 13 .leq (.t 11) (.t 12)),.pick 14 (.t 10) (.t 13) (.c (B false)),.mv 6 (.t 14)]) (.keep [6] .ret)))
def jT:AC:=(.seq (.seq (.reg [.mv 4 (.t 3),.mv 5 (.t 0),.slen 6 (.t 5),.bin 7 .lss (.t 4) (.t 6)]) (.keep [0,3,7] (.cond (.t 7) .skip (.keep [0] (.exit 0))))) (.keep [0,3] (.seq (.block 1 (.seq (.reg [.mv 10 (.t 0),.mv 11 (.t 3),.ix 12 (.t 10) (.t 11),.bin 13 .lss (.t 12) (.c (U8 33)),.mv 14 (.t 13),.gd 14 false (some 15) (.mv 15 (.t 0)),.gd 14 false (some 16) (.mv 16 (.t 3)),.gd 14 false (some 17) (.ix 17 (.t 15) (.t 16)),.gd 14 false (some 18) (.bin 18 .gtr (.t 17) (.c (U8 126))),.pick 19 (.t 14) (.c (B true)) (.t 18),.mv 20 (.t 19),.gd 20 false (some 21) (.mv 21 (.t 0)),.gd 20 false (some 22) (.mv 22 (.t 3)),.gd 20 false (some 23) (.ix 23 (.t 21) (.t 22)),.gd 20 false (some 24) (.bin 24 .eql (.t 23) (.c (U8 39))),.pick 25 (.t 20) (.c (B true)) (.t 24),.mv 26 (.t 25),.gd 26 false (some 27) (.mv 27 (.t 0)),.gd 26 false (some 28) (.mv 28 (.t 3)),.gd 26 false (some 29) (.ix 29 (.t 27) (.t 28)),.gd 26 false (some 30) (.bin 30 .eql (.t 29) (.c (U8 34))),.pick 31 (.t 26) (.c (B true)) (.t 30)]) (.keep [0,3,31] (.cond (.t 31) (.seq (.reg [.mv 2 (.c (B false))]) (.keep [2] .ret)) .skip)))) (.keep [0,3] (.reg [.mv 8 (.t 3),.bin 9 .add (.t 8) (.c (I 1)),.mv 3 (.t 9)])))))
def ZB:Lp:=⟨[0,3],[(1,0)],jT⟩
@[go_sem] theorem qnM:ZB.ls=[0,3]:=rfl
@[go_sem] theorem qnL:ZB.ks=[(1,0)]:=rfl
@[go_sem] theorem qnK:ZB.body=jT:=rfl
def Ql:AF where
 nargs:=1
 ntmps:=35
 res:=[.tmp 2]
 body:=(.seq (.reg [.mv 2 (.c (B false))]) (.seq (.seq (.reg [.mv 3 (.c (I 0))]) (.block 0 (lpC ZB))) (.keep [0] (.seq (.reg [.mv 32 (.t 0),.slen 33 (.t 32),.call (some 34) (.c (Fc Zu)) [(.t 33),(.c (I 1)),(.c (I 20))] (.ro false),.mv 2 (.t 34)]) (.keep [2] .ret)))))
def Zm:AF where
 nargs:=1
 ntmps:=12
 res:=[.tmp 2]
 body:=(.seq (.reg [.mv 2 (.c (U8 0))]) (.seq (.seq (.reg [.mv 3 (.t 0),.bin 4 .lss (.t 3) (.c (I 10))]) (.cond (.t 4) (.seq (.reg [.mv 5 (.t 0),.bin 6 .add (.c (I 48)) (.t 5),.int 7 .u8 (.t 6),.mv 2 (.t 7)]) (.keep [2] .ret)) .skip)) (.keep [0] (.seq (.reg [.mv 8 (.t 0),.bin 9 .add (.c (I 97)) (.t 8),.bin 10 .sub (.t 9) (.c (I 10)),.int 11 .u8 (.t 10),.mv 2 (.t 11)]) (.keep [2] .ret)))))
def KY:Nat→Option AE
 |3=>some (.fn jI)
 |4=>some (.fn ji)
 |5=>some (.fn jj)
 |6=>some (.fn Zh)
 |8=>some (.fn Zb)
 |9=>some (.fn jh)
 |10=>some (.fn Ze)
 |11=>some (.fn Zf)
 |12=>some (.fn Zc)
 |13=>some (.fn jJ)
 |14=>some (.fn jl)
 |15=>some (.fn Zq)
 |16=>some (.fn Zi)
 |17=>some (.fn yW)
 |18=>some (.fn jH)
 |19=>some (.fn XN)
 |20=>some (.fn Zg)
 |21=>some (.fn Zd)
 |22=>some (.fn XO)
 |23=>some (.fn Zl)
 |24=>some (.fn jM)
 |25=>some (.fn Zr)
 |26=>some (.fn Zj)
 |27=>some (.fn jG)
 |28=>some (.fn Qf)
 |29=>some (.fn Q4)
 |30=>some (.fn Q7)
 |31=>some (.fn Q6)
 |32=>some (.fn Q9)
 |33=>some (.fn Qi)
 |34=>some (.fn jN)
 |35=>some (.fn Zo)
 |36=>some (.fn Qm)
 |37=>some (.fn Q5)
 |38=>some (.fn zy)
 |39=>some (.fn Zk)
 |40=>some (.fn Qh)
 |41=>some (.fn Q8)
 |42=>some (.fn Qk)
 |43=>some (.fn xN)
 |44=>some (.prim (QI))
 |45=>some (.fn Za)
 |46=>some (.fn Qg)
 |47=>some (.fn Qj)
 |48=>some (.fn Zp)
 |49=>some (.fn jk)
 |50=>some (.fn jL)
 |51=>some (.fn zk)
 |53=>some (.fn yl)
 |_=>none
def qaW:Nat→Option AE
 |54=>some (.fn jK)
 |56=>some (.fn Zn)
 |57=>some (.fn Ql)
 |58=>some (.fn Zm)
 |_=>none
def qj(n:Nat):Option AE:=
 match KY n with
 |some e=>some e
 |none=>
 qaW n
theorem qjt:qj XS=some (.fn jI):=rfl
theorem qjC:qj XV=some (.fn ji):=rfl
theorem qjL:qj XW=some (.fn jj):=rfl
theorem qjE:qj Qr=some (.fn Zh):=rfl
theorem qjv:qj yX=some (.fn Zb):=rfl
theorem qju:qj XT=some (.fn jh):=rfl
theorem qjy:qj XU=some (.fn Ze):=rfl
theorem qjz:qj jP=some (.fn Zf):=rfl
theorem qjw:qj jO=some (.fn Zc):=rfl
theorem qjD:qj Zt=some (.fn jJ):=rfl
theorem qjY:qj JU=some (.fn jl):=rfl
theorem qjZ:qj Qt=some (.fn Zq):=rfl
theorem qjF:qj Qs=some (.fn Zi):=rfl
theorem qji:qj Qo=some (.fn yW):=rfl
theorem qaR:qj Qp=some (.fn jH):=rfl
theorem qjA:qj YH=some (.fn Zg):=rfl
theorem qjx:qj YG=some (.fn Zd):=rfl
theorem qjM:qj JM=some (.fn Zl):=rfl
theorem qaS:qj JS=some (.fn jM):=rfl
theorem qj0:qj YM=some (.fn Zr):=rfl
theorem qjG:qj JH=some (.fn Zj):=rfl
theorem qjj:qj JB=some (.fn jG):=rfl
theorem qjk:qj JC=some (.fn Qf):=rfl
theorem qjg:qj Jz=some (.fn Q4):=rfl
theorem qjm:qj JE=some (.fn Q7):=rfl
theorem qjl:qj JD=some (.fn Q6):=rfl
theorem qjr:qj JF=some (.fn Q9):=rfl
theorem qjB:qj YI=some (.fn Qi):=rfl
theorem qjX:qj JT=some (.fn jN):=rfl
theorem qjR:qj JQ=some (.fn Zo):=rfl
theorem qeg:qj XY=some (.fn Qm):=rfl
theorem qjh:qj JA=some (.fn Q5):=rfl
theorem qjq:qj YF=some (.fn zy):=rfl
theorem qjH:qj JI=some (.fn Zk):=rfl
theorem qjp:qj Zs=some (.fn Qh):=rfl
theorem qjn:qj YE=some (.fn Q8):=rfl
theorem qjO:qj JO=some (.fn Qk):=rfl
theorem qjW:qj YL=some (.fn xN):=rfl
theorem qjs:qj Qq=some (.fn Za):=rfl
theorem qjo:qj XR=some (.fn Qg):=rfl
theorem qjI:qj JJ=some (.fn Qj):=rfl
theorem qjS:qj YJ=some (.fn Zp):=rfl
theorem qjV:qj YK=some (.fn jk):=rfl
theorem qjN:qj JN=some (.fn jL):=rfl
theorem qjJ:qj JK=some (.fn zk):=rfl
theorem qjU:qj JR=some (.fn yl):=rfl
theorem qjK:qj JL=some (.fn jK):=rfl
theorem qjQ:qj Zu=some (.fn Zn):=rfl
theorem qjT:qj XX=some (.fn Ql):=rfl
theorem qjP:qj JP=some (.fn Zm):=rfl
theorem qj1:qj qbK=some (.prim (QI)):=rfl
end Go.Vm
