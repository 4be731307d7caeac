import Derived.Test.YtcaejgdpplbcbaaDoorT03
set_option autoImplicit false
set_option maxRecDepth 100000
namespace Go.Vm
abbrev qj7:Nat:=0
abbrev qjr:Nat:=1
abbrev qjs:Nat:=2
abbrev qjZ:Nat:=3
abbrev J3:Nat:=4
abbrev qj5:Nat:=5
abbrev qkp:Nat:=6
abbrev qj6:Nat:=7
abbrev qjw:Nat:=8
abbrev Ka:Nat:=9
abbrev qj0:Nat:=10
abbrev qj3:Nat:=11
abbrev qj4:Nat:=12
abbrev qj1:Nat:=13
abbrev Ke:Nat:=14
abbrev YF:Nat:=15
abbrev YJ:Nat:=16
abbrev Kb:Nat:=17
abbrev YK:Nat:=18
abbrev Kc:Nat:=19
abbrev qky:Nat:=20
abbrev qeb:Nat:=21
abbrev Kd:Nat:=22
abbrev qjx:Nat:=23
abbrev qjB:Nat:=24
abbrev qd2:Nat:=25
abbrev qd3:Nat:=26
abbrev qj2:Nat:=27
abbrev Kj:Nat:=28
abbrev Kh:Nat:=29
abbrev YM:Nat:=30
abbrev Kf:Nat:=31
abbrev Kk:Nat:=32
abbrev J7:Nat:=33
abbrev X6:Nat:=34
abbrev Za:Nat:=35
abbrev X5:Nat:=36
abbrev YI:Nat:=37
abbrev kN:Nat:=38
abbrev qd4:Nat:=39
abbrev qkq:Nat:=40
abbrev qkv:Nat:=41
abbrev qec:Nat:=42
abbrev qd5:Nat:=43
abbrev qjy:Nat:=44
abbrev qjz:Nat:=45
abbrev qju:Nat:=46
abbrev qjC:Nat:=47
abbrev qjA:Nat:=48
abbrev qjD:Nat:=49
abbrev Q9:Nat:=50
abbrev Ki:Nat:=51
abbrev YL:Nat:=52
abbrev qkH:Nat:=53
abbrev qkK:Nat:=54
abbrev qkN:Nat:=55
abbrev qkI:Nat:=56
abbrev qkJ:Nat:=57
abbrev qkM:Nat:=58
abbrev qkL:Nat:=59
abbrev qkO:Nat:=60
abbrev X8:Nat:=61
abbrev YG:Nat:=62
abbrev qkx:Nat:=63
abbrev qkt:Nat:=64
abbrev qku:Nat:=65
abbrev qjv:Nat:=66
abbrev J2:Nat:=67
abbrev qd6:Nat:=68
abbrev J1:Nat:=69
abbrev qd1:Nat:=70
abbrev Kg:Nat:=71
abbrev js:Nat:=72
abbrev qkG:Nat:=73
abbrev qkB:Nat:=74
abbrev qkC:Nat:=75
abbrev qkF:Nat:=76
abbrev qkQ:Nat:=77
abbrev qkA:Nat:=78
abbrev qkP:Nat:=79
abbrev X9:Nat:=80
abbrev kM:Nat:=81
abbrev X7:Nat:=82
abbrev YH:Nat:=83
abbrev qks:Nat:=84
abbrev qkw:Nat:=85
abbrev qkz:Nat:=86
abbrev J0:Nat:=87
abbrev qd7:Nat:=88
abbrev qkR:Nat:=89
abbrev qjG:Nat:=90
abbrev qjX:Nat:=91
abbrev qkU:Nat:=92
abbrev qkE:Nat:=93
abbrev qkS:Nat:=94
abbrev J4:Nat:=95
abbrev J6:Nat:=96
abbrev qkr:Nat:=97
abbrev qko:Nat:=98
abbrev qjP:Nat:=99
abbrev qjY:Nat:=100
abbrev qjK:Nat:=101
abbrev qjH:Nat:=102
abbrev qjJ:Nat:=103
abbrev qkD:Nat:=104
abbrev qkT:Nat:=105
abbrev qea:Nat:=106
abbrev qd8:Nat:=107
abbrev qjO:Nat:=108
abbrev qjI:Nat:=109
abbrev qjL:Nat:=110
abbrev J5:Nat:=111
abbrev qd9:Nat:=112
abbrev qjW:Nat:=113
abbrev qjV:Nat:=114
abbrev qjR:Nat:=115
abbrev qjS:Nat:=116
abbrev qjU:Nat:=117
abbrev qj8:Nat:=118
abbrev qjQ:Nat:=119
abbrev qjT:Nat:=120
abbrev qj9:Nat:=121
abbrev qka:Nat:=122
abbrev qkb:Nat:=123
abbrev qkg:Nat:=124
abbrev qkh:Nat:=125
abbrev qkk:Nat:=126
abbrev qkl:Nat:=127
abbrev qkm:Nat:=128
abbrev qkn:Nat:=129
abbrev qki:Nat:=130
abbrev qkj:Nat:=131
abbrev qke:Nat:=132
abbrev qkf:Nat:=133
abbrev qkc:Nat:=134
abbrev qkd:Nat:=135
abbrev qjF:Nat:=136
abbrev qjM:Nat:=137
abbrev qjN:Nat:=138
abbrev qjE:Nat:=139
abbrev qkV:Nat:=140
abbrev qkW:Nat:=141
abbrev qkX:Nat:=142
abbrev qkY:Nat:=143
abbrev qkZ:Nat:=144
abbrev qk0:Nat:=145
abbrev qk1:Nat:=146
abbrev qjt:Nat:=147
def JU:AC:=
 (.keep [7,8] (.seq (.seq (.reg [.mv 63 (.t 8),.mv 64 (.t 7),.bin 65 .neq (.t 63) (.t 64)]) (.cond (.t 65) (.seq (.reg [.mv 2 (.c (B false))]) (.keep [2] .ret)) .skip)) (.keep [] (.seq (.reg [.mv 2 (.c (B true))]) (.keep [2] .ret)))))
def JV:AC:=
 (.keep [5,7] (.seq (.reg [.mv 8 (.c (I 1))]) (.seq (.reg [.mv 58 (.t 5),.mv 59 (.t 8),.call (some 60) (.c (Fc YK)) [(.t 58),(.t 59)] (.ro true),.mv 8 (.t 60)]) (.keep [7,8] (.seq (.seq (.reg [.mv 61 (.t 8),.bin 62 .lss (.t 61) (.c (I 0))]) (.cond (.t 62) (.seq (.reg [.mv 2 (.c (B false))]) (.keep [2] .ret)) .skip)) JU)))))
def JW:AC:=
 (.keep [0,3,4,5,7,8] (.seq (.seq (.reg [.mv 41 (.t 8),.mv 42 (.t 7),.bin 43 .neq (.t 41) (.t 42)]) (.cond (.t 43) (.seq (.reg [.mv 2 (.c (B false))]) (.keep [2] .ret)) .skip)) (.keep [0,3,4,5,7] (.seq (.reg [.mv 45 (.t 0),.call (some 46) (.c (Fc YF)) [(.t 45)] (.ro true),.mv 44 (.t 46),.ext 47 (.t 44) 0,.ext 48 (.t 44) 1,.mv 9 (.t 47),.mv 10 (.t 48)]) (.keep [3,4,5,7,9,10] (.seq (.seq (.reg [.mv 49 (.t 9),.mv 50 (.t 3),.call (some 51) (.c (Fc YJ)) [(.t 49),(.t 50)] (.ro true),.un 52 .not (.t 51),.mv 53 (.t 52),.gd 53 false (some 54) (.mv 54 (.t 10)),.gd 53 false (some 55) (.mv 55 (.t 4)),.gd 53 false (some 56) (.bin 56 .neq (.t 54) (.t 55)),.pick 57 (.t 53) (.c (B true)) (.t 56)]) (.keep [5,7,57] (.cond (.t 57) (.seq (.reg [.mv 2 (.c (B false))]) (.keep [2] .ret)) .skip))) JV))))))
def JX:AC:=
 (.keep [0,3,4,5,7] (.seq (.reg [.mv 8 (.c (I 1))]) (.seq (.reg [.mv 36 (.t 5),.mv 37 (.t 8),.call (some 38) (.c (Fc YK)) [(.t 36),(.t 37)] (.ro true),.mv 8 (.t 38)]) (.keep [0,3,4,5,7,8] (.seq (.seq (.reg [.mv 39 (.t 8),.bin 40 .lss (.t 39) (.c (I 0))]) (.cond (.t 40) (.seq (.reg [.mv 2 (.c (B false))]) (.keep [2] .ret)) .skip)) JW)))))
def JY:AC:=
 (.keep [0,3,4] (.seq (.reg [.mv 20 (.t 0),.call (some 21) (.c (Fc YF)) [(.t 20)] (.ro false),.mv 19 (.t 21),.ext 22 (.t 19) 0,.ext 23 (.t 19) 1,.mv 5 (.t 22),.mv 6 (.t 23)]) (.keep [0,3,4,5,6] (.seq (.seq (.reg [.mv 24 (.t 5),.mv 25 (.t 3),.call (some 26) (.c (Fc YJ)) [(.t 24),(.t 25)] (.ro true),.un 27 .not (.t 26),.mv 28 (.t 27),.gd 28 false (some 29) (.mv 29 (.t 6)),.gd 28 false (some 30) (.mv 30 (.t 4)),.gd 28 false (some 31) (.bin 31 .neq (.t 29) (.t 30)),.pick 32 (.t 28) (.c (B true)) (.t 31)]) (.keep [0,3,4,5,32] (.cond (.t 32) (.seq (.reg [.mv 2 (.c (B false))]) (.keep [2] .ret)) .skip))) (.keep [0,3,4,5] (.seq (.reg [.mv 7 (.c (I 1))]) (.seq (.reg [.mv 33 (.t 5),.mv 34 (.t 7),.call (some 35) (.c (Fc Kb)) [(.t 33),(.t 34)] (.io false),.mv 7 (.t 35)]) JX)))))))
def jm:AF where
 nargs:=1
 ntmps:=66
 res:=[.tmp 2]
 body:=(.seq (.reg [.mv 2 (.c (B false))]) (.seq (.seq (.reg [.mv 11 (.t 0),.slen 12 (.t 11),.bin 13 .gtr (.t 12) (.c (I 1048576))]) (.cond (.t 13) (.seq (.reg [.mv 2 (.c (B true))]) (.keep [2] .ret)) .skip)) (.keep [0] (.seq (.reg [.mv 15 (.t 0),.call (some 16) (.c (Fc Ke)) [(.t 15)] (.ro true),.mv 14 (.t 16),.ext 17 (.t 14) 0,.ext 18 (.t 14) 1,.mv 3 (.t 17),.mv 4 (.t 18)]) JY))))
def Yk:AF where
 nargs:=2
 ntmps:=25
 res:=[.tmp 4]
 body:=(.seq (.reg [.new 2 (.t 0),.mv 4 (.c (I 0))]) (.seq (.reg [.fa 5 (.t 2) 0,.ld 6 true 4 (.t 5),.mv 7 (.t 1),.call (some 8) (.c (Fc Kc)) [(.t 6),(.t 7)] (.ro false),.mv 1 (.t 8)]) (.keep [1,2] (.seq (.seq (.reg [.mv 9 (.t 1),.bin 10 .lss (.t 9) (.c (I 0))]) (.cond (.t 10) (.seq (.reg [.mv 4 (.c (I (-1)))]) (.keep [4] .ret)) .skip)) (.keep [1,2] (.seq (.reg [.fa 11 (.t 2) 4,.ld 12 true 4 (.t 11),.mv 13 (.t 1),.call (some 14) (.c (Fc Kc)) [(.t 12),(.t 13)] (.ro false),.mv 1 (.t 14)]) (.keep [1,2] (.seq (.seq (.reg [.mv 15 (.t 1),.bin 16 .lss (.t 15) (.c (I 0))]) (.cond (.t 16) (.seq (.reg [.mv 4 (.c (I (-1)))]) (.keep [4] .ret)) .skip)) (.keep [1,2] (.seq (.reg [.mv 17 (.t 1),.fa 18 (.t 2) 8,.ld 19 false 1 (.t 18),.slen 20 (.t 19),.bin 21 .sub (.t 17) (.t 20),.mv 1 (.t 21)]) (.keep [1] (.seq (.seq (.reg [.mv 22 (.t 1),.bin 23 .lss (.t 22) (.c (I 0))]) (.cond (.t 23) (.seq (.reg [.mv 4 (.c (I (-1)))]) (.keep [4] .ret)) .skip)) (.keep [1] (.seq (.reg [.mv 24 (.t 1),.mv 4 (.t 24)]) (.keep [4] .ret)))))))))))))))
def Yn:AF where
 nargs:=1
 ntmps:=16
 res:=[.cell 2 true 9]
 body:=(.seq (.reg [.new 1 (.t 0),.new 2 (.c (.a [(I 0),(S []),(I 0),(.n 4),(I 0),(S []),(I 0),(.n 4),(S [])]))]) (.seq (.reg [.new 3 (.c (.a [(I 0),(S []),(I 0),(.n 4),(I 0),(S []),(I 0),(.n 4),(S [])]))]) (.seq (.reg [.fa 4 (.t 1) 0,.ld 5 true 4 (.t 4),.call (some 6) (.c (Fc Kd)) [(.t 5)] (.ro false),.fa 7 (.t 3) 0,.st 4 (.t 7) (.t 6)]) (.keep [1,2,3] (.seq (.reg [.fa 8 (.t 1) 4,.ld 9 true 4 (.t 8),.call (some 10) (.c (Fc Kd)) [(.t 9)] (.ro false),.fa 11 (.t 3) 4,.st 4 (.t 11) (.t 10)]) (.keep [1,2,3] (.seq (.reg [.fa 12 (.t 1) 8,.ld 13 false 1 (.t 12),.fa 14 (.t 3) 8,.st 1 (.t 14) (.t 13)]) (.keep [2,3] (.seq (.reg [.ld 15 true 9 (.t 3),.st 9 (.t 2) (.t 15)]) (.keep [2] .ret))))))))))
def Yh:AF where
 nargs:=2
 ntmps:=26
 res:=[.tmp 4]
 body:=(.seq (.reg [.new 2 (.t 0),.new 3 (.t 1),.mv 4 (.c (B false))]) (.seq (.seq (.reg [.fa 5 (.t 2) 0,.ld 6 false 1 (.t 5),.fa 7 (.t 3) 0,.ld 8 false 1 (.t 7),.bin 9 .neq (.t 6) (.t 8)]) (.keep [2,3,9] (.cond (.t 9) (.seq (.reg [.mv 4 (.c (B false))]) (.keep [4] .ret)) .skip))) (.keep [2,3] (.seq (.seq (.reg [.fa 10 (.t 2) 1,.ld 11 false 1 (.t 10),.fa 12 (.t 3) 1,.ld 13 false 1 (.t 12),.bin 14 .neq (.t 11) (.t 13)]) (.keep [2,3,14] (.cond (.t 14) (.seq (.reg [.mv 4 (.c (B false))]) (.keep [4] .ret)) .skip))) (.keep [2,3] (.seq (.seq (.reg [.fa 15 (.t 2) 2,.ld 16 false 1 (.t 15),.fa 17 (.t 3) 2,.ld 18 false 1 (.t 17),.bin 19 .neq (.t 16) (.t 18)]) (.keep [2,3,19] (.cond (.t 19) (.seq (.reg [.mv 4 (.c (B false))]) (.keep [4] .ret)) .skip))) (.keep [2,3] (.seq (.seq (.reg [.fa 20 (.t 2) 3,.ld 21 false 1 (.t 20),.fa 22 (.t 3) 3,.ld 23 false 1 (.t 22),.call (some 24) (.c (Fc qd2)) [(.t 21),(.t 23)] (.ro true),.un 25 .not (.t 24)]) (.keep [25] (.cond (.t 25) (.seq (.reg [.mv 4 (.c (B false))]) (.keep [4] .ret)) .skip))) (.keep [] (.seq (.reg [.mv 4 (.c (B true))]) (.keep [4] .ret)))))))))))
def Yf:AF where
 nargs:=2
 ntmps:=22
 res:=[.tmp 4]
 body:=(.seq (.reg [.new 2 (.t 0),.new 3 (.t 1),.mv 4 (.c (B false))]) (.seq (.seq (.reg [.fa 5 (.t 2) 0,.ld 6 true 4 (.t 5),.fa 7 (.t 3) 0,.ld 8 true 4 (.t 7),.call (some 9) (.c (Fc Ka)) [(.t 6),(.t 8)] (.ro true),.un 10 .not (.t 9)]) (.keep [2,3,10] (.cond (.t 10) (.seq (.reg [.mv 4 (.c (B false))]) (.keep [4] .ret)) .skip))) (.keep [2,3] (.seq (.seq (.reg [.fa 11 (.t 2) 4,.ld 12 true 4 (.t 11),.fa 13 (.t 3) 4,.ld 14 true 4 (.t 13),.call (some 15) (.c (Fc Ka)) [(.t 12),(.t 14)] (.ro true),.un 16 .not (.t 15)]) (.keep [2,3,16] (.cond (.t 16) (.seq (.reg [.mv 4 (.c (B false))]) (.keep [4] .ret)) .skip))) (.keep [2,3] (.seq (.seq (.reg [.fa 17 (.t 2) 8,.ld 18 false 1 (.t 17),.fa 19 (.t 3) 8,.ld 20 false 1 (.t 19),.bin 21 .neq (.t 18) (.t 20)]) (.keep [21] (.cond (.t 21) (.seq (.reg [.mv 4 (.c (B false))]) (.keep [4] .ret)) .skip))) (.keep [] (.seq (.reg [.mv 4 (.c (B true))]) (.keep [4] .ret)))))))))
def ki:AC:=(.seq (.seq (.reg [.mv 19 (.t 7),.mv 20 (.t 6),.len 21 (.t 20),.bin 22 .lss (.t 19) (.t 21)]) (.keep [4,5,6,7,22] (.cond (.t 22) .skip (.keep [5] (.exit 0))))) (.keep [4,5,6,7] (.block 1 (.seq (.seq (.reg [.mv 23 (.t 6),.mv 24 (.t 7),.ia 25 1 (.t 23) (.t 24),.ld 26 false 1 (.t 25),.call (some 27) (.c (Fc Kh)) [(.t 26)] (.ro true),.mv 28 (.t 27),.gd 28 false (some 29) (.mv 29 (.t 6)),.gd 28 false (some 30) (.mv 30 (.t 7)),.gd 28 false (some 31) (.ia 31 1 (.t 29) (.t 30)),.gd 28 false (some 32) (.ld 32 false 1 (.t 31)),.gd 28 false (some 33) (.ix 33 (.t 32) (.c (I 0))),.gd 28 false (some 34) (.bin 34 .eql (.t 33) (.c (U8 35))),.pick 35 (.t 28) (.c (B true)) (.t 34)]) (.keep [4,5,6,7,35] (.cond (.t 35) (.seq (.reg [.mv 36 (.t 7),.bin 37 .add (.t 36) (.c (I 1)),.mv 7 (.t 37)]) (.keep [4,5,6,7] (.exit 1))) .skip))) (.keep [4,5,6,7] (.seq (.reg [.mv 39 (.t 6),.mv 40 (.t 7),.call (some 41) (.c (Fc YM)) [(.t 39),(.t 40)] (.ro false),.mv 38 (.t 41),.ext 42 (.t 38) 0,.ext 43 (.t 38) 1,.ext 44 (.t 38) 2,.new 8 (.c (.a [(I 0),(S []),(S [])])),.st 3 (.t 8) (.t 42),.mv 9 (.t 43),.mv 10 (.t 44)]) (.keep [4,5,6,7,8,9,10] (.seq (.seq (.reg [.mv 45 (.t 10),.un 46 .not (.t 45),.mv 47 (.t 46),.gd 47 false (some 48) (.ld 48 true 3 (.t 8)),.gd 47 false (some 49) (.call (some 49) (.c (Fc Kf)) [(.t 48)] (.ro true)),.gd 47 false (some 50) (.un 50 .not (.t 49)),.pick 51 (.t 47) (.c (B true)) (.t 50),.mv 52 (.t 51),.gd 52 false (some 53) (.mv 53 (.t 5)),.gd 52 false (some 54) (.len 54 (.t 53)),.gd 52 false (some 55) (.bin 55 .eql (.t 54) (.c (I 20))),.pick 56 (.t 52) (.c (B true)) (.t 55)]) (.keep [4,5,6,7,8,9,56] (.cond (.t 56) (.seq (.reg [.mv 57 (.t 4),.mv 58 (.t 7),.bin 59 .add (.t 58) (.c (I 1)),.mv 2 (.t 57),.mv 3 (.t 59)]) (.keep [2,3] .ret)) .skip))) (.keep [4,5,6,8,9] (.seq (.reg [.mv 60 (.t 5),.ld 61 true 3 (.t 8),.mks 62 3 [(.t 61)],.app 63 3 40 (.t 60) (.t 62),.mv 5 (.t 63)]) (.keep [4,5,6,9] (.reg [.mv 64 (.t 9),.mv 7 (.t 64)]))))))))))))
def xO:Lp:=⟨[4,5,6,7],[(1,0)],ki⟩
@[go_sem] theorem ql1:xO.ls=[4,5,6,7]:=rfl
@[go_sem] theorem ql0:xO.ks=[(1,0)]:=rfl
@[go_sem] theorem qlZ:xO.body=ki:=rfl
def kJ:AF where
 nargs:=1
 ntmps:=66
 res:=[.tmp 2,.tmp 3]
 body:=(.seq (.reg [.mv 2 (.c (.n 3)),.mv 3 (.c (I 0))]) (.seq (.reg [.mks 11 3 [],.mv 4 (.t 11)]) (.seq (.seq (.reg [.mv 12 (.t 0),.slen 13 (.t 12),.bin 14 .gtr (.t 13) (.c (I 2500))]) (.cond (.t 14) (.seq (.reg [.mv 15 (.t 4),.mv 2 (.t 15),.mv 3 (.c (I (-1)))]) (.keep [2,3] .ret)) .skip)) (.keep [0,4] (.seq (.reg [.mks 16 3 [],.mv 5 (.t 16)]) (.seq (.reg [.mv 17 (.t 0),.call (some 18) (.c (Fc Kj)) [(.t 17)] (.ro false),.mv 6 (.t 18)]) (.seq (.seq (.reg [.mv 7 (.c (I 0))]) (.block 0 (lpC xO))) (.keep [5] (.seq (.reg [.mv 65 (.t 5),.mv 2 (.t 65),.mv 3 (.c (I 0))]) (.keep [2,3] .ret))))))))))
def Zk:AC:=(.seq (.seq (.reg [.mv 65 (.t 6),.mv 66 (.t 4),.len 67 (.t 66),.bin 68 .lss (.t 65) (.t 67),.mv 69 (.t 68),.gd 69 true (some 70) (.mv 70 (.t 4)),.gd 69 true (some 71) (.mv 71 (.t 6)),.gd 69 true (some 72) (.ia 72 1 (.t 70) (.t 71)),.gd 69 true (some 73) (.ld 73 false 1 (.t 72)),.gd 69 true (some 74) (.bin 74 .neq (.t 73) (.c (S [101,110,100]))),.pick 75 (.t 69) (.t 74) (.c (B false))]) (.keep [4,5,6,8,9,75] (.cond (.t 75) .skip (.keep [4,5,6,8,9] (.exit 2))))) (.keep [4,5,6,8,9] (.seq (.block 3 (.dreg [⟨0,[]⟩,⟨0,[(9,0),(100000,0),(100000,1),(100000,2),(100000,3),(100000,4),(100000,5)]⟩,⟨0,[]⟩,⟨0,[]⟩,⟨0,[(0,0),(0,1),(0,2),(0,3),(17,0),(17,1),(17,2),(17,3),(100000,0),(100000,1),(100000,2),(100000,3),(100000,4),(100000,5)]⟩,⟨0,[(0,0),(0,1),(0,2),(0,3),(17,0),(17,1),(17,2),(17,3),(100000,0),(100000,1),(100000,2),(100000,3),(100000,4),(100000,5)]⟩,⟨0,[]⟩,⟨0,[]⟩,⟨0,[]⟩,⟨1,[(9,0),(100000,0),(100000,1),(100000,2),(100000,3),(100000,4),(100000,5)]⟩] [.fa 78 (.t 9) 2,.ldq 79 false 1 (.t 78),.mv 80 (.t 4),.mv 81 (.t 6),.ia 82 1 (.t 80) (.t 81),.ldq 83 false 1 (.t 82),.bin 84 .add (.t 83) (.c (S [10])),.bin 85 .add (.t 79) (.t 84),.fa 86 (.t 9) 2,.st 1 (.t 86) (.t 85)])) (.keep [4,5,6,8,9] (.reg [.mv 76 (.t 6),.bin 77 .add (.t 76) (.c (I 1)),.mv 6 (.t 77)])))))
def kO:Lp:=⟨[4,5,6,8,9],[(1,0)],Zk⟩
@[go_sem] theorem qlf:kO.ls=[4,5,6,8,9]:=rfl
@[go_sem] theorem qle:kO.ks=[(1,0)]:=rfl
@[go_sem] theorem qld:kO.body=Zk:=rfl
def yV:AC:=(.seq (.seq (.reg [.mv 30 (.t 6),.mv 31 (.t 4),.len 32 (.t 31),.bin 33 .lss (.t 30) (.t 32)]) (.keep [4,5,6,33] (.cond (.t 33) .skip (.keep [5] (.exit 0))))) (.keep [4,5,6] (.seq (.block 1 (.seq (.reg [.mv 36 (.t 4),.mv 37 (.t 6),.ia 38 1 (.t 36) (.t 37),.ld 39 false 1 (.t 38),.mv 40 (.t 6),.bin 41 .add (.t 40) (.c (I 1)),.mv 7 (.t 39),.mv 8 (.t 41)]) (.keep [4,5,6,7,8] (.seq (.seq (.reg [.mv 42 (.t 7),.call (some 43) (.c (Fc J7)) [(.t 42),(.c (S [32]))] (.ro true),.bin 44 .eql (.t 43) (.c (S [])),.mv 45 (.t 44),.gd 45 false (some 46) (.mv 46 (.t 7)),.gd 45 false (some 47) (.ix 47 (.t 46) (.c (I 0))),.gd 45 false (some 48) (.bin 48 .eql (.t 47) (.c (U8 35))),.pick 49 (.t 45) (.c (B true)) (.t 48)]) (.keep [4,5,6,7,8,49] (.cond (.t 49) (.keep [4,5,6] (.exit 1)) .skip))) (.keep [4,5,6,7,8] (.seq (.reg [.mv 51 (.t 7),.call (some 52) (.c (Fc X6)) [(.t 51)] (.ro false),.mv 50 (.t 52),.ext 53 (.t 50) 0,.ext 54 (.t 50) 1,.new 9 (.c (.a [(I 0),(S []),(S [])])),.st 3 (.t 9) (.t 53),.mv 10 (.t 54)]) (.keep [4,5,6,7,8,9,10] (.seq (.seq (.reg [.mv 56 (.t 7),.call (some 57) (.c (Fc Za)) [(.t 56),(.c (S [102,105,108,101,32]))] (.ro false),.mv 55 (.t 57),.ext 58 (.t 55) 0,.ext 59 (.t 55) 1,.mv 11 (.t 58),.mv 12 (.t 59)]) (.keep [4,5,6,8,9,10,11,12] (.seq (.reg [.mv 60 (.t 12)]) (.cond (.t 60) (.seq (.reg [.mv 61 (.t 11),.build 62 (.a [(I 0),(S []),(S [])]) [(0,1,(.c (I 3))),(1,1,(.t 61))],.st 3 (.t 9) (.t 62)]) (.seq (.seq (.reg [.mv 63 (.t 6),.bin 64 .add (.t 63) (.c (I 1)),.mv 6 (.t 64)]) (.block 2 (lpC kO))) (.keep [4,5,6,8,9] (.reg [.mv 87 (.t 6),.mv 88 (.t 4),.len 89 (.t 88),.bin 90 .lss (.t 87) (.t 89),.mv 10 (.t 90)])))) .skip)))) (.keep [4,5,6,8,9,10] (.seq (.seq (.reg [.mv 91 (.t 10),.un 92 .not (.t 91),.mv 93 (.t 92),.gd 93 false (some 94) (.ld 94 true 3 (.t 9)),.gd 93 false (some 95) (.call (some 95) (.c (Fc X5)) [(.t 94)] (.ro true)),.gd 93 false (some 96) (.un 96 .not (.t 95)),.pick 97 (.t 93) (.c (B true)) (.t 96),.mv 98 (.t 97),.gd 98 false (some 99) (.mv 99 (.t 5)),.gd 98 false (some 100) (.len 100 (.t 99)),.gd 98 false (some 101) (.bin 101 .eql (.t 100) (.c (I 20))),.pick 102 (.t 98) (.c (B true)) (.t 101)]) (.keep [4,5,6,8,9,102] (.cond (.t 102) (.seq (.reg [.mv 103 (.t 8),.mv 2 (.c (.n 3)),.mv 3 (.t 103)]) (.keep [2,3] .ret)) .skip))) (.keep [4,5,6,9] (.reg [.mv 104 (.t 5),.ld 105 true 3 (.t 9),.mks 106 3 [(.t 105)],.app 107 3 40 (.t 104) (.t 106),.mv 5 (.t 107)])))))))))))) (.keep [4,5,6] (.reg [.mv 34 (.t 6),.bin 35 .add (.t 34) (.c (I 1)),.mv 6 (.t 35)])))))
def xg:Lp:=⟨[4,5,6],[(1,0)],yV⟩
@[go_sem] theorem qli:xg.ls=[4,5,6]:=rfl
@[go_sem] theorem qlh:xg.ks=[(1,0)]:=rfl
@[go_sem] theorem qlg:xg.body=yV:=rfl
def xK:AF where
 nargs:=1
 ntmps:=109
 res:=[.tmp 2,.tmp 3]
 body:=(.seq (.reg [.mv 2 (.c (.n 3)),.mv 3 (.c (I 0))]) (.seq (.seq (.reg [.mv 13 (.t 0),.slen 14 (.t 13),.bin 15 .gtr (.t 14) (.c (I 2500))]) (.cond (.t 15) (.seq (.reg [.mv 2 (.c (.n 3)),.mv 3 (.c (I (-1)))]) (.keep [2,3] .ret)) .skip)) (.keep [0] (.seq (.reg [.mv 16 (.t 0),.call (some 17) (.c (Fc Kk)) [(.t 16),(.c (S [10]))] (.ro false),.mv 4 (.t 17)]) (.seq (.seq (.reg [.mv 18 (.t 4),.mv 19 (.t 4),.len 20 (.t 19),.bin 21 .sub (.t 20) (.c (I 1)),.ia 22 1 (.t 18) (.t 21),.ld 23 false 1 (.t 22),.bin 24 .eql (.t 23) (.c (S []))]) (.keep [4,24] (.cond (.t 24) (.reg [.mv 25 (.t 4),.mv 26 (.t 4),.len 27 (.t 26),.bin 28 .sub (.t 27) (.c (I 1)),.sl 29 1 (.t 25) none (some (.t 28)),.mv 4 (.t 29)]) .skip))) (.keep [4] (.seq (.reg [.mv 5 (.c (.n 3))]) (.seq (.seq (.reg [.mv 6 (.c (I 0))]) (.block 0 (lpC xg))) (.keep [5] (.seq (.reg [.mv 108 (.t 5),.mv 2 (.t 108),.mv 3 (.c (I 0))]) (.keep [2,3] .ret)))))))))))
def qad:AC:=(.seq (.seq (.reg [.mv 11 (.t 5),.mv 12 (.t 0),.len 13 (.t 12),.bin 14 .lss (.t 11) (.t 13)]) (.keep [0,1,5,14] (.cond (.t 14) .skip (.keep [] (.exit 0))))) (.keep [0,1,5] (.seq (.block 1 (.seq (.dreg [⟨0,[]⟩,⟨0,[]⟩,⟨0,[(0,0),(0,1),(0,2),(0,3),(100000,0),(100000,1),(100000,2),(100000,3),(100000,4),(100000,5)]⟩,⟨0,[(0,0),(0,1),(0,2),(0,3),(100000,0),(100000,1),(100000,2),(100000,3),(100000,4),(100000,5)]⟩,⟨0,[]⟩,⟨0,[]⟩,⟨0,[(1,0),(1,1),(1,2),(1,3),(100000,0),(100000,1),(100000,2),(100000,3),(100000,4),(100000,5)]⟩,⟨0,[(1,0),(1,1),(1,2),(1,3),(100000,0),(100000,1),(100000,2),(100000,3),(100000,4),(100000,5)]⟩,⟨2,[(0,0),(0,1),(0,2),(0,3),(1,0),(1,1),(1,2),(1,3),(20,0),(24,0),(100000,0),(100000,1),(100000,2),(100000,3),(100000,4),(100000,5)]⟩,⟨0,[]⟩] [.mv 17 (.t 0),.mv 18 (.t 5),.ia 19 3 (.t 17) (.t 18),.ldq 20 true 3 (.t 19),.mv 21 (.t 1),.mv 22 (.t 5),.ia 23 3 (.t 21) (.t 22),.ldq 24 true 3 (.t 23),.call (some 25) (.c (Fc YI)) [(.t 20),(.t 24)] (.ro true),.un 26 .not (.t 25)]) (.keep [0,1,5,26] (.cond (.t 26) (.seq (.reg [.mv 4 (.c (B false))]) (.keep [4] .ret)) .skip)))) (.keep [0,1,5] (.reg [.mv 15 (.t 5),.bin 16 .add (.t 15) (.c (I 1)),.mv 5 (.t 16)])))))
def YT:Lp:=⟨[0,1,5],[(2,0)],qad⟩
@[go_sem] theorem qlx:YT.ls=[0,1,5]:=rfl
@[go_sem] theorem qlw:YT.ks=[(2,0)]:=rfl
@[go_sem] theorem qlv:YT.body=qad:=rfl
def Yg:AF where
 nargs:=2
 ntmps:=27
 res:=[.tmp 4]
 body:=(.seq (.reg [.mv 4 (.c (B false))]) (.seq (.seq (.reg [.mv 6 (.t 0),.len 7 (.t 6),.mv 8 (.t 1),.len 9 (.t 8),.bin 10 .neq (.t 7) (.t 9)]) (.keep [0,1,10] (.cond (.t 10) (.seq (.reg [.mv 4 (.c (B false))]) (.keep [4] .ret)) .skip))) (.keep [0,1] (.seq (.seq (.reg [.mv 5 (.c (I 0))]) (.block 0 (lpC YT))) (.keep [] (.seq (.reg [.mv 4 (.c (B true))]) (.keep [4] .ret)))))))
def Y5:AC:=(.seq (.seq (.reg [.mv 6 (.t 5),.mv 7 (.t 0),.len 8 (.t 7),.bin 9 .lss (.t 6) (.t 8)]) (.keep [0,1,5,9] (.cond (.t 9) .skip (.keep [1] (.exit 0))))) (.keep [0,1,5] (.seq (.block 1 (.seq (.reg [.mv 12 (.t 0),.mv 13 (.t 5),.mv 14 (.t 1),.ia 15 3 (.t 12) (.t 13),.fa 16 (.t 15) 0,.st 1 (.t 16) (.t 14)]) (.keep [0,1,5] (.seq (.reg [.mv 17 (.t 1),.bin 18 .add (.t 17) (.c (I 1)),.mv 1 (.t 18)]) (.seq (.reg [.mv 19 (.t 0),.mv 20 (.t 5),.mv 21 (.t 1),.call (some 22) (.c (Fc kN)) [(.t 21)] (.ro false),.ia 23 3 (.t 19) (.t 20),.fa 24 (.t 23) 1,.st 1 (.t 24) (.t 22)]) (.keep [0,1,5] (.seq (.reg [.mv 25 (.t 1),.bin 26 .add (.t 25) (.c (I 1)),.mv 1 (.t 26)]) (.seq (.reg [.mv 27 (.t 0),.mv 28 (.t 5),.mv 29 (.t 1),.call (some 30) (.c (Fc kN)) [(.t 29)] (.ro false),.ia 31 3 (.t 27) (.t 28),.fa 32 (.t 31) 2,.st 1 (.t 32) (.t 30)]) (.keep [0,1,5] (.reg [.mv 33 (.t 1),.bin 34 .add (.t 33) (.c (I 1)),.mv 1 (.t 34)])))))))))) (.keep [0,1,5] (.reg [.mv 10 (.t 5),.bin 11 .add (.t 10) (.c (I 1)),.mv 5 (.t 11)])))))
def Zf:Lp:=⟨[0,1,5],[(2,0)],Y5⟩
@[go_sem] theorem qlG:Zf.ls=[0,1,5]:=rfl
@[go_sem] theorem qlF:Zf.ks=[(2,0)]:=rfl
@[go_sem] theorem qlE:Zf.body=Y5:=rfl
def jW:AF where
 nargs:=2
 ntmps:=36
 res:=[.tmp 4]
 body:=(.seq (.reg [.mv 4 (.c (I 0))]) (.seq (.seq (.reg [.mv 5 (.c (I 0))]) (.block 0 (lpC Zf))) (.keep [1] (.seq (.reg [.mv 35 (.t 1),.mv 4 (.t 35)]) (.keep [4] .ret)))))
def Y4:AC:=(.seq (.seq (.reg [.mv 6 (.t 5),.mv 7 (.t 0),.len 8 (.t 7),.bin 9 .lss (.t 6) (.t 8)]) (.keep [0,1,5,9] (.cond (.t 9) .skip (.keep [1] (.exit 0))))) (.keep [0,1,5] (.seq (.block 1 (.seq (.seq (.reg [.mv 12 (.t 0),.mv 13 (.t 5),.ia 14 3 (.t 12) (.t 13),.fa 15 (.t 14) 0,.ld 16 false 1 (.t 15),.mv 17 (.t 1),.bin 18 .neq (.t 16) (.t 17)]) (.keep [0,1,5,18] (.cond (.t 18) (.seq (.reg [.mv 4 (.c (I (-1)))]) (.keep [4] .ret)) .skip))) (.keep [0,1,5] (.seq (.reg [.mv 19 (.t 1),.bin 20 .add (.t 19) (.c (I 1)),.mv 1 (.t 20)]) (.seq (.seq (.dreg [⟨0,[]⟩,⟨0,[]⟩,⟨0,[(0,0),(0,1),(0,2),(0,3),(100000,0),(100000,1),(100000,2),(100000,3),(100000,4),(100000,5)]⟩,⟨0,[]⟩,⟨0,[(0,0),(0,1),(0,2),(0,3),(100000,0),(100000,1),(100000,2),(100000,3),(100000,4),(100000,5)]⟩,⟨0,[]⟩,⟨2,[(1,0),(1,1),(1,2),(1,3),(100000,0),(100000,1),(100000,2),(100000,3),(100000,4),(100000,5)]⟩,⟨0,[]⟩] [.mv 21 (.t 0),.mv 22 (.t 5),.ia 23 3 (.t 21) (.t 22),.fa 24 (.t 23) 1,.ldq 25 false 1 (.t 24),.mv 26 (.t 1),.call (some 27) (.c (Fc kN)) [(.t 26)] (.ro true),.bin 28 .neq (.t 25) (.t 27)]) (.keep [0,1,5,28] (.cond (.t 28) (.seq (.reg [.mv 4 (.c (I (-1)))]) (.keep [4] .ret)) .skip))) (.keep [0,1,5] (.seq (.reg [.mv 29 (.t 1),.bin 30 .add (.t 29) (.c (I 1)),.mv 1 (.t 30)]) (.seq (.seq (.dreg [⟨0,[]⟩,⟨0,[]⟩,⟨0,[(0,0),(0,1),(0,2),(0,3),(100000,0),(100000,1),(100000,2),(100000,3),(100000,4),(100000,5)]⟩,⟨0,[]⟩,⟨0,[(0,0),(0,1),(0,2),(0,3),(100000,0),(100000,1),(100000,2),(100000,3),(100000,4),(100000,5)]⟩,⟨0,[]⟩,⟨2,[(1,0),(1,1),(1,2),(1,3),(100000,0),(100000,1),(100000,2),(100000,3),(100000,4),(100000,5)]⟩,⟨0,[]⟩] [.mv 31 (.t 0),.mv 32 (.t 5),.ia 33 3 (.t 31) (.t 32),.fa 34 (.t 33) 2,.ldq 35 false 1 (.t 34),.mv 36 (.t 1),.call (some 37) (.c (Fc kN)) [(.t 36)] (.ro true),.bin 38 .neq (.t 35) (.t 37)]) (.keep [0,1,5,38] (.cond (.t 38) (.seq (.reg [.mv 4 (.c (I (-1)))]) (.keep [4] .ret)) .skip))) (.keep [0,1,5] (.reg [.mv 39 (.t 1),.bin 40 .add (.t 39) (.c (I 1)),.mv 1 (.t 40)])))))))))) (.keep [0,1,5] (.reg [.mv 10 (.t 5),.bin 11 .add (.t 10) (.c (I 1)),.mv 5 (.t 11)])))))
def Ze:Lp:=⟨[0,1,5],[(2,0)],Y4⟩
@[go_sem] theorem qlD:Ze.ls=[0,1,5]:=rfl
@[go_sem] theorem qlC:Ze.ks=[(2,0)]:=rfl
@[go_sem] theorem qlB:Ze.body=Y4:=rfl
def jV:AF where
 nargs:=2
 ntmps:=42
 res:=[.tmp 4]
 body:=(.seq (.reg [.mv 4 (.c (I 0))]) (.seq (.seq (.reg [.mv 5 (.c (I 0))]) (.block 0 (lpC Ze))) (.keep [1] (.seq (.reg [.mv 41 (.t 1),.mv 4 (.t 41)]) (.keep [4] .ret)))))
def Yl:AF where
 nargs:=2
 ntmps:=19
 res:=[.tmp 4]
 body:=(.seq (.reg [.new 2 (.t 0),.mv 4 (.c (I 0))]) (.seq (.reg [.mv 5 (.t 1),.fa 6 (.t 2) 1,.ld 7 false 1 (.t 6),.slen 8 (.t 7),.bin 9 .sub (.t 5) (.t 8),.mv 1 (.t 9)]) (.keep [1,2] (.seq (.seq (.reg [.mv 10 (.t 1),.bin 11 .lss (.t 10) (.c (I 0))]) (.cond (.t 11) (.seq (.reg [.mv 4 (.c (I (-1)))]) (.keep [4] .ret)) .skip)) (.keep [1,2] (.seq (.reg [.fa 12 (.t 2) 3,.ld 13 false 1 (.t 12),.mv 14 (.t 1),.call (some 15) (.c (Fc qd4)) [(.t 13),(.t 14)] (.ro false),.mv 1 (.t 15)]) (.keep [1] (.seq (.seq (.reg [.mv 16 (.t 1),.bin 17 .lss (.t 16) (.c (I 0))]) (.cond (.t 17) (.seq (.reg [.mv 4 (.c (I (-1)))]) (.keep [4] .ret)) .skip)) (.keep [1] (.seq (.reg [.mv 18 (.t 1),.mv 4 (.t 18)]) (.keep [4] .ret)))))))))))
def YC:AF where
 nargs:=1
 ntmps:=8
 res:=[.cell 2 true 4]
 body:=(.seq (.reg [.new 1 (.t 0),.new 2 (.c (.a [(I 0),(S []),(I 0),(.n 4)]))]) (.seq (.reg [.fa 3 (.t 1) 3,.ld 4 false 1 (.t 3),.call (some 5) (.c (Fc qec)) [(.t 4)] (.ro false),.fa 6 (.t 1) 3,.st 1 (.t 6) (.t 5)]) (.keep [1,2] (.seq (.reg [.ld 7 true 4 (.t 1),.st 4 (.t 2) (.t 7)]) (.keep [2] .ret)))))
def Yo:AF where
 nargs:=1
 ntmps:=18
 res:=[.cell 2 true 4]
 body:=(.seq (.reg [.new 1 (.t 0),.new 2 (.c (.a [(I 0),(S []),(I 0),(.n 4)]))]) (.seq (.reg [.new 3 (.c (.a [(I 0),(S []),(I 0),(.n 4)]))]) (.seq (.reg [.fa 4 (.t 1) 0,.ld 5 false 1 (.t 4),.fa 6 (.t 3) 0,.st 1 (.t 6) (.t 5)]) (.keep [1,2,3] (.seq (.reg [.fa 7 (.t 1) 1,.ld 8 false 1 (.t 7),.fa 9 (.t 3) 1,.st 1 (.t 9) (.t 8)]) (.keep [1,2,3] (.seq (.reg [.fa 10 (.t 1) 2,.ld 11 false 1 (.t 10),.fa 12 (.t 3) 2,.st 1 (.t 12) (.t 11)]) (.keep [1,2,3] (.seq (.reg [.fa 13 (.t 1) 3,.ld 14 false 1 (.t 13),.call (some 15) (.c (Fc qd5)) [(.t 14)] (.ro false),.fa 16 (.t 3) 3,.st 1 (.t 16) (.t 15)]) (.keep [2,3] (.seq (.reg [.ld 17 true 4 (.t 3),.st 4 (.t 2) (.t 17)]) (.keep [2] .ret))))))))))))
def qae:AC:=(.seq (.seq (.reg [.mv 11 (.t 5),.mv 12 (.t 0),.len 13 (.t 12),.bin 14 .lss (.t 11) (.t 13)]) (.keep [0,1,5,14] (.cond (.t 14) .skip (.keep [] (.exit 0))))) (.keep [0,1,5] (.seq (.block 1 (.seq (.dreg [⟨0,[]⟩,⟨0,[]⟩,⟨0,[(0,0),(0,1),(0,2),(0,3),(100000,0),(100000,1),(100000,2),(100000,3),(100000,4),(100000,5)]⟩,⟨0,[(0,0),(0,1),(0,2),(0,3),(100000,0),(100000,1),(100000,2),(100000,3),(100000,4),(100000,5)]⟩,⟨0,[]⟩,⟨0,[]⟩,⟨0,[(1,0),(1,1),(1,2),(1,3),(100000,0),(100000,1),(100000,2),(100000,3),(100000,4),(100000,5)]⟩,⟨0,[(1,0),(1,1),(1,2),(1,3),(100000,0),(100000,1),(100000,2),(100000,3),(100000,4),(100000,5)]⟩,⟨2,[(0,0),(0,1),(0,2),(0,3),(1,0),(1,1),(1,2),(1,3),(20,0),(24,0),(100000,0),(100000,1),(100000,2),(100000,3),(100000,4),(100000,5)]⟩,⟨0,[]⟩] [.mv 17 (.t 0),.mv 18 (.t 5),.ia 19 4 (.t 17) (.t 18),.ldq 20 true 4 (.t 19),.mv 21 (.t 1),.mv 22 (.t 5),.ia 23 4 (.t 21) (.t 22),.ldq 24 true 4 (.t 23),.call (some 25) (.c (Fc Ka)) [(.t 20),(.t 24)] (.ro true),.un 26 .not (.t 25)]) (.keep [0,1,5,26] (.cond (.t 26) (.seq (.reg [.mv 4 (.c (B false))]) (.keep [4] .ret)) .skip)))) (.keep [0,1,5] (.reg [.mv 15 (.t 5),.bin 16 .add (.t 15) (.c (I 1)),.mv 5 (.t 16)])))))
def YU:Lp:=⟨[0,1,5],[(2,0)],qae⟩
@[go_sem] theorem qlA:YU.ls=[0,1,5]:=rfl
@[go_sem] theorem qlz:YU.ks=[(2,0)]:=rfl
@[go_sem] theorem qly:YU.body=qae:=rfl
def Yi:AF where
 nargs:=2
 ntmps:=27
 res:=[.tmp 4]
 body:=(.seq (.reg [.mv 4 (.c (B false))]) (.seq (.seq (.reg [.mv 6 (.t 0),.len 7 (.t 6),.mv 8 (.t 1),.len 9 (.t 8),.bin 10 .neq (.t 7) (.t 9)]) (.keep [0,1,10] (.cond (.t 10) (.seq (.reg [.mv 4 (.c (B false))]) (.keep [4] .ret)) .skip))) (.keep [0,1] (.seq (.seq (.reg [.mv 5 (.c (I 0))]) (.block 0 (lpC YU))) (.keep [] (.seq (.reg [.mv 4 (.c (B true))]) (.keep [4] .ret)))))))
def qaf:AC:=(.seq (.seq (.reg [.mv 6 (.t 5),.mv 7 (.t 0),.len 8 (.t 7),.bin 9 .lss (.t 6) (.t 8)]) (.keep [0,1,5,9] (.cond (.t 9) .skip (.keep [1] (.exit 0))))) (.keep [0,1,5] (.seq (.block 1 (.seq (.reg [.mv 12 (.t 0),.mv 13 (.t 5),.mv 14 (.t 1),.ia 15 4 (.t 12) (.t 13),.fa 16 (.t 15) 0,.st 1 (.t 16) (.t 14)]) (.keep [0,1,5] (.seq (.reg [.mv 17 (.t 1),.bin 18 .add (.t 17) (.c (I 1)),.mv 1 (.t 18)]) (.seq (.reg [.mv 19 (.t 0),.mv 20 (.t 5),.mv 21 (.t 1),.call (some 22) (.c (Fc kN)) [(.t 21)] (.ro false),.ia 23 4 (.t 19) (.t 20),.fa 24 (.t 23) 1,.st 1 (.t 24) (.t 22)]) (.keep [0,1,5] (.seq (.reg [.mv 25 (.t 1),.bin 26 .add (.t 25) (.c (I 1)),.mv 1 (.t 26)]) (.seq (.reg [.mv 27 (.t 0),.mv 28 (.t 5),.mv 29 (.t 1),.ia 30 4 (.t 27) (.t 28),.fa 31 (.t 30) 2,.st 1 (.t 31) (.t 29)]) (.keep [0,1,5] (.seq (.reg [.mv 32 (.t 1),.bin 33 .add (.t 32) (.c (I 1)),.mv 1 (.t 33)]) (.reg [.mv 34 (.t 0),.mv 35 (.t 5),.ia 36 4 (.t 34) (.t 35),.fa 37 (.t 36) 3,.ld 38 false 1 (.t 37),.mv 39 (.t 1),.call (some 40) (.c (Fc qd3)) [(.t 38),(.t 39)] (.io false),.mv 1 (.t 40)]))))))))))) (.keep [0,1,5] (.reg [.mv 10 (.t 5),.bin 11 .add (.t 10) (.c (I 1)),.mv 5 (.t 11)])))))
def YV:Lp:=⟨[0,1,5],[(2,0)],qaf⟩
@[go_sem] theorem qlJ:YV.ls=[0,1,5]:=rfl
@[go_sem] theorem qlI:YV.ks=[(2,0)]:=rfl
@[go_sem] theorem qlH:YV.body=qaf:=rfl
def Yj:AF where
 nargs:=2
 ntmps:=42
 res:=[.tmp 4]
 body:=(.seq (.reg [.mv 4 (.c (I 0))]) (.seq (.seq (.reg [.mv 5 (.c (I 0))]) (.block 0 (lpC YV))) (.keep [1] (.seq (.reg [.mv 41 (.t 1),.mv 4 (.t 41)]) (.keep [4] .ret)))))
def Zq:AC:=(.seq (.seq (.reg [.mv 7 (.t 5),.mv 8 (.t 0),.slen 9 (.t 8),.bin 10 .lss (.t 7) (.t 9)]) (.keep [0,3,4,5,10] (.cond (.t 10) .skip (.keep [0,3,4] (.exit 0))))) (.keep [0,3,4,5] (.seq (.block 1 (.seq (.reg [.mv 13 (.t 0),.mv 14 (.t 5),.ix 15 (.t 13) (.t 14),.bin 16 .eql (.t 15) (.c (U8 10))]) (.keep [0,3,4,5,16] (.cond (.t 16) (.seq (.reg [.mv 17 (.t 3),.mv 18 (.t 0),.mv 19 (.t 4),.mv 20 (.t 5),.ssl 21 (.t 18) (some (.t 19)) (some (.t 20)),.mks 22 1 [(.t 21)],.app 23 1 16 (.t 17) (.t 22),.mv 3 (.t 23)]) (.keep [0,3,5] (.reg [.mv 24 (.t 5),.bin 25 .add (.t 24) (.c (I 1)),.mv 4 (.t 25)]))) .skip)))) (.keep [0,3,4,5] (.reg [.mv 11 (.t 5),.bin 12 .add (.t 11) (.c (I 1)),.mv 5 (.t 12)])))))
def Zj:Lp:=⟨[0,3,4,5],[(1,0)],Zq⟩
@[go_sem] theorem qmm:Zj.ls=[0,3,4,5]:=rfl
@[go_sem] theorem qml:Zj.ks=[(1,0)]:=rfl
@[go_sem] theorem qmk:Zj.body=Zq:=rfl
def jr:AF where
 nargs:=1
 ntmps:=37
 res:=[.tmp 2]
 body:=(.seq (.reg [.mv 2 (.c (.n 1))]) (.seq (.reg [.mks 6 1 [],.mv 3 (.t 6)]) (.seq (.reg [.mv 4 (.c (I 0))]) (.seq (.seq (.reg [.mv 5 (.c (I 0))]) (.block 0 (lpC Zj))) (.keep [0,3,4] (.seq (.seq (.reg [.mv 26 (.t 4),.mv 27 (.t 0),.slen 28 (.t 27),.bin 29 .lss (.t 26) (.t 28)]) (.keep [0,3,4,29] (.cond (.t 29) (.reg [.mv 30 (.t 3),.mv 31 (.t 0),.mv 32 (.t 4),.ssl 33 (.t 31) (some (.t 32)) none,.mks 34 1 [(.t 33)],.app 35 1 16 (.t 30) (.t 34),.mv 3 (.t 35)]) .skip))) (.keep [3] (.seq (.reg [.mv 36 (.t 3),.mv 2 (.t 36)]) (.keep [2] .ret)))))))))
def Zo:AC:=(.seq (.seq (.reg [.mv 4 (.t 3),.mv 5 (.t 0),.slen 6 (.t 5),.bin 7 .lss (.t 4) (.t 6)]) (.keep [0,3,7] (.cond (.t 7) .skip (.keep [] (.exit 0))))) (.keep [0,3] (.seq (.block 1 (.seq (.reg [.mv 10 (.t 0),.mv 11 (.t 3),.ix 12 (.t 10) (.t 11),.bin 13 .neq (.t 12) (.c (U8 32))]) (.keep [0,3,13] (.cond (.t 13) (.seq (.reg [.mv 2 (.c (B false))]) (.keep [2] .ret)) .skip)))) (.keep [0,3] (.reg [.mv 8 (.t 3),.bin 9 .add (.t 8) (.c (I 1)),.mv 3 (.t 9)])))))
def Zi:Lp:=⟨[0,3],[(1,0)],Zo⟩
@[go_sem] theorem qmg:Zi.ls=[0,3]:=rfl
@[go_sem] theorem qmf:Zi.ks=[(1,0)]:=rfl
@[go_sem] theorem qme:Zi.body=Zo:=rfl
def jp:AF where
 nargs:=1
 ntmps:=14
 res:=[.tmp 2]
 body:=(.seq (.reg [.mv 2 (.c (B false))]) (.seq (.seq (.reg [.mv 3 (.c (I 0))]) (.block 0 (lpC Zi))) (.keep [] (.seq (.reg [.mv 2 (.c (B true))]) (.keep [2] .ret)))))
def xL:AF where
 nargs:=2
 ntmps:=61
 res:=[.cell 4 true 3,.tmp 5,.tmp 6]
 body:=(.seq (.reg [.new 4 (.c (.a [(I 0),(S []),(S [])])),.mv 5 (.c (I 0)),.mv 6 (.c (B false))]) (.seq (.reg [.mv 14 (.t 0),.mv 15 (.t 1),.ia 16 1 (.t 14) (.t 15),.ld 17 false 1 (.t 16),.call (some 18) (.c (Fc Q9)) [(.t 17),(.c (S [102,105,108,101]))] (.ro false),.mv 13 (.t 18),.ext 19 (.t 13) 0,.ext 20 (.t 13) 1,.mv 7 (.t 19),.mv 8 (.t 20)]) (.keep [0,1,4,7,8] (.seq (.seq (.reg [.mv 21 (.t 8)]) (.cond (.t 21) (.seq (.reg [.mv 23 (.t 0),.mv 24 (.t 1),.bin 25 .add (.t 24) (.c (I 1)),.call (some 26) (.c (Fc Ki)) [(.t 23),(.t 25)] (.ro false),.mv 22 (.t 26),.ext 27 (.t 22) 0,.ext 28 (.t 22) 1,.mv 9 (.t 27),.mv 10 (.t 28)]) (.keep [4,7,9,10] (.seq (.reg [.mv 29 (.t 7),.mv 30 (.t 9),.build 31 (.a [(I 0),(S []),(S [])]) [(0,1,(.c (I 3))),(1,1,(.t 29)),(2,1,(.t 30))],.mv 32 (.t 10),.mv 33 (.t 10),.bin 34 .geq (.t 33) (.c (I 0)),.st 3 (.t 4) (.t 31),.mv 5 (.t 32),.mv 6 (.t 34)]) (.keep [4,5,6] .ret)))) .skip)) (.keep [0,1,4] (.seq (.reg [.mv 36 (.t 0),.mv 37 (.t 1),.ia 38 1 (.t 36) (.t 37),.ld 39 false 1 (.t 38),.call (some 40) (.c (Fc Q9)) [(.t 39),(.c (S [99,111,110,115,117,108,116]))] (.ro false),.mv 35 (.t 40),.ext 41 (.t 35) 0,.ext 42 (.t 35) 1,.mv 7 (.t 41),.mv 8 (.t 42)]) (.keep [0,1,4,7,8] (.seq (.seq (.reg [.mv 43 (.t 8)]) (.cond (.t 43) (.seq (.reg [.mv 44 (.t 7),.build 45 (.a [(I 0),(S []),(S [])]) [(0,1,(.c (I 1))),(1,1,(.t 44))],.mv 46 (.t 1),.bin 47 .add (.t 46) (.c (I 1)),.st 3 (.t 4) (.t 45),.mv 5 (.t 47),.mv 6 (.c (B true))]) (.keep [4,5,6] .ret)) .skip)) (.keep [0,1,4] (.seq (.reg [.mv 49 (.t 0),.mv 50 (.t 1),.ia 51 1 (.t 49) (.t 50),.ld 52 false 1 (.t 51),.call (some 53) (.c (Fc Q9)) [(.t 52),(.c (S [97,115,107]))] (.ro false),.mv 48 (.t 53),.ext 54 (.t 48) 0,.ext 55 (.t 48) 1,.mv 11 (.t 54),.mv 12 (.t 55)]) (.keep [1,4,11,12] (.seq (.reg [.mv 56 (.t 11),.build 57 (.a [(I 0),(S []),(S [])]) [(0,1,(.c (I 2))),(2,1,(.t 56))],.mv 58 (.t 1),.bin 59 .add (.t 58) (.c (I 1)),.mv 60 (.t 12),.st 3 (.t 4) (.t 57),.mv 5 (.t 59),.mv 6 (.t 60)]) (.keep [4,5,6] .ret)))))))))))))
def xf:AF where
 nargs:=1
 ntmps:=37
 res:=[.tmp 2]
 body:=(.seq (.reg [.new 1 (.t 0),.mv 2 (.c (B false))]) (.seq (.seq (.reg [.fa 3 (.t 1) 0,.ld 4 false 1 (.t 3)]) (.block 0 (.seq (.reg [.bin 6 .eql (.t 4) (.c (I 1)),.mv 5 (.t 6)]) (.cond (.t 5) (.seq (.reg [.fa 7 (.t 1) 1,.ld 8 false 1 (.t 7),.call (some 9) (.c (Fc YL)) [(.t 8)] (.ro false),.mv 10 (.t 9),.gd 10 true (some 11) (.fa 11 (.t 1) 2),.gd 10 true (some 12) (.ld 12 false 1 (.t 11)),.gd 10 true (some 13) (.bin 13 .eql (.t 12) (.c (S []))),.pick 14 (.t 10) (.t 13) (.c (B false)),.mv 2 (.t 14)]) (.keep [2] .ret)) (.seq (.reg [.bin 16 .eql (.t 4) (.c (I 2)),.mv 15 (.t 16)]) (.cond (.t 15) (.seq (.reg [.fa 17 (.t 1) 1,.ld 18 false 1 (.t 17),.bin 19 .eql (.t 18) (.c (S [])),.mv 20 (.t 19),.gd 20 true (some 21) (.fa 21 (.t 1) 2),.gd 20 true (some 22) (.ld 22 false 1 (.t 21)),.gd 20 true (some 23) (.slen 23 (.t 22)),.gd 20 true (some 24) (.bin 24 .leq (.t 23) (.c (I 3000))),.pick 25 (.t 20) (.t 24) (.c (B false)),.mv 2 (.t 25)]) (.keep [2] .ret)) (.seq (.reg [.bin 27 .eql (.t 4) (.c (I 3)),.mv 26 (.t 27)]) (.cond (.t 26) (.seq (.reg [.fa 28 (.t 1) 1,.ld 29 false 1 (.t 28),.call (some 30) (.c (Fc YL)) [(.t 29)] (.ro false),.mv 31 (.t 30),.gd 31 true (some 32) (.fa 32 (.t 1) 2),.gd 31 true (some 33) (.ld 33 false 1 (.t 32)),.gd 31 true (some 34) (.slen 34 (.t 33)),.gd 31 true (some 35) (.bin 35 .leq (.t 34) (.c (I 3000))),.pick 36 (.t 31) (.t 35) (.c (B false)),.mv 2 (.t 36)]) (.keep [2] .ret)) .skip)))))))) (.keep [] (.seq (.reg [.mv 2 (.c (B false))]) (.keep [2] .ret)))))
def kI:AF where
 nargs:=1
 ntmps:=25
 res:=[.cell 2 true 3,.tmp 3]
 body:=(.seq (.reg [.new 2 (.c (.a [(I 0),(S []),(S [])])),.mv 3 (.c (B false))]) (.seq (.seq (.reg [.mv 9 (.t 0),.call (some 10) (.c (Fc Za)) [(.t 9),(.c (S [99,111,110,115,117,108,116,32]))] (.ro false),.mv 8 (.t 10),.ext 11 (.t 8) 0,.ext 12 (.t 8) 1,.mv 4 (.t 11),.mv 5 (.t 12)]) (.keep [0,2,4,5] (.seq (.reg [.mv 13 (.t 5)]) (.cond (.t 13) (.seq (.reg [.mv 14 (.t 4),.build 15 (.a [(I 0),(S []),(S [])]) [(0,1,(.c (I 1))),(1,1,(.t 14))],.st 3 (.t 2) (.t 15),.mv 3 (.c (B true))]) (.keep [2,3] .ret)) .skip)))) (.keep [0,2] (.seq (.seq (.reg [.mv 17 (.t 0),.call (some 18) (.c (Fc Za)) [(.t 17),(.c (S [97,115,107,32]))] (.ro false),.mv 16 (.t 18),.ext 19 (.t 16) 0,.ext 20 (.t 16) 1,.mv 6 (.t 19),.mv 7 (.t 20)]) (.keep [2,6,7] (.seq (.reg [.mv 21 (.t 7)]) (.cond (.t 21) (.seq (.reg [.mv 22 (.t 6),.build 23 (.a [(I 0),(S []),(S [])]) [(0,1,(.c (I 2))),(2,1,(.t 22))],.st 3 (.t 2) (.t 23),.mv 3 (.c (B true))]) (.keep [2,3] .ret)) .skip)))) (.keep [2] (.seq (.reg [.build 24 (.a [(I 0),(S []),(S [])]) [],.st 3 (.t 2) (.t 24),.mv 3 (.c (B false))]) (.keep [2,3] .ret)))))))
def jY:AF where
 nargs:=2
 ntmps:=11
 res:=[.tmp 4,.tmp 5]
 body:=(.seq (.reg [.mv 4 (.c (S [])),.mv 5 (.c (B false))]) (.seq (.reg [.mv 6 (.t 0),.mv 7 (.t 1),.call (some 8) (.c (Fc X8)) [(.t 6),(.t 7)] (.ro false),.ext 9 (.t 8) 0,.ext 10 (.t 8) 1,.mv 4 (.t 9),.mv 5 (.t 10)]) (.keep [4,5] .ret)))
def xd:AF where
 nargs:=1
 ntmps:=37
 res:=[.tmp 2]
 body:=(.seq (.reg [.new 1 (.t 0),.mv 2 (.c (B false))]) (.seq (.seq (.reg [.fa 3 (.t 1) 0,.ld 4 false 1 (.t 3)]) (.block 0 (.seq (.reg [.bin 6 .eql (.t 4) (.c (I 1)),.mv 5 (.t 6)]) (.cond (.t 5) (.seq (.reg [.fa 7 (.t 1) 1,.ld 8 false 1 (.t 7),.call (some 9) (.c (Fc YG)) [(.t 8)] (.ro false),.mv 10 (.t 9),.gd 10 true (some 11) (.fa 11 (.t 1) 2),.gd 10 true (some 12) (.ld 12 false 1 (.t 11)),.gd 10 true (some 13) (.bin 13 .eql (.t 12) (.c (S []))),.pick 14 (.t 10) (.t 13) (.c (B false)),.mv 2 (.t 14)]) (.keep [2] .ret)) (.seq (.reg [.bin 16 .eql (.t 4) (.c (I 2)),.mv 15 (.t 16)]) (.cond (.t 15) (.seq (.reg [.fa 17 (.t 1) 1,.ld 18 false 1 (.t 17),.bin 19 .eql (.t 18) (.c (S [])),.mv 20 (.t 19),.gd 20 true (some 21) (.fa 21 (.t 1) 2),.gd 20 true (some 22) (.ld 22 false 1 (.t 21)),.gd 20 true (some 23) (.slen 23 (.t 22)),.gd 20 true (some 24) (.bin 24 .leq (.t 23) (.c (I 3000))),.pick 25 (.t 20) (.t 24) (.c (B false)),.mv 2 (.t 25)]) (.keep [2] .ret)) (.seq (.reg [.bin 27 .eql (.t 4) (.c (I 3)),.mv 26 (.t 27)]) (.cond (.t 26) (.seq (.reg [.fa 28 (.t 1) 1,.ld 29 false 1 (.t 28),.call (some 30) (.c (Fc YG)) [(.t 29)] (.ro false),.mv 31 (.t 30),.gd 31 true (some 32) (.fa 32 (.t 1) 2),.gd 31 true (some 33) (.ld 33 false 1 (.t 32)),.gd 31 true (some 34) (.slen 34 (.t 33)),.gd 31 true (some 35) (.bin 35 .leq (.t 34) (.c (I 3000))),.pick 36 (.t 31) (.t 35) (.c (B false)),.mv 2 (.t 36)]) (.keep [2] .ret)) .skip)))))))) (.keep [] (.seq (.reg [.mv 2 (.c (B false))]) (.keep [2] .ret)))))
def kf:AF where
 nargs:=2
 ntmps:=20
 res:=[.tmp 4]
 body:=(.seq (.reg [.new 2 (.t 0),.new 3 (.t 1),.mv 4 (.c (B false))]) (.seq (.seq (.reg [.fa 5 (.t 2) 0,.ld 6 false 1 (.t 5),.fa 7 (.t 3) 0,.ld 8 false 1 (.t 7),.bin 9 .neq (.t 6) (.t 8)]) (.keep [2,3,9] (.cond (.t 9) (.seq (.reg [.mv 4 (.c (B false))]) (.keep [4] .ret)) .skip))) (.keep [2,3] (.seq (.seq (.reg [.fa 10 (.t 2) 1,.ld 11 false 1 (.t 10),.fa 12 (.t 3) 1,.ld 13 false 1 (.t 12),.bin 14 .neq (.t 11) (.t 13)]) (.keep [2,3,14] (.cond (.t 14) (.seq (.reg [.mv 4 (.c (B false))]) (.keep [4] .ret)) .skip))) (.keep [2,3] (.seq (.seq (.reg [.fa 15 (.t 2) 2,.ld 16 false 1 (.t 15),.fa 17 (.t 3) 2,.ld 18 false 1 (.t 17),.bin 19 .neq (.t 16) (.t 18)]) (.keep [19] (.cond (.t 19) (.seq (.reg [.mv 4 (.c (B false))]) (.keep [4] .ret)) .skip))) (.keep [] (.seq (.reg [.mv 4 (.c (B true))]) (.keep [4] .ret)))))))))
def Zm:AC:=(.seq (.seq (.reg [.mv 6 (.t 0),.bin 7 .gtr (.t 6) (.c (I 0))]) (.cond (.t 7) .skip (.keep [3] (.exit 0)))) (.keep [0,3] (.block 1 (.seq (.reg [.mv 8 (.t 0),.bin 9 .rem (.t 8) (.c (I 10)),.bin 10 .add (.c (I 48)) (.t 9),.int 11 .u8 (.t 10),.mks 12 1 [(.t 11)],.str 13 (.t 12),.mv 14 (.t 3),.bin 15 .add (.t 13) (.t 14),.mv 3 (.t 15)]) (.keep [0,3] (.reg [.mv 16 (.t 0),.bin 17 .quo (.t 16) (.c (I 10)),.mv 0 (.t 17)]))))))
def Zg:Lp:=⟨[0,3],[(1,0)],Zm⟩
@[go_sem] theorem qlM:Zg.ls=[0,3]:=rfl
@[go_sem] theorem qlL:Zg.ks=[(1,0)]:=rfl
@[go_sem] theorem qlK:Zg.body=Zm:=rfl
def jn:AF where
 nargs:=1
 ntmps:=20
 res:=[.tmp 2]
 body:=(.seq (.reg [.mv 2 (.c (S []))]) (.seq (.seq (.reg [.mv 4 (.t 0),.bin 5 .leq (.t 4) (.c (I 0))]) (.cond (.t 5) (.seq (.reg [.mv 2 (.c (S [109,48]))]) (.keep [2] .ret)) .skip)) (.keep [0] (.seq (.reg [.mv 3 (.c (S []))]) (.seq (.block 0 (lpC Zg)) (.keep [3] (.seq (.reg [.mv 18 (.t 3),.bin 19 .add (.c (S [109])) (.t 18),.mv 2 (.t 19)]) (.keep [2] .ret))))))))
def qag:AC:=(.seq (.seq (.reg [.mv 12 (.t 5),.mv 13 (.t 0),.len 14 (.t 13),.bin 15 .lss (.t 12) (.t 14)]) (.keep [0,1,5,15] (.cond (.t 15) .skip (.keep [1] (.exit 0))))) (.keep [0,1,5] (.seq (.block 1 (.seq (.reg [.mv 18 (.t 0),.mv 19 (.t 5),.ia 20 4 (.t 18) (.t 19),.ld 21 true 4 (.t 20),.mv 22 (.t 1),.call (some 23) (.c (Fc Kc)) [(.t 21),(.t 22)] (.ro false),.mv 1 (.t 23)]) (.keep [0,1,5] (.seq (.reg [.mv 24 (.t 1),.bin 25 .lss (.t 24) (.c (I 0))]) (.cond (.t 25) (.seq (.reg [.mv 4 (.c (I (-1)))]) (.keep [4] .ret)) .skip))))) (.keep [0,1,5] (.reg [.mv 16 (.t 5),.bin 17 .add (.t 16) (.c (I 1)),.mv 5 (.t 17)])))))
def YW:Lp:=⟨[0,1,5],[(2,0)],qag⟩
@[go_sem] theorem qlP:YW.ls=[0,1,5]:=rfl
@[go_sem] theorem qlO:YW.ks=[(2,0)]:=rfl
@[go_sem] theorem qlN:YW.body=qag:=rfl
def Ym:AF where
 nargs:=2
 ntmps:=27
 res:=[.tmp 4]
 body:=(.seq (.reg [.mv 4 (.c (I 0))]) (.seq (.reg [.mv 6 (.t 1),.mv 7 (.t 0),.len 8 (.t 7),.bin 9 .sub (.t 6) (.t 8),.mv 1 (.t 9)]) (.keep [0,1] (.seq (.seq (.reg [.mv 10 (.t 1),.bin 11 .lss (.t 10) (.c (I 0))]) (.cond (.t 11) (.seq (.reg [.mv 4 (.c (I (-1)))]) (.keep [4] .ret)) .skip)) (.keep [0,1] (.seq (.seq (.reg [.mv 5 (.c (I 0))]) (.block 0 (lpC YW))) (.keep [1] (.seq (.reg [.mv 26 (.t 1),.mv 4 (.t 26)]) (.keep [4] .ret)))))))))
def qan:AC:=(.seq (.seq (.reg [.mv 6 (.t 4),.mv 7 (.t 0),.len 8 (.t 7),.bin 9 .lss (.t 6) (.t 8)]) (.keep [0,3,4,9] (.cond (.t 9) .skip (.keep [3] (.exit 0))))) (.keep [0,3,4] (.seq (.block 1 (.reg [.mv 12 (.t 3),.mv 13 (.t 0),.mv 14 (.t 4),.ia 15 4 (.t 13) (.t 14),.ld 16 true 4 (.t 15),.call (some 17) (.c (Fc qeb)) [(.t 16)] (.ro false),.mks 18 4 [(.t 17)],.app 19 4 56 (.t 12) (.t 18),.mv 3 (.t 19)])) (.keep [0,3,4] (.reg [.mv 10 (.t 4),.bin 11 .add (.t 10) (.c (I 1)),.mv 4 (.t 11)])))))
def Y3:Lp:=⟨[0,3,4],[(1,0)],qan⟩
@[go_sem] theorem qmp:Y3.ls=[0,3,4]:=rfl
@[go_sem] theorem qmo:Y3.ks=[(1,0)]:=rfl
@[go_sem] theorem qmn:Y3.body=qan:=rfl
def YD:AF where
 nargs:=1
 ntmps:=21
 res:=[.tmp 2]
 body:=(.seq (.reg [.mv 2 (.c (.n 4))]) (.seq (.reg [.mks 5 4 [],.mv 3 (.t 5)]) (.seq (.seq (.reg [.mv 4 (.c (I 0))]) (.block 0 (lpC Y3))) (.keep [3] (.seq (.reg [.mv 20 (.t 3),.mv 2 (.t 20)]) (.keep [2] .ret))))))
def qah:AC:=(.seq (.seq (.reg [.mv 8 (.t 4),.mv 9 (.t 0),.len 10 (.t 9),.bin 11 .lss (.t 8) (.t 10)]) (.keep [0,3,4,11] (.cond (.t 11) .skip (.keep [3] (.exit 0))))) (.keep [0,3,4] (.seq (.block 1 (.reg [.mv 14 (.t 3),.mv 15 (.t 4),.mv 16 (.t 0),.mv 17 (.t 4),.ia 18 4 (.t 16) (.t 17),.ld 19 true 4 (.t 18),.call (some 20) (.c (Fc Kd)) [(.t 19)] (.ro false),.ia 21 4 (.t 14) (.t 15),.st 4 (.t 21) (.t 20)])) (.keep [0,3,4] (.reg [.mv 12 (.t 4),.bin 13 .add (.t 12) (.c (I 1)),.mv 4 (.t 13)])))))
def YX:Lp:=⟨[0,3,4],[(1,0)],qah⟩
@[go_sem] theorem qlS:YX.ls=[0,3,4]:=rfl
@[go_sem] theorem qlR:YX.ks=[(1,0)]:=rfl
@[go_sem] theorem qlQ:YX.body=qah:=rfl
def Yp:AF where
 nargs:=1
 ntmps:=23
 res:=[.tmp 2]
 body:=(.seq (.reg [.mv 2 (.c (.n 4))]) (.seq (.reg [.mv 5 (.t 0),.len 6 (.t 5),.mk 7 4 (.a [(I 0),(S []),(I 0),(.n 4)]) 56 (.t 6) (.t 6),.mv 3 (.t 7)]) (.keep [0,3] (.seq (.seq (.reg [.mv 4 (.c (I 0))]) (.block 0 (lpC YX))) (.keep [3] (.seq (.reg [.mv 22 (.t 3),.mv 2 (.t 22)]) (.keep [2] .ret)))))))
def Z8:AF where
 nargs:=1
 ntmps:=6
 res:=[.tmp 2]
 body:=(.seq (.reg [.new 1 (.t 0),.mv 2 (.c (B false))]) (.seq (.reg [.ld 3 true 4 (.t 1),.call (some 4) (.c (Fc J2)) [(.t 3),(.c (I 1))] (.ro false),.bin 5 .leq (.t 4) (.c (I 400)),.mv 2 (.t 5)]) (.keep [2] .ret)))
def Z7:AF where
 nargs:=1
 ntmps:=8
 res:=[.tmp 2]
 body:=(.seq (.reg [.mv 2 (.c (B false))]) (.seq (.reg [.mks 4 1 [(.c (S [116,114,117,101,47,48])),(.c (S [102,97,105,108,47,48])),(.c (S [33,47,48])),(.c (S [44,47,50])),(.c (S [59,47,50])),(.c (S [45,62,47,50])),(.c (S [92,43,47,49])),(.c (S [99,97,108,108,47,49])),(.c (S [99,97,108,108,47,50])),(.c (S [99,97,108,108,47,51])),(.c (S [99,97,116,99,104,47,51])),(.c (S [116,104,114,111,119,47,49])),(.c (S [61,47,50])),(.c (S [92,61,47,50])),(.c (S [61,61,47,50])),(.c (S [105,115,47,50])),(.c (S [60,47,50])),(.c (S [61,58,61,47,50])),(.c (S [118,97,114,47,49])),(.c (S [97,116,111,109,47,49])),(.c (S [119,114,105,116,101,47,49])),(.c (S [97,115,115,101,114,116,122,47,49])),(.c (S [114,101,116,114,97,99,116,47,49])),(.c (S [58,45,47,50])),(.c (S [58,45,47,49])),(.c (S [45,45,62,47,50]))],.mv 3 (.t 4)]) (.seq (.reg [.mv 5 (.t 3),.mv 6 (.t 0),.call (some 7) (.c (Fc qd6)) [(.t 5),(.t 6)] (.ro false),.mv 2 (.t 7)]) (.keep [2] .ret))))
def Z9:AF where
 nargs:=1
 ntmps:=5
 res:=[.cell 2 true 4]
 body:=(.seq (.reg [.new 1 (.t 0),.new 2 (.c (.a [(I 0),(S []),(I 0),(.n 4)]))]) (.seq (.reg [.ld 3 true 4 (.t 1),.call (some 4) (.c (Fc J1)) [(.t 3),(.c (Fc qd1))] (.ro false),.st 4 (.t 2) (.t 4)]) (.keep [2] .ret)))
def Ye:AF where
 nargs:=2
 ntmps:=8
 res:=[.cell 4 true 4]
 body:=(.seq (.reg [.new 4 (.c (.a [(I 0),(S []),(I 0),(.n 4)]))]) (.seq (.reg [.mv 5 (.t 0),.mv 6 (.t 1),.build 7 (.a [(I 0),(S []),(I 0),(.n 4)]) [(0,1,(.c (I 4))),(1,1,(.t 5)),(3,1,(.t 6))],.st 4 (.t 4) (.t 7)]) (.keep [4] .ret)))
def kL:AF where
 nargs:=2
 ntmps:=25
 res:=[.tmp 4,.tmp 5]
 body:=(.seq (.reg [.mv 4 (.c (S [])),.mv 5 (.c (B false))]) (.seq (.reg [.mv 7 (.t 1),.slen 8 (.t 7),.bin 9 .add (.t 8) (.c (I 1)),.mv 6 (.t 9)]) (.keep [0,1,6] (.seq (.seq (.reg [.mv 10 (.t 0),.slen 11 (.t 10),.mv 12 (.t 6),.bin 13 .lss (.t 11) (.t 12),.mv 14 (.t 13),.gd 14 false (some 15) (.mv 15 (.t 0)),.gd 14 false (some 16) (.mv 16 (.t 6)),.gd 14 false (some 17) (.ssl 17 (.t 15) none (some (.t 16))),.gd 14 false (some 18) (.mv 18 (.t 1)),.gd 14 false (some 19) (.bin 19 .add (.t 18) (.c (S [32]))),.gd 14 false (some 20) (.bin 20 .neq (.t 17) (.t 19)),.pick 21 (.t 14) (.c (B true)) (.t 20)]) (.keep [0,6,21] (.cond (.t 21) (.seq (.reg [.mv 4 (.c (S [])),.mv 5 (.c (B false))]) (.keep [4,5] .ret)) .skip))) (.keep [0,6] (.seq (.reg [.mv 22 (.t 0),.mv 23 (.t 6),.ssl 24 (.t 22) (some (.t 23)) none,.mv 4 (.t 24),.mv 5 (.c (B true))]) (.keep [4,5] .ret)))))))
def Zp:AC:=(.seq (.seq (.reg [.mv 9 (.t 7),.mv 10 (.t 0),.len 11 (.t 10),.bin 12 .lss (.t 9) (.t 11)]) (.keep [0,6,7,12] (.cond (.t 12) .skip (.keep [] (.exit 0))))) (.keep [0,6,7] (.seq (.block 1 (.seq (.seq (.reg [.mv 15 (.t 0),.mv 16 (.t 7),.ia 17 1 (.t 15) (.t 16),.ld 18 false 1 (.t 17),.bin 19 .eql (.t 18) (.c (S [101,110,100]))]) (.keep [0,6,7,19] (.cond (.t 19) (.seq (.reg [.mv 20 (.t 6),.mv 21 (.t 7),.bin 22 .add (.t 21) (.c (I 1)),.mv 4 (.t 20),.mv 5 (.t 22)]) (.keep [4,5] .ret)) .skip))) (.keep [0,6,7] (.reg [.mv 23 (.t 6),.mv 24 (.t 0),.mv 25 (.t 7),.ia 26 1 (.t 24) (.t 25),.ld 27 false 1 (.t 26),.bin 28 .add (.t 23) (.t 27),.bin 29 .add (.t 28) (.c (S [10])),.mv 6 (.t 29)])))) (.keep [0,6,7] (.reg [.mv 13 (.t 7),.bin 14 .add (.t 13) (.c (I 1)),.mv 7 (.t 14)])))))
def kP:Lp:=⟨[0,6,7],[(2,0)],Zp⟩
@[go_sem] theorem qmj:kP.ls=[0,6,7]:=rfl
@[go_sem] theorem qmi:kP.ks=[(2,0)]:=rfl
@[go_sem] theorem qmh:kP.body=Zp:=rfl
def jq:AF where
 nargs:=2
 ntmps:=30
 res:=[.tmp 4,.tmp 5]
 body:=(.seq (.reg [.mv 4 (.c (S [])),.mv 5 (.c (I 0))]) (.seq (.reg [.mv 6 (.c (S []))]) (.seq (.seq (.reg [.mv 8 (.t 1),.mv 7 (.t 8)]) (.block 0 (lpC kP))) (.keep [] (.seq (.reg [.mv 4 (.c (S [])),.mv 5 (.c (I (-1)))]) (.keep [4,5] .ret))))))
def Zn:AC:=(.seq (.seq (.reg [.mv 4 (.t 3),.mv 5 (.t 0),.slen 6 (.t 5),.bin 7 .lss (.t 4) (.t 6)]) (.keep [0,3,7] (.cond (.t 7) .skip (.keep [0] (.exit 0))))) (.keep [0,3] (.seq (.block 1 (.seq (.reg [.mv 10 (.t 0),.mv 11 (.t 3),.ix 12 (.t 10) (.t 11),.call (some 13) (.c (Fc Kg)) [(.t 12)] (.ro true),.un 14 .not (.t 13)]) (.keep [0,3,14] (.cond (.t 14) (.seq (.reg [.mv 2 (.c (B false))]) (.keep [2] .ret)) .skip)))) (.keep [0,3] (.reg [.mv 8 (.t 3),.bin 9 .add (.t 8) (.c (I 1)),.mv 3 (.t 9)])))))
def Zh:Lp:=⟨[0,3],[(1,0)],Zn⟩
@[go_sem] theorem qmd:Zh.ls=[0,3]:=rfl
@[go_sem] theorem qmc:Zh.ks=[(1,0)]:=rfl
@[go_sem] theorem qmb:Zh.body=Zn:=rfl
def jo:AF where
 nargs:=1
 ntmps:=18
 res:=[.tmp 2]
 body:=(.seq (.reg [.mv 2 (.c (B false))]) (.seq (.seq (.reg [.mv 3 (.c (I 0))]) (.block 0 (lpC Zh))) (.keep [0] (.seq (.reg [.mv 15 (.t 0),.slen 16 (.t 15),.call (some 17) (.c (Fc js)) [(.t 16),(.c (I 1)),(.c (I 8))] (.ro false),.mv 2 (.t 17)]) (.keep [2] .ret)))))
def jk:AF where
 nargs:=2
 ntmps:=15
 res:=[.tmp 4,.tmp 5]
 body:=(.seq (.reg [.mv 4 (.c (S [])),.mv 5 (.c (B false))]) (.seq (.seq (.reg [.mv 6 (.t 0),.mv 7 (.t 1),.call (some 8) (.c (Fc X9)) [(.t 6),(.t 7)] (.ro true),.un 9 .not (.t 8)]) (.keep [0,1,9] (.cond (.t 9) (.seq (.reg [.mv 10 (.t 0),.mv 4 (.t 10),.mv 5 (.c (B false))]) (.keep [4,5] .ret)) .skip))) (.keep [0,1] (.seq (.reg [.mv 11 (.t 0),.mv 12 (.t 1),.slen 13 (.t 12),.ssl 14 (.t 11) (some (.t 13)) none,.mv 4 (.t 14),.mv 5 (.c (B true))]) (.keep [4,5] .ret)))))
def jj:AF where
 nargs:=1
 ntmps:=13
 res:=[.tmp 2]
 body:=(.seq (.reg [.mv 2 (.c (B false))]) (.seq (.reg [.mv 3 (.t 0),.slen 4 (.t 3),.call (some 5) (.c (Fc kM)) [(.t 4),(.c (I 1)),(.c (I 8))] (.ro false),.mv 6 (.t 5),.gd 6 true (some 7) (.mv 7 (.t 0)),.gd 6 true (some 8) (.call (some 8) (.c (Fc X7)) [(.t 7),(.c (I 0)),(.c (Fc YH))] (.ro false)),.gd 6 true (some 9) (.mv 9 (.t 0)),.gd 6 true (some 10) (.slen 10 (.t 9)),.gd 6 true (some 11) (.bin 11 .eql (.t 8) (.t 10)),.pick 12 (.t 6) (.t 11) (.c (B false)),.mv 2 (.t 12)]) (.keep [2] .ret)))
def YB:AF where
 nargs:=3
 ntmps:=12
 res:=[.cell 6 true 4]
 body:=(.seq (.reg [.new 4 (.t 1),.new 5 (.t 2),.new 6 (.c (.a [(I 0),(S []),(I 0),(.n 4)]))]) (.seq (.reg [.mv 7 (.t 0),.ld 8 true 4 (.t 4),.ld 9 true 4 (.t 5),.mks 10 4 [(.t 8),(.t 9)],.build 11 (.a [(I 0),(S []),(I 0),(.n 4)]) [(0,1,(.c (I 4))),(1,1,(.t 7)),(3,1,(.t 10))],.st 4 (.t 6) (.t 11)]) (.keep [6] .ret)))
def qac:AC:=(.seq (.reg [.bin 85 .lss (.t 84) (.t 83)]) (.seq (.cond (.t 85) .skip (.keep [5] (.exit 1))) (.keep [1,5,82,83,84] (.seq (.block 2 (.seq (.reg [.ia 86 4 (.t 82) (.t 84),.ld 87 true 4 (.t 86),.new 7 (.c (.a [(I 0),(S []),(I 0),(.n 4)])),.st 4 (.t 7) (.t 87)]) (.keep [1,5,7,82,83,84] (.seq (.reg [.mv 88 (.t 5),.ld 89 true 4 (.t 7),.mv 90 (.t 1),.bin 91 .add (.t 90) (.c (I 1)),.call (some 92) (.c (Fc J2)) [(.t 89),(.t 91)] (.ro false),.bin 93 .add (.t 88) (.t 92),.mv 5 (.t 93)]) (.keep [1,5,82,83,84] (.seq (.reg [.mv 94 (.t 5),.bin 95 .gtr (.t 94) (.c (I 400))]) (.cond (.t 95) (.seq (.reg [.mv 4 (.c (I 401))]) (.keep [4] .ret)) .skip))))))) (.keep [1,5,82,83,84] (.reg [.bin 96 .add (.t 84) (.c (I 1)),.mv 84 (.t 96)]))))))
def YS:Lp:=⟨[1,5,82,83,84],[(2,0)],qac⟩
@[go_sem] theorem qlu:YS.ls=[1,5,82,83,84]:=rfl
@[go_sem] theorem qlt:YS.ks=[(2,0)]:=rfl
@[go_sem] theorem qls:YS.body=qac:=rfl
def Yd:AF where
 nargs:=2
 ntmps:=98
 res:=[.tmp 4]
 body:=(.seq (.reg [.new 2 (.t 0),.mv 4 (.c (I 0))]) (.seq (.seq (.reg [.mv 8 (.t 1),.bin 9 .gtr (.t 8) (.c (I 40))]) (.cond (.t 9) (.seq (.reg [.mv 4 (.c (I 401))]) (.keep [4] .ret)) .skip)) (.keep [1,2] (.seq (.seq (.reg [.fa 10 (.t 2) 0,.ld 11 false 1 (.t 10)]) (.block 0 (.seq (.reg [.bin 13 .eql (.t 11) (.c (I 1)),.mv 12 (.t 13)]) (.cond (.t 12) (.seq (.reg [.fa 14 (.t 2) 1,.ld 15 false 1 (.t 14),.bin 16 .neq (.t 15) (.c (S [])),.mv 17 (.t 16),.gd 17 false (some 18) (.fa 18 (.t 2) 2),.gd 17 false (some 19) (.ld 19 false 1 (.t 18)),.gd 17 false (some 20) (.call (some 20) (.c (Fc kM)) [(.t 19),(.c (I 0)),(.c (I 99999))] (.ro true)),.gd 17 false (some 21) (.un 21 .not (.t 20)),.pick 22 (.t 17) (.c (B true)) (.t 21),.mv 23 (.t 22),.gd 23 false (some 24) (.fa 24 (.t 2) 3),.gd 23 false (some 25) (.ld 25 false 1 (.t 24)),.gd 23 false (some 26) (.len 26 (.t 25)),.gd 23 false (some 27) (.bin 27 .gtr (.t 26) (.c (I 0))),.pick 28 (.t 23) (.c (B true)) (.t 27)]) (.keep [1,2,28] (.cond (.t 28) (.seq (.reg [.mv 4 (.c (I 401))]) (.keep [4] .ret)) .skip))) (.seq (.reg [.bin 30 .eql (.t 11) (.c (I 2)),.mv 29 (.t 30)]) (.cond (.t 29) (.seq (.reg [.fa 31 (.t 2) 1,.ld 32 false 1 (.t 31),.call (some 33) (.c (Fc J0)) [(.t 32)] (.ro true),.un 34 .not (.t 33),.mv 35 (.t 34),.gd 35 false (some 36) (.fa 36 (.t 2) 2),.gd 35 false (some 37) (.ld 37 false 1 (.t 36)),.gd 35 false (some 38) (.bin 38 .neq (.t 37) (.c (I 0))),.pick 39 (.t 35) (.c (B true)) (.t 38),.mv 40 (.t 39),.gd 40 false (some 41) (.fa 41 (.t 2) 3),.gd 40 false (some 42) (.ld 42 false 1 (.t 41)),.gd 40 false (some 43) (.len 43 (.t 42)),.gd 40 false (some 44) (.bin 44 .gtr (.t 43) (.c (I 0))),.pick 45 (.t 40) (.c (B true)) (.t 44)]) (.keep [1,2,45] (.cond (.t 45) (.seq (.reg [.mv 4 (.c (I 401))]) (.keep [4] .ret)) .skip))) (.seq (.reg [.bin 47 .eql (.t 11) (.c (I 3)),.mv 46 (.t 47)]) (.cond (.t 46) (.seq (.reg [.fa 48 (.t 2) 1,.ld 49 false 1 (.t 48),.bin 50 .neq (.t 49) (.c (S [])),.mv 51 (.t 50),.gd 51 false (some 52) (.fa 52 (.t 2) 2),.gd 51 false (some 53) (.ld 53 false 1 (.t 52)),.gd 51 false (some 54) (.call (some 54) (.c (Fc kM)) [(.t 53),(.c (I (-999999999))),(.c (I 999999999))] (.ro true)),.gd 51 false (some 55) (.un 55 .not (.t 54)),.pick 56 (.t 51) (.c (B true)) (.t 55),.mv 57 (.t 56),.gd 57 false (some 58) (.fa 58 (.t 2) 3),.gd 57 false (some 59) (.ld 59 false 1 (.t 58)),.gd 57 false (some 60) (.len 60 (.t 59)),.gd 57 false (some 61) (.bin 61 .gtr (.t 60) (.c (I 0))),.pick 62 (.t 57) (.c (B true)) (.t 61)]) (.keep [1,2,62] (.cond (.t 62) (.seq (.reg [.mv 4 (.c (I 401))]) (.keep [4] .ret)) .skip))) (.seq (.reg [.bin 64 .eql (.t 11) (.c (I 4)),.mv 63 (.t 64)]) (.cond (.t 63) (.seq (.reg [.fa 65 (.t 2) 1,.ld 66 false 1 (.t 65),.call (some 67) (.c (Fc J0)) [(.t 66)] (.ro true),.un 68 .not (.t 67),.mv 69 (.t 68),.gd 69 false (some 70) (.fa 70 (.t 2) 2),.gd 69 false (some 71) (.ld 71 false 1 (.t 70)),.gd 69 false (some 72) (.bin 72 .neq (.t 71) (.c (I 0))),.pick 73 (.t 69) (.c (B true)) (.t 72),.mv 74 (.t 73),.gd 74 false (some 75) (.fa 75 (.t 2) 3),.gd 74 false (some 76) (.ld 76 false 1 (.t 75)),.gd 74 false (some 77) (.len 77 (.t 76)),.gd 74 false (some 78) (.call (some 78) (.c (Fc kM)) [(.t 77),(.c (I 1)),(.c (I 5))] (.ro true)),.gd 74 false (some 79) (.un 79 .not (.t 78)),.pick 80 (.t 74) (.c (B true)) (.t 79)]) (.keep [1,2,80] (.cond (.t 80) (.seq (.reg [.mv 4 (.c (I 401))]) (.keep [4] .ret)) .skip))) (.seq (.reg [.mv 4 (.c (I 401))]) (.keep [4] .ret)))))))))))) (.keep [1,2] (.seq (.reg [.mv 5 (.c (I 1))]) (.seq (.seq (.reg [.fa 81 (.t 2) 3,.ld 82 false 1 (.t 81),.len 83 (.t 82),.mv 84 (.c (I 0))]) (.keep [1,5,82,83,84] (.block 1 (lpC YS)))) (.keep [5] (.seq (.reg [.mv 97 (.t 5),.mv 4 (.t 97)]) (.keep [4] .ret))))))))))
def Yq:AF where
 nargs:=2
 ntmps:=9
 res:=[.tmp 4]
 body:=(.seq (.reg [.mv 4 (.c (B false))]) (.seq (.reg [.mv 5 (.t 0),.mv 6 (.t 1),.call (some 7) (.c (Fc qd7)) [(.t 5),(.t 6)] (.ro false),.bin 8 .geq (.t 7) (.c (I 0)),.mv 4 (.t 8)]) (.keep [4] .ret)))
def qab:AC:=(.seq (.reg [.bin 22 .lss (.t 21) (.t 20)]) (.seq (.cond (.t 22) .skip (.keep [4,5] (.exit 0))) (.keep [1,4,5,19,20,21] (.seq (.block 1 (.seq (.reg [.ia 23 4 (.t 19) (.t 21),.ld 24 true 4 (.t 23),.new 7 (.c (.a [(I 0),(S []),(I 0),(.n 4)])),.st 4 (.t 7) (.t 24)]) (.keep [1,4,5,7,19,20,21] (.dreg [⟨0,[]⟩,⟨0,[(5,0),(100000,0),(100000,1),(100000,2),(100000,3),(100000,4),(100000,5)]⟩,⟨0,[(7,0)]⟩,⟨0,[]⟩,⟨2,[(0,0),(0,1),(0,2),(0,3),(1,0),(1,1),(1,2),(1,3),(19,0),(24,0),(27,0),(100000,0),(100000,1),(100000,2),(100000,3),(100000,4),(100000,5)]⟩,⟨1,[]⟩,⟨1,[(0,0),(0,1),(0,2),(0,3),(1,0),(1,1),(1,2),(1,3),(19,0),(24,0),(27,0),(29,0),(29,1),(29,2),(29,3),(30,0),(500000,0),(100000,0),(100000,1),(100000,2),(100000,3),(100000,4),(100000,5)]⟩,⟨0,[]⟩,⟨1,[(5,0),(100000,0),(100000,1),(100000,2),(100000,3),(100000,4),(100000,5)]⟩] [.fa 25 (.t 5) 3,.ldq 26 false 1 (.t 25),.ldq 27 true 4 (.t 7),.mv 28 (.t 1),.call (some 29) (.c (Fc J1)) [(.t 27),(.t 28)] (.ro false),.mks 30 4 [(.t 29)],.app 31 4 56 (.t 26) (.t 30),.fa 32 (.t 5) 3,.st 1 (.t 32) (.t 31)])))) (.keep [1,4,5,19,20,21] (.reg [.bin 33 .add (.t 21) (.c (I 1)),.mv 21 (.t 33)]))))))
def YR:Lp:=⟨[1,4,5,19,20,21],[(2,0)],qab⟩
@[go_sem] theorem qlo:YR.ls=[1,4,5,19,20,21]:=rfl
@[go_sem] theorem qln:YR.ks=[(2,0)]:=rfl
@[go_sem] theorem qlm:YR.body=qab:=rfl
def Yc:AF where
 nargs:=2
 ntmps:=35
 res:=[.cell 4 true 4]
 body:=(.seq (.reg [.new 2 (.t 0),.new 4 (.c (.a [(I 0),(S []),(I 0),(.n 4)]))]) (.seq (.reg [.ld 8 true 4 (.t 2),.new 5 (.c (.a [(I 0),(S []),(I 0),(.n 4)])),.st 4 (.t 5) (.t 8)]) (.seq (.reg [.fa 9 (.t 5) 3,.st 1 (.t 9) (.c (.n 4))]) (.seq (.seq (.reg [.fa 10 (.t 2) 0,.ld 11 false 1 (.t 10),.bin 12 .eql (.t 11) (.c (I 1))]) (.cond (.t 12) (.reg [.mv 13 (.t 1),.fa 14 (.t 2) 2,.ld 15 false 1 (.t 14),.call (some 16) (.t 13) [(.t 15)] (.ro false),.fa 17 (.t 5) 2,.st 1 (.t 17) (.t 16)]) .skip)) (.keep [1,2,4,5] (.seq (.seq (.reg [.fa 18 (.t 2) 3,.ld 19 false 1 (.t 18),.len 20 (.t 19),.mv 21 (.c (I 0))]) (.keep [1,4,5,19,20,21] (.block 0 (lpC YR)))) (.keep [4,5] (.seq (.reg [.ld 34 true 4 (.t 5),.st 4 (.t 4) (.t 34)]) (.keep [4] .ret)))))))))
def Ya:AF where
 nargs:=1
 ntmps:=4
 res:=[.tmp 2]
 body:=(.seq (.reg [.mv 2 (.c (I 0))]) (.seq (.reg [.mv 3 (.t 0),.mv 2 (.t 3)]) (.keep [2] .ret)))
def kK:AF where
 nargs:=1
 ntmps:=9
 res:=[.tmp 2]
 body:=(.seq (.reg [.mv 2 (.c (B false))]) (.seq (.reg [.mv 3 (.t 0),.bin 4 .geq (.t 3) (.c (U8 97)),.mv 5 (.t 4),.gd 5 true (some 6) (.mv 6 (.t 0)),.gd 5 true (some 7) (.bin 7 .leq (.t 6) (.c (U8 122))),.pick 8 (.t 5) (.t 7) (.c (B false)),.mv 2 (.t 8)]) (.keep [2] .ret)))
def jX:AF where
 nargs:=3
 ntmps:=15
 res:=[.tmp 6]
 body:=(.seq (.reg [.mv 6 (.c (B false))]) (.seq (.reg [.mv 7 (.t 0),.mv 8 (.t 1),.bin 9 .geq (.t 7) (.t 8),.mv 10 (.t 9),.gd 10 true (some 11) (.mv 11 (.t 0)),.gd 10 true (some 12) (.mv 12 (.t 2)),.gd 10 true (some 13) (.bin 13 .leq (.t 11) (.t 12)),.pick 14 (.t 10) (.t 13) (.c (B false)),.mv 6 (.t 14)]) (.keep [6] .ret)))
def jl:AF where
 nargs:=2
 ntmps:=18
 res:=[.tmp 4]
 body:=(.seq (.reg [.mv 4 (.c (B false))]) (.seq (.reg [.mv 5 (.t 0),.slen 6 (.t 5),.mv 7 (.t 1),.slen 8 (.t 7),.bin 9 .geq (.t 6) (.t 8),.mv 10 (.t 9),.gd 10 true (some 11) (.mv 11 (.t 0)),.gd 10 true (some 12) (.mv 12 (.t 1)),.gd 10 true (some 13) (.slen 13 (.t 12)),.gd 10 true (some 14) (.ssl 14 (.t 11) none (some (.t 13))),.gd 10 true (some 15) (.mv 15 (.t 1)),.gd 10 true (some 16) (.bin 16 .eql (.t 14) (.t 15)),.pick 17 (.t 10) (.t 16) (.c (B false)),.mv 4 (.t 17)]) (.keep [4] .ret)))
def jU:AF where
 nargs:=3
 ntmps:=15
 res:=[.tmp 6]
 body:=(.seq (.reg [.mv 6 (.c (B false))]) (.seq (.reg [.mv 7 (.t 0),.mv 8 (.t 1),.bin 9 .geq (.t 7) (.t 8),.mv 10 (.t 9),.gd 10 true (some 11) (.mv 11 (.t 0)),.gd 10 true (some 12) (.mv 12 (.t 2)),.gd 10 true (some 13) (.bin 13 .leq (.t 11) (.t 12)),.pick 14 (.t 10) (.t 13) (.c (B false)),.mv 6 (.t 14)]) (.keep [6] .ret)))
def Zl:AC:=(.seq (.seq (.reg [.mv 7 (.t 1),.mv 8 (.t 0),.slen 9 (.t 8),.bin 10 .lss (.t 7) (.t 9),.mv 11 (.t 10),.gd 11 true (some 12) (.mv 12 (.t 2)),.gd 11 true (some 13) (.mv 13 (.t 0)),.gd 11 true (some 14) (.mv 14 (.t 1)),.gd 11 true (some 15) (.ix 15 (.t 13) (.t 14)),.gd 11 true (some 16) (.call (some 16) (.t 12) [(.t 15)] (.ro true)),.pick 17 (.t 11) (.t 16) (.c (B false))]) (.keep [0,1,2,17] (.cond (.t 17) .skip (.keep [1] (.exit 0))))) (.keep [0,1,2] (.block 1 (.reg [.mv 18 (.t 1),.bin 19 .add (.t 18) (.c (I 1)),.mv 1 (.t 19)]))))
def Zd:Lp:=⟨[0,1,2],[(3,0)],Zl⟩
@[go_sem] theorem qlr:Zd.ls=[0,1,2]:=rfl
@[go_sem] theorem qlq:Zd.ks=[(3,0)]:=rfl
@[go_sem] theorem qlp:Zd.body=Zl:=rfl
def jT:AF where
 nargs:=3
 ntmps:=21
 res:=[.tmp 6]
 body:=(.seq (.reg [.mv 6 (.c (I 0))]) (.seq (.block 0 (lpC Zd)) (.keep [1] (.seq (.reg [.mv 20 (.t 1),.mv 6 (.t 20)]) (.keep [6] .ret)))))
def kH:AF where
 nargs:=1
 ntmps:=9
 res:=[.tmp 2]
 body:=(.seq (.reg [.mv 2 (.c (B false))]) (.seq (.reg [.mv 3 (.t 0),.bin 4 .geq (.t 3) (.c (U8 97)),.mv 5 (.t 4),.gd 5 true (some 6) (.mv 6 (.t 0)),.gd 5 true (some 7) (.bin 7 .leq (.t 6) (.c (U8 122))),.pick 8 (.t 5) (.t 7) (.c (B false)),.mv 2 (.t 8)]) (.keep [2] .ret)))
def Yv:AF where
 nargs:=1
 ntmps:=10
 res:=[.tmp 2]
 body:=(.seq (.reg [.new 1 (.t 0),.mv 2 (.c (B false))]) (.seq (.reg [.ld 3 true 4 (.t 1),.call (some 4) (.c (Fc J4)) [(.t 3),(.c (I 400))] (.ro false),.bin 5 .geq (.t 4) (.c (I 0)),.mv 6 (.t 5),.gd 6 true (some 7) (.ld 7 true 4 (.t 1)),.gd 6 true (some 8) (.call (some 8) (.c (Fc J6)) [(.t 7),(.c (I 1))] (.ro false)),.pick 9 (.t 6) (.t 8) (.c (B false)),.mv 2 (.t 9)]) (.keep [2] .ret)))
def qaa:AC:=(.seq (.seq (.reg [.mv 4 (.t 3),.mv 5 (.t 0),.slen 6 (.t 5),.bin 7 .lss (.t 4) (.t 6)]) (.keep [0,3,7] (.cond (.t 7) .skip (.keep [0] (.exit 0))))) (.keep [0,3] (.seq (.block 1 (.seq (.reg [.mv 10 (.t 0),.mv 11 (.t 3),.ix 12 (.t 10) (.t 11),.int 13 .i64 (.t 12),.call (some 14) (.c (Fc kM)) [(.t 13),(.c (I 33)),(.c (I 126))] (.ro true),.un 15 .not (.t 14),.mv 16 (.t 15),.gd 16 false (some 17) (.mv 17 (.t 0)),.gd 16 false (some 18) (.mv 18 (.t 3)),.gd 16 false (some 19) (.ix 19 (.t 17) (.t 18)),.gd 16 false (some 20) (.bin 20 .eql (.t 19) (.c (U8 39))),.pick 21 (.t 16) (.c (B true)) (.t 20),.mv 22 (.t 21),.gd 22 false (some 23) (.mv 23 (.t 0)),.gd 22 false (some 24) (.mv 24 (.t 3)),.gd 22 false (some 25) (.ix 25 (.t 23) (.t 24)),.gd 22 false (some 26) (.bin 26 .eql (.t 25) (.c (U8 34))),.pick 27 (.t 22) (.c (B true)) (.t 26)]) (.keep [0,3,27] (.cond (.t 27) (.seq (.reg [.mv 2 (.c (B false))]) (.keep [2] .ret)) .skip)))) (.keep [0,3] (.reg [.mv 8 (.t 3),.bin 9 .add (.t 8) (.c (I 1)),.mv 3 (.t 9)])))))
def YQ:Lp:=⟨[0,3],[(1,0)],qaa⟩
@[go_sem] theorem qll:YQ.ls=[0,3]:=rfl
@[go_sem] theorem qlk:YQ.ks=[(1,0)]:=rfl
@[go_sem] theorem qlj:YQ.body=qaa:=rfl
def Yb:AF where
 nargs:=1
 ntmps:=31
 res:=[.tmp 2]
 body:=(.seq (.reg [.mv 2 (.c (B false))]) (.seq (.seq (.reg [.mv 3 (.c (I 0))]) (.block 0 (lpC YQ))) (.keep [0] (.seq (.reg [.mv 28 (.t 0),.slen 29 (.t 28),.call (some 30) (.c (Fc kM)) [(.t 29),(.c (I 1)),(.c (I 20))] (.ro false),.mv 2 (.t 30)]) (.keep [2] .ret)))))
def qai:AC:=(.seq (.reg [.bin 9 .lss (.t 8) (.t 7)]) (.seq (.cond (.t 9) .skip (.keep [] (.exit 0))) (.keep [0,1,7,8] (.seq (.block 1 (.seq (.reg [.mv 10 (.t 8),.mv 5 (.t 10)]) (.seq (.reg [.mv 11 (.t 1),.mv 12 (.t 0),.mv 13 (.t 5),.ia 14 1 (.t 12) (.t 13),.ld 15 false 1 (.t 14),.bin 16 .eql (.t 11) (.t 15)]) (.keep [0,1,5,7,8,16] (.cond (.t 16) (.seq (.reg [.mv 17 (.t 5),.mv 4 (.t 17)]) (.keep [4] .ret)) .skip))))) (.keep [0,1,7,8] (.reg [.bin 18 .add (.t 8) (.c (I 1)),.mv 8 (.t 18)]))))))
def YY:Lp:=⟨[0,1,7,8],[(2,0)],qai⟩
@[go_sem] theorem qlV:YY.ls=[0,1,7,8]:=rfl
@[go_sem] theorem qlU:YY.ks=[(2,0)]:=rfl
@[go_sem] theorem qlT:YY.body=qai:=rfl
def Yr:AF where
 nargs:=2
 ntmps:=19
 res:=[.tmp 4]
 body:=(.seq (.reg [.mv 4 (.c (I 0))]) (.seq (.seq (.reg [.mv 6 (.t 0),.len 7 (.t 6),.mv 8 (.c (I 0))]) (.block 0 (lpC YY))) (.keep [] (.seq (.reg [.mv 4 (.c (I (-1)))]) (.keep [4] .ret)))))
def qak:AC:=(.seq (.seq (.reg [.mv 8 (.t 5),.fa 9 (.t 2) 3,.ld 10 false 1 (.t 9),.len 11 (.t 10),.bin 12 .lss (.t 8) (.t 11),.mv 13 (.t 12),.gd 13 true (some 14) (.mv 14 (.t 1)),.gd 13 true (some 15) (.bin 15 .geq (.t 14) (.c (I 0))),.pick 16 (.t 13) (.t 15) (.c (B false))]) (.keep [1,2,5,16] (.cond (.t 16) .skip (.keep [1] (.exit 0))))) (.keep [1,2,5] (.seq (.block 1 (.reg [.fa 19 (.t 2) 3,.ld 20 false 1 (.t 19),.mv 21 (.t 5),.ia 22 4 (.t 20) (.t 21),.ld 23 true 4 (.t 22),.mv 24 (.t 1),.call (some 25) (.c (Fc J4)) [(.t 23),(.t 24)] (.ro false),.mv 1 (.t 25)])) (.keep [1,2,5] (.reg [.mv 17 (.t 5),.bin 18 .add (.t 17) (.c (I 1)),.mv 5 (.t 18)])))))
def Y0:Lp:=⟨[1,2,5],[(2,0)],qak⟩
@[go_sem] theorem ql4:Y0.ls=[1,2,5]:=rfl
@[go_sem] theorem ql3:Y0.ks=[(2,0)]:=rfl
@[go_sem] theorem ql2:Y0.body=qak:=rfl
def Yx:AF where
 nargs:=2
 ntmps:=27
 res:=[.tmp 4]
 body:=(.seq (.reg [.new 2 (.t 0),.mv 4 (.c (I 0))]) (.seq (.reg [.mv 6 (.t 1),.bin 7 .sub (.t 6) (.c (I 1)),.mv 1 (.t 7)]) (.seq (.seq (.reg [.mv 5 (.c (I 0))]) (.block 0 (lpC Y0))) (.keep [1] (.seq (.reg [.mv 26 (.t 1),.mv 4 (.t 26)]) (.keep [4] .ret))))))
def qam:AC:=(.seq (.seq (.reg [.mv 13 (.t 5),.fa 14 (.t 2) 3,.ld 15 false 1 (.t 14),.len 16 (.t 15),.bin 17 .lss (.t 13) (.t 16)]) (.keep [1,2,5,17] (.cond (.t 17) .skip (.keep [] (.exit 0))))) (.keep [1,2,5] (.seq (.block 1 (.seq (.reg [.fa 20 (.t 2) 3,.ld 21 false 1 (.t 20),.mv 22 (.t 5),.ia 23 4 (.t 21) (.t 22),.ld 24 true 4 (.t 23),.mv 25 (.t 1),.bin 26 .add (.t 25) (.c (I 1)),.call (some 27) (.c (Fc J6)) [(.t 24),(.t 26)] (.ro true),.un 28 .not (.t 27)]) (.keep [1,2,5,28] (.cond (.t 28) (.seq (.reg [.mv 4 (.c (B false))]) (.keep [4] .ret)) .skip)))) (.keep [1,2,5] (.reg [.mv 18 (.t 5),.bin 19 .add (.t 18) (.c (I 1)),.mv 5 (.t 19)])))))
def Y2:Lp:=⟨[1,2,5],[(2,0)],qam⟩
@[go_sem] theorem qma:Y2.ls=[1,2,5]:=rfl
@[go_sem] theorem ql9:Y2.ks=[(2,0)]:=rfl
@[go_sem] theorem ql8:Y2.body=qam:=rfl
def YA:AF where
 nargs:=2
 ntmps:=29
 res:=[.tmp 4]
 body:=(.seq (.reg [.new 2 (.t 0),.mv 4 (.c (B false))]) (.seq (.seq (.reg [.mv 6 (.t 1),.bin 7 .gtr (.t 6) (.c (I 40)),.mv 8 (.t 7),.gd 8 false (some 9) (.ld 9 true 4 (.t 2)),.gd 8 false (some 10) (.call (some 10) (.c (Fc qea)) [(.t 9)] (.ro true)),.gd 8 false (some 11) (.un 11 .not (.t 10)),.pick 12 (.t 8) (.c (B true)) (.t 11)]) (.keep [1,2,12] (.cond (.t 12) (.seq (.reg [.mv 4 (.c (B false))]) (.keep [4] .ret)) .skip))) (.keep [1,2] (.seq (.seq (.reg [.mv 5 (.c (I 0))]) (.block 0 (lpC Y2))) (.keep [] (.seq (.reg [.mv 4 (.c (B true))]) (.keep [4] .ret)))))))
def Yu:AF where
 nargs:=1
 ntmps:=19
 res:=[.tmp 2]
 body:=(.seq (.reg [.new 1 (.t 0),.mv 2 (.c (S []))]) (.seq (.seq (.reg [.fa 3 (.t 1) 0,.ld 4 false 1 (.t 3),.bin 5 .neq (.t 4) (.c (I 2)),.mv 6 (.t 5),.gd 6 true (some 7) (.fa 7 (.t 1) 0),.gd 6 true (some 8) (.ld 8 false 1 (.t 7)),.gd 6 true (some 9) (.bin 9 .neq (.t 8) (.c (I 4))),.pick 10 (.t 6) (.t 9) (.c (B false))]) (.keep [1,10] (.cond (.t 10) (.seq (.reg [.mv 2 (.c (S []))]) (.keep [2] .ret)) .skip))) (.keep [1] (.seq (.dreg [⟨0,[]⟩,⟨0,[(1,0)]⟩,⟨0,[]⟩,⟨0,[]⟩,⟨0,[(1,0)]⟩,⟨0,[(0,0),(0,1),(0,2),(0,3),(15,0)]⟩,⟨2,[(0,0),(0,1),(0,2),(0,3),(15,0)]⟩,⟨0,[]⟩,⟨0,[]⟩] [.fa 11 (.t 1) 1,.ldq 12 false 1 (.t 11),.bin 13 .add (.t 12) (.c (S [47])),.fa 14 (.t 1) 3,.ldq 15 false 1 (.t 14),.len 16 (.t 15),.call (some 17) (.c (Fc qd8)) [(.t 16)] (.ro false),.bin 18 .add (.t 13) (.t 17),.mv 2 (.t 18)]) (.keep [2] .ret)))))
def Ys:AF where
 nargs:=1
 ntmps:=32
 res:=[.tmp 2]
 body:=(.seq (.reg [.mv 2 (.c (B false))]) (.seq (.seq (.reg [.mv 3 (.t 0)]) (.block 0 (.seq (.seq (.reg [.bin 5 .eql (.t 3) (.c (S [116,114,117,101,47,48])),.mv 4 (.t 5)]) (.cond (.t 4) .skip (.seq (.reg [.bin 6 .eql (.t 3) (.c (S [102,97,105,108,47,48])),.mv 4 (.t 6)]) (.cond (.t 4) .skip (.seq (.reg [.bin 7 .eql (.t 3) (.c (S [33,47,48])),.mv 4 (.t 7)]) (.cond (.t 4) .skip (.seq (.reg [.bin 8 .eql (.t 3) (.c (S [44,47,50])),.mv 4 (.t 8)]) (.cond (.t 4) .skip (.seq (.reg [.bin 9 .eql (.t 3) (.c (S [59,47,50])),.mv 4 (.t 9)]) (.cond (.t 4) .skip (.seq (.reg [.bin 10 .eql (.t 3) (.c (S [45,62,47,50])),.mv 4 (.t 10)]) (.cond (.t 4) .skip (.seq (.reg [.bin 11 .eql (.t 3) (.c (S [92,43,47,49])),.mv 4 (.t 11)]) (.cond (.t 4) .skip (.seq (.reg [.bin 12 .eql (.t 3) (.c (S [99,97,108,108,47,49])),.mv 4 (.t 12)]) (.cond (.t 4) .skip (.seq (.reg [.bin 13 .eql (.t 3) (.c (S [99,97,108,108,47,50])),.mv 4 (.t 13)]) (.cond (.t 4) .skip (.seq (.reg [.bin 14 .eql (.t 3) (.c (S [99,97,108,108,47,51])),.mv 4 (.t 14)]) (.cond (.t 4) .skip (.seq (.reg [.bin 15 .eql (.t 3) (.c (S [99,97,116,99,104,47,51])),.mv 4 (.t 15)]) (.cond (.t 4) .skip (.reg [.bin 16 .eql (.t 3) (.c (S [116,104,114,111,119,47,49])),.mv 4 (.t 16)]))))))))))))))))))))))) (.keep [3,4] (.cond (.t 4) (.seq (.reg [.mv 2 (.c (B true))]) (.keep [2] .ret)) (.seq (.seq (.reg [.bin 18 .eql (.t 3) (.c (S [61,47,50])),.mv 17 (.t 18)]) (.cond (.t 17) .skip (.seq (.reg [.bin 19 .eql (.t 3) (.c (S [92,61,47,50])),.mv 17 (.t 19)]) (.cond (.t 17) .skip (.seq (.reg [.bin 20 .eql (.t 3) (.c (S [61,61,47,50])),.mv 17 (.t 20)]) (.cond (.t 17) .skip (.seq (.reg [.bin 21 .eql (.t 3) (.c (S [105,115,47,50])),.mv 17 (.t 21)]) (.cond (.t 17) .skip (.seq (.reg [.bin 22 .eql (.t 3) (.c (S [60,47,50])),.mv 17 (.t 22)]) (.cond (.t 17) .skip (.seq (.reg [.bin 23 .eql (.t 3) (.c (S [61,58,61,47,50])),.mv 17 (.t 23)]) (.cond (.t 17) .skip (.seq (.reg [.bin 24 .eql (.t 3) (.c (S [118,97,114,47,49])),.mv 17 (.t 24)]) (.cond (.t 17) .skip (.seq (.reg [.bin 25 .eql (.t 3) (.c (S [97,116,111,109,47,49])),.mv 17 (.t 25)]) (.cond (.t 17) .skip (.seq (.reg [.bin 26 .eql (.t 3) (.c (S [119,114,105,116,101,47,49])),.mv 17 (.t 26)]) (.cond (.t 17) .skip (.seq (.reg [.bin 27 .eql (.t 3) (.c (S [97,115,115,101,114,116,122,47,49])),.mv 17 (.t 27)]) (.cond (.t 17) .skip (.seq (.reg [.bin 28 .eql (.t 3) (.c (S [114,101,116,114,97,99,116,47,49])),.mv 17 (.t 28)]) (.cond (.t 17) .skip (.seq (.reg [.bin 29 .eql (.t 3) (.c (S [58,45,47,50])),.mv 17 (.t 29)]) (.cond (.t 17) .skip (.seq (.reg [.bin 30 .eql (.t 3) (.c (S [58,45,47,49])),.mv 17 (.t 30)]) (.cond (.t 17) .skip (.reg [.bin 31 .eql (.t 3) (.c (S [45,45,62,47,50])),.mv 17 (.t 31)]))))))))))))))))))))))))))) (.keep [17] (.cond (.t 17) (.seq (.reg [.mv 2 (.c (B true))]) (.keep [2] .ret)) .skip)))))))) (.keep [] (.seq (.reg [.mv 2 (.c (B false))]) (.keep [2] .ret)))))
def Yz:AF where
 nargs:=1
 ntmps:=69
 res:=[.tmp 2]
 body:=(.seq (.reg [.new 1 (.t 0),.mv 2 (.c (B false))]) (.seq (.seq (.reg [.fa 3 (.t 1) 0,.ld 4 false 1 (.t 3)]) (.block 0 (.seq (.reg [.bin 6 .eql (.t 4) (.c (I 1)),.mv 5 (.t 6)]) (.cond (.t 5) (.seq (.reg [.fa 7 (.t 1) 2,.ld 8 false 1 (.t 7),.call (some 9) (.c (Fc js)) [(.t 8),(.c (I 0)),(.c (I 99999))] (.ro false),.mv 10 (.t 9),.gd 10 true (some 11) (.fa 11 (.t 1) 1),.gd 10 true (some 12) (.ld 12 false 1 (.t 11)),.gd 10 true (some 13) (.bin 13 .eql (.t 12) (.c (S []))),.pick 14 (.t 10) (.t 13) (.c (B false)),.mv 15 (.t 14),.gd 15 true (some 16) (.fa 16 (.t 1) 3),.gd 15 true (some 17) (.ld 17 false 1 (.t 16)),.gd 15 true (some 18) (.len 18 (.t 17)),.gd 15 true (some 19) (.bin 19 .eql (.t 18) (.c (I 0))),.pick 20 (.t 15) (.t 19) (.c (B false)),.mv 2 (.t 20)]) (.keep [2] .ret)) (.seq (.reg [.bin 22 .eql (.t 4) (.c (I 2)),.mv 21 (.t 22)]) (.cond (.t 21) (.seq (.reg [.fa 23 (.t 1) 1,.ld 24 false 1 (.t 23),.call (some 25) (.c (Fc J5)) [(.t 24)] (.ro false),.mv 26 (.t 25),.gd 26 true (some 27) (.fa 27 (.t 1) 2),.gd 26 true (some 28) (.ld 28 false 1 (.t 27)),.gd 26 true (some 29) (.bin 29 .eql (.t 28) (.c (I 0))),.pick 30 (.t 26) (.t 29) (.c (B false)),.mv 31 (.t 30),.gd 31 true (some 32) (.fa 32 (.t 1) 3),.gd 31 true (some 33) (.ld 33 false 1 (.t 32)),.gd 31 true (some 34) (.len 34 (.t 33)),.gd 31 true (some 35) (.bin 35 .eql (.t 34) (.c (I 0))),.pick 36 (.t 31) (.t 35) (.c (B false)),.mv 2 (.t 36)]) (.keep [2] .ret)) (.seq (.reg [.bin 38 .eql (.t 4) (.c (I 3)),.mv 37 (.t 38)]) (.cond (.t 37) (.seq (.reg [.fa 39 (.t 1) 2,.ld 40 false 1 (.t 39),.call (some 41) (.c (Fc js)) [(.t 40),(.c (I (-999999999))),(.c (I 999999999))] (.ro false),.mv 42 (.t 41),.gd 42 true (some 43) (.fa 43 (.t 1) 1),.gd 42 true (some 44) (.ld 44 false 1 (.t 43)),.gd 42 true (some 45) (.bin 45 .eql (.t 44) (.c (S []))),.pick 46 (.t 42) (.t 45) (.c (B false)),.mv 47 (.t 46),.gd 47 true (some 48) (.fa 48 (.t 1) 3),.gd 47 true (some 49) (.ld 49 false 1 (.t 48)),.gd 47 true (some 50) (.len 50 (.t 49)),.gd 47 true (some 51) (.bin 51 .eql (.t 50) (.c (I 0))),.pick 52 (.t 47) (.t 51) (.c (B false)),.mv 2 (.t 52)]) (.keep [2] .ret)) (.seq (.reg [.bin 54 .eql (.t 4) (.c (I 4)),.mv 53 (.t 54)]) (.cond (.t 53) (.seq (.reg [.fa 55 (.t 1) 1,.ld 56 false 1 (.t 55),.call (some 57) (.c (Fc J5)) [(.t 56)] (.ro false),.mv 58 (.t 57),.gd 58 true (some 59) (.fa 59 (.t 1) 2),.gd 58 true (some 60) (.ld 60 false 1 (.t 59)),.gd 58 true (some 61) (.bin 61 .eql (.t 60) (.c (I 0))),.pick 62 (.t 58) (.t 61) (.c (B false)),.mv 63 (.t 62),.gd 63 true (some 64) (.fa 64 (.t 1) 3),.gd 63 true (some 65) (.ld 65 false 1 (.t 64)),.gd 63 true (some 66) (.len 66 (.t 65)),.gd 63 true (some 67) (.call (some 67) (.c (Fc js)) [(.t 66),(.c (I 1)),(.c (I 5))] (.ro false)),.pick 68 (.t 63) (.t 67) (.c (B false)),.mv 2 (.t 68)]) (.keep [2] .ret)) .skip)))))))))) (.keep [] (.seq (.reg [.mv 2 (.c (B false))]) (.keep [2] .ret)))))
def qaj:AC:=(.seq (.seq (.reg [.mv 10 (.t 0),.bin 11 .neq (.t 10) (.c (I 0))]) (.cond (.t 11) .skip (.keep [3,4] (.exit 0)))) (.keep [0,3,4] (.block 1 (.seq (.reg [.mv 12 (.t 0),.bin 13 .rem (.t 12) (.c (I 10)),.mv 5 (.t 13)]) (.seq (.seq (.reg [.mv 14 (.t 5),.bin 15 .lss (.t 14) (.c (I 0))]) (.cond (.t 15) (.reg [.mv 16 (.t 5),.un 17 .neg (.t 16),.mv 5 (.t 17)]) .skip)) (.keep [0,3,4,5] (.seq (.reg [.mv 18 (.t 5),.call (some 19) (.c (Fc qd9)) [(.t 18)] (.ro false),.mks 20 1 [(.t 19)],.str 21 (.t 20),.mv 22 (.t 4),.bin 23 .add (.t 21) (.t 22),.mv 4 (.t 23)]) (.keep [0,3,4] (.reg [.mv 24 (.t 0),.bin 25 .quo (.t 24) (.c (I 10)),.mv 0 (.t 25)])))))))))
def YZ:Lp:=⟨[0,3,4],[(1,0)],qaj⟩
@[go_sem] theorem qlY:YZ.ls=[0,3,4]:=rfl
@[go_sem] theorem qlX:YZ.ks=[(1,0)]:=rfl
@[go_sem] theorem qlW:YZ.body=qaj:=rfl
def Yt:AF where
 nargs:=1
 ntmps:=30
 res:=[.tmp 2]
 body:=(.seq (.reg [.mv 2 (.c (S []))]) (.seq (.seq (.reg [.mv 6 (.t 0),.bin 7 .eql (.t 6) (.c (I 0))]) (.cond (.t 7) (.seq (.reg [.mv 2 (.c (S [48]))]) (.keep [2] .ret)) .skip)) (.keep [0] (.seq (.reg [.mv 8 (.t 0),.bin 9 .lss (.t 8) (.c (I 0)),.mv 3 (.t 9)]) (.seq (.reg [.mv 4 (.c (S []))]) (.seq (.block 0 (lpC YZ)) (.keep [3,4] (.seq (.seq (.reg [.mv 26 (.t 3)]) (.cond (.t 26) (.seq (.reg [.mv 27 (.t 4),.bin 28 .add (.c (S [45])) (.t 27),.mv 2 (.t 28)]) (.keep [2] .ret)) .skip)) (.keep [4] (.seq (.reg [.mv 29 (.t 4),.mv 2 (.t 29)]) (.keep [2] .ret)))))))))))
def qal:AC:=(.seq (.seq (.reg [.mv 4 (.t 3),.mv 5 (.t 0),.slen 6 (.t 5),.bin 7 .lss (.t 4) (.t 6)]) (.keep [0,3,7] (.cond (.t 7) .skip (.keep [0] (.exit 0))))) (.keep [0,3] (.seq (.block 1 (.seq (.reg [.mv 10 (.t 0),.mv 11 (.t 3),.ix 12 (.t 10) (.t 11),.bin 13 .lss (.t 12) (.c (U8 33)),.mv 14 (.t 13),.gd 14 false (some 15) (.mv 15 (.t 0)),.gd 14 false (some 16) (.mv 16 (.t 3)),.gd 14 false (some 17) (.ix 17 (.t 15) (.t 16)),.gd 14 false (some 18) (.bin 18 .gtr (.t 17) (.c (U8 126))),.pick 19 (.t 14) (.c (B true)) (.t 18),.mv 20 (.t 19),.gd 20 false (some 21) (.mv 21 (.t 0)),.gd 20 false (some 22) (.mv 22 (.t 3)),.gd 20 false (some 23) (.ix 23 (.t 21) (.t 22)),.gd 20 false (some 24) (.bin 24 .eql (.t 23) (.c (U8 39))),.pick 25 (.t 20) (.c (B true)) (.t 24),.mv 26 (.t 25),.gd 26 false (some 27) (.mv 27 (.t 0)),.gd 26 false (some 28) (.mv 28 (.t 3)),.gd 26 false (some 29) (.ix 29 (.t 27) (.t 28)),.gd 26 false (some 30) (.bin 30 .eql (.t 29) (.c (U8 34))),.pick 31 (.t 26) (.c (B true)) (.t 30)]) (.keep [0,3,31] (.cond (.t 31) (.seq (.reg [.mv 2 (.c (B false))]) (.keep [2] .ret)) .skip)))) (.keep [0,3] (.reg [.mv 8 (.t 3),.bin 9 .add (.t 8) (.c (I 1)),.mv 3 (.t 9)])))))
def Y1:Lp:=⟨[0,3],[(1,0)],qal⟩
@[go_sem] theorem ql7:Y1.ls=[0,3]:=rfl
@[go_sem] theorem ql6:Y1.ks=[(1,0)]:=rfl
@[go_sem] theorem ql5:Y1.body=qal:=rfl
def Yy:AF where
 nargs:=1
 ntmps:=35
 res:=[.tmp 2]
 body:=(.seq (.reg [.mv 2 (.c (B false))]) (.seq (.seq (.reg [.mv 3 (.c (I 0))]) (.block 0 (lpC Y1))) (.keep [0] (.seq (.reg [.mv 32 (.t 0),.slen 33 (.t 32),.call (some 34) (.c (Fc js)) [(.t 33),(.c (I 1)),(.c (I 20))] (.ro false),.mv 2 (.t 34)]) (.keep [2] .ret)))))
def Yw:AF where
 nargs:=1
 ntmps:=12
 res:=[.tmp 2]
 body:=(.seq (.reg [.mv 2 (.c (U8 0))]) (.seq (.seq (.reg [.mv 3 (.t 0),.bin 4 .lss (.t 3) (.c (I 10))]) (.cond (.t 4) (.seq (.reg [.mv 5 (.t 0),.bin 6 .add (.c (I 48)) (.t 5),.int 7 .u8 (.t 6),.mv 2 (.t 7)]) (.keep [2] .ret)) .skip)) (.keep [0] (.seq (.reg [.mv 8 (.t 0),.bin 9 .add (.c (I 97)) (.t 8),.bin 10 .sub (.t 9) (.c (I 10)),.int 11 .u8 (.t 10),.mv 2 (.t 11)]) (.keep [2] .ret)))))
def XF:Nat→Option AE
 |4=>some (.fn jm)
 |5=>some (.fn Yk)
 |7=>some (.fn Yn)
 |9=>some (.fn Yh)
 |10=>some (.fn Yf)
 |14=>some (.fn kJ)
 |15=>some (.fn xK)
 |16=>some (.fn Yg)
 |17=>some (.fn jW)
 |18=>some (.fn jV)
 |19=>some (.fn Yl)
 |21=>some (.fn YC)
 |22=>some (.fn Yo)
 |25=>some (.fn Yi)
 |26=>some (.fn Yj)
 |28=>some (.fn jr)
 |29=>some (.fn jp)
 |30=>some (.fn xL)
 |31=>some (.fn xf)
 |32=>some (.prim jN)
 |33=>some (.prim jS)
 |34=>some (.fn kI)
 |35=>some (.fn jY)
 |36=>some (.fn xd)
 |37=>some (.fn kf)
 |38=>some (.fn jn)
 |39=>some (.fn Ym)
 |42=>some (.fn YD)
 |43=>some (.fn Yp)
 |45=>some (.fn Z8)
 |46=>some (.fn Z7)
 |47=>some (.fn Z9)
 |49=>some (.fn Ye)
 |50=>some (.fn kL)
 |51=>some (.fn jq)
 |52=>some (.fn jo)
 |_=>none
def XG:Nat→Option AE
 |61=>some (.fn jk)
 |62=>some (.fn jj)
 |65=>some (.fn YB)
 |67=>some (.fn Yd)
 |68=>some (.fn Yq)
 |69=>some (.fn Yc)
 |70=>some (.fn Ya)
 |71=>some (.fn kK)
 |72=>some (.fn jX)
 |80=>some (.fn jl)
 |81=>some (.fn jU)
 |82=>some (.fn jT)
 |83=>some (.fn kH)
 |84=>some (.fn Yv)
 |87=>some (.fn Yb)
 |88=>some (.fn Yr)
 |95=>some (.fn Yx)
 |96=>some (.fn YA)
 |97=>some (.fn Yu)
 |98=>some (.fn Ys)
 |106=>some (.fn Yz)
 |107=>some (.fn Yt)
 |111=>some (.fn Yy)
 |112=>some (.fn Yw)
 |_=>none
def Ji:Nat→Option AE
 |_=>none
def qp(n:Nat):Option AE:=
 match XF n with
 |some e=>some e
 |none=>
 match XG n with
 |some e=>some e
 |none=>
 Ji n
theorem qcx:qp J3=some (.fn jm):=rfl
theorem qhc:qp Ke=some (.fn kJ):=rfl
theorem qgZ:qp YF=some (.fn xK):=rfl
theorem qha:qp Kb=some (.fn jW):=rfl
theorem qg9:qp YK=some (.fn jV):=rfl
theorem qhk:qp Kj=some (.fn jr):=rfl
theorem qhi:qp Kh=some (.fn jp):=rfl
theorem qcy:qp YM=some (.fn xL):=rfl
theorem qhd:qp Kf=some (.fn xf):=rfl
theorem qg3:qp X6=some (.fn kI):=rfl
theorem qhl:qp Za=some (.fn jY):=rfl
theorem qg0:qp X5=some (.fn xd):=rfl
theorem qg8:qp YI=some (.fn kf):=rfl
theorem qhb:qp kN=some (.fn jn):=rfl
theorem qhh:qp Q9=some (.fn kL):=rfl
theorem qhj:qp Ki=some (.fn jq):=rfl
theorem qhg:qp YL=some (.fn jo):=rfl
theorem qg6:qp X8=some (.fn jk):=rfl
theorem qg1:qp YG=some (.fn jj):=rfl
theorem qhf:qp Kg=some (.fn kK):=rfl
theorem qhe:qp js=some (.fn jX):=rfl
theorem qg7:qp X9=some (.fn jl):=rfl
theorem qg5:qp kM=some (.fn jU):=rfl
theorem qg4:qp X7=some (.fn jT):=rfl
theorem qg2:qp YH=some (.fn kH):=rfl
theorem qhm:qp Kk=some (.prim jN):=rfl
theorem qhn:qp J7=some (.prim jS):=rfl
end Go.Vm
