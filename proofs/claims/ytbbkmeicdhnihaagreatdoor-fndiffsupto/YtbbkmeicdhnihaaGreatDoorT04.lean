import Derived.Test.YtbbkmeicdhnihaaGreatDoorT03
set_option autoImplicit false
set_option maxRecDepth 100000
namespace Go.Vm
abbrev qDZ:Nat:=0
abbrev qC4:Nat:=1
abbrev qC5:Nat:=2
abbrev qDO:Nat:=3
abbrev qDN:Nat:=4
abbrev qDP:Nat:=5
abbrev qg3:Nat:=6
abbrev qDX:Nat:=7
abbrev qEA:Nat:=8
abbrev qDY:Nat:=9
abbrev qDj:Nat:=10
abbrev qDQ:Nat:=11
abbrev qEz:Nat:=12
abbrev qDi:Nat:=13
abbrev qDV:Nat:=14
abbrev qDS:Nat:=15
abbrev qg4:Nat:=16
abbrev qEr:Nat:=17
abbrev qkv:Nat:=18
abbrev qeC:Nat:=19
abbrev qEq:Nat:=20
abbrev qDe:Nat:=21
abbrev qEx:Nat:=22
abbrev qeA:Nat:=23
abbrev qEB:Nat:=24
abbrev qbl:Nat:=25
abbrev qEC:Nat:=26
abbrev qku:Nat:=27
abbrev qEw:Nat:=28
abbrev qhh:Nat:=29
abbrev Jk:Nat:=30
abbrev qgP:Nat:=31
abbrev qbm:Nat:=32
abbrev Jq:Nat:=33
abbrev qgQ:Nat:=34
abbrev Jm:Nat:=35
abbrev qgT:Nat:=36
abbrev qqG:Nat:=37
abbrev qqH:Nat:=38
abbrev qqK:Nat:=39
abbrev qqL:Nat:=40
abbrev qqA:Nat:=41
abbrev qqB:Nat:=42
abbrev qEU:Nat:=43
abbrev qeN:Nat:=44
abbrev qDd:Nat:=45
abbrev ZC:Nat:=46
abbrev qbg:Nat:=47
abbrev qDa:Nat:=48
abbrev qee:Nat:=49
abbrev qC8:Nat:=50
abbrev qDf:Nat:=51
abbrev qEj:Nat:=52
abbrev qgS:Nat:=53
abbrev qDU:Nat:=54
abbrev qDW:Nat:=55
abbrev qDR:Nat:=56
abbrev qDT:Nat:=57
abbrev qEF:Nat:=58
abbrev qhl:Nat:=59
abbrev Yl:Nat:=60
abbrev qg0:Nat:=61
abbrev qeD:Nat:=62
abbrev Yp:Nat:=63
abbrev qhB:Nat:=64
abbrev qqu:Nat:=65
abbrev qhz:Nat:=66
abbrev qeM:Nat:=67
abbrev qED:Nat:=68
abbrev qqN:Nat:=69
abbrev qhA:Nat:=70
abbrev Yr:Nat:=71
abbrev ZD:Nat:=72
abbrev Xu:Nat:=73
abbrev qel:Nat:=74
abbrev Jl:Nat:=75
abbrev Yo:Nat:=76
abbrev qhG:Nat:=77
abbrev qeo:Nat:=78
abbrev qbe:Nat:=79
abbrev qhc:Nat:=80
abbrev qek:Nat:=81
abbrev qhy:Nat:=82
abbrev qg6:Nat:=83
abbrev qhe:Nat:=84
abbrev Jj:Nat:=85
abbrev qei:Nat:=86
abbrev Yk:Nat:=87
abbrev qqF:Nat:=88
abbrev qqJ:Nat:=89
abbrev qqz:Nat:=90
abbrev Xv:Nat:=91
abbrev Xs:Nat:=92
abbrev qEv:Nat:=93
abbrev qEs:Nat:=94
abbrev qhj:Nat:=95
abbrev qEp:Nat:=96
abbrev qEy:Nat:=97
abbrev qhH:Nat:=98
abbrev qhI:Nat:=99
abbrev qDb:Nat:=100
abbrev qDm:Nat:=101
abbrev qbb:Nat:=102
abbrev qej:Nat:=103
abbrev qDu:Nat:=104
abbrev qDk:Nat:=105
abbrev qC7:Nat:=106
abbrev qDg:Nat:=107
abbrev qbi:Nat:=108
abbrev qg1:Nat:=109
abbrev qC9:Nat:=110
abbrev qgX:Nat:=111
abbrev qDc:Nat:=112
abbrev qEi:Nat:=113
abbrev qEl:Nat:=114
abbrev qEn:Nat:=115
abbrev qEo:Nat:=116
abbrev qex:Nat:=117
abbrev qqE:Nat:=118
abbrev qqD:Nat:=119
abbrev Qf:Nat:=120
abbrev ZE:Nat:=121
abbrev qbk:Nat:=122
abbrev qev:Nat:=123
abbrev qqx:Nat:=124
abbrev qbf:Nat:=125
abbrev qqy:Nat:=126
abbrev qes:Nat:=127
abbrev qeF:Nat:=128
abbrev qhr:Nat:=129
abbrev qht:Nat:=130
abbrev yc:Nat:=131
abbrev QN:Nat:=132
abbrev qeK:Nat:=133
abbrev kK:Nat:=134
abbrev Xq:Nat:=135
abbrev Js:Nat:=136
abbrev qhi:Nat:=137
abbrev qen:Nat:=138
abbrev qbq:Nat:=139
abbrev qeJ:Nat:=140
abbrev qqO:Nat:=141
abbrev qkw:Nat:=142
abbrev Yq:Nat:=143
abbrev qhJ:Nat:=144
abbrev qbp:Nat:=145
abbrev qbt:Nat:=146
abbrev Jr:Nat:=147
abbrev qqQ:Nat:=148
abbrev qez:Nat:=149
abbrev qqR:Nat:=150
abbrev qeL:Nat:=151
abbrev qep:Nat:=152
abbrev qg2:Nat:=153
abbrev qg7:Nat:=154
abbrev qbn:Nat:=155
abbrev Yn:Nat:=156
abbrev Jo:Nat:=157
abbrev qg8:Nat:=158
abbrev qg9:Nat:=159
abbrev qg5:Nat:=160
abbrev qEt:Nat:=161
abbrev qES:Nat:=162
abbrev qEN:Nat:=163
abbrev qEO:Nat:=164
abbrev qEL:Nat:=165
abbrev qEE:Nat:=166
abbrev qET:Nat:=167
abbrev qEH:Nat:=168
abbrev qEu:Nat:=169
abbrev qgR:Nat:=170
abbrev qDl:Nat:=171
abbrev qkx:Nat:=172
abbrev qDn:Nat:=173
abbrev qDt:Nat:=174
abbrev qbc:Nat:=175
abbrev Ym:Nat:=176
abbrev qDh:Nat:=177
abbrev qDp:Nat:=178
abbrev qqv:Nat:=179
abbrev qEm:Nat:=180
abbrev qbu:Nat:=181
abbrev Jt:Nat:=182
abbrev qbs:Nat:=183
abbrev qhm:Nat:=184
abbrev qeq:Nat:=185
abbrev qgY:Nat:=186
abbrev Ji:Nat:=187
abbrev qem:Nat:=188
abbrev qky:Nat:=189
abbrev qeG:Nat:=190
abbrev qbw:Nat:=191
abbrev qhq:Nat:=192
abbrev qbv:Nat:=193
abbrev qhp:Nat:=194
abbrev qho:Nat:=195
abbrev qbo:Nat:=196
abbrev Qg:Nat:=197
abbrev qeH:Nat:=198
abbrev Xr:Nat:=199
abbrev qhw:Nat:=200
abbrev qhC:Nat:=201
abbrev qhg:Nat:=202
abbrev qqP:Nat:=203
abbrev qhn:Nat:=204
abbrev qhk:Nat:=205
abbrev qeB:Nat:=206
abbrev qhx:Nat:=207
abbrev qhE:Nat:=208
abbrev qeg:Nat:=209
abbrev qew:Nat:=210
abbrev qbh:Nat:=211
abbrev qqI:Nat:=212
abbrev qqM:Nat:=213
abbrev qqC:Nat:=214
abbrev qER:Nat:=215
abbrev qEP:Nat:=216
abbrev qEK:Nat:=217
abbrev qEG:Nat:=218
abbrev qhD:Nat:=219
abbrev qhb:Nat:=220
abbrev qDE:Nat:=221
abbrev qDv:Nat:=222
abbrev qDs:Nat:=223
abbrev qbd:Nat:=224
abbrev qDo:Nat:=225
abbrev qqw:Nat:=226
abbrev qey:Nat:=227
abbrev qEk:Nat:=228
abbrev qgU:Nat:=229
abbrev qgV:Nat:=230
abbrev qEV:Nat:=231
abbrev qEY:Nat:=232
abbrev qEX:Nat:=233
abbrev qhs:Nat:=234
abbrev qbr:Nat:=235
abbrev ZF:Nat:=236
abbrev QO:Nat:=237
abbrev Xt:Nat:=238
abbrev qbx:Nat:=239
abbrev qhv:Nat:=240
abbrev qeE:Nat:=241
abbrev qhF:Nat:=242
abbrev ZB:Nat:=243
abbrev qeh:Nat:=244
abbrev qEQ:Nat:=245
abbrev qEM:Nat:=246
abbrev qEJ:Nat:=247
abbrev qEI:Nat:=248
abbrev qhf:Nat:=249
abbrev qDD:Nat:=250
abbrev qDq:Nat:=251
abbrev qha:Nat:=252
abbrev Xp:Nat:=253
abbrev qef:Nat:=254
abbrev qgZ:Nat:=255
abbrev qEZ:Nat:=256
abbrev qE0:Nat:=257
abbrev qeI:Nat:=258
abbrev qhu:Nat:=259
abbrev Qh:Nat:=260
abbrev qhd:Nat:=261
abbrev qDL:Nat:=262
abbrev qDK:Nat:=263
abbrev qDG:Nat:=264
abbrev qDH:Nat:=265
abbrev qEg:Nat:=266
abbrev qDr:Nat:=267
abbrev qgW:Nat:=268
abbrev qbj:Nat:=269
abbrev qet:Nat:=270
abbrev qeu:Nat:=271
abbrev Jp:Nat:=272
abbrev Jn:Nat:=273
abbrev qby:Nat:=274
abbrev qer:Nat:=275
abbrev qDx:Nat:=276
abbrev qDA:Nat:=277
abbrev qDJ:Nat:=278
abbrev qD0:Nat:=279
abbrev qDF:Nat:=280
abbrev qDI:Nat:=281
abbrev qD1:Nat:=282
abbrev qEh:Nat:=283
abbrev qDM:Nat:=284
abbrev qD2:Nat:=285
abbrev qD3:Nat:=286
abbrev qDz:Nat:=287
abbrev qD8:Nat:=288
abbrev qD9:Nat:=289
abbrev qEc:Nat:=290
abbrev qEd:Nat:=291
abbrev qEe:Nat:=292
abbrev qEf:Nat:=293
abbrev qEa:Nat:=294
abbrev qEb:Nat:=295
abbrev qD6:Nat:=296
abbrev qD7:Nat:=297
abbrev qD4:Nat:=298
abbrev qD5:Nat:=299
abbrev qDy:Nat:=300
abbrev qDB:Nat:=301
abbrev qDC:Nat:=302
abbrev qEW:Nat:=303
abbrev qDw:Nat:=304
abbrev qE1:Nat:=305
abbrev qE2:Nat:=306
abbrev qE3:Nat:=307
abbrev qE4:Nat:=308
abbrev qE5:Nat:=309
abbrev qC6:Nat:=310
def qfj:AC:=(.seq (.seq (.reg [.mv 54 (.t 11),.mv 55 (.t 5),.len 56 (.t 55),.bin 57 .lss (.t 54) (.t 56)]) (.keep [3,4,5,6,7,8,9,10,11,57] (.cond (.t 57) .skip (.keep [3,4,5,6,7,8,9,10] (.exit 0))))) (.keep [3,4,5,6,7,8,9,10,11] (.seq (.block 1 (.seq (.dreg [⟨0,[(3,0),(100000,0),(100000,1),(100000,2),(100000,3),(100000,4),(100000,5)]⟩,⟨0,[]⟩,⟨0,[]⟩,⟨0,[(0,0),(0,1),(0,2),(0,3),(16,0),(16,1),(16,2),(16,3),(20,0),(21,0),(22,0),(22,1),(22,2),(22,3),(100000,0),(100000,1),(100000,2),(100000,3),(100000,4),(100000,5)]⟩,⟨0,[(0,0),(0,1),(0,2),(0,3),(3,0),(4,0),(16,0),(16,1),(16,2),(16,3),(20,0),(21,0),(22,0),(22,1),(22,2),(22,3),(100000,0),(100000,1),(100000,2),(100000,3),(100000,4),(100000,5)]⟩,⟨2,[(0,0),(0,1),(0,2),(0,3),(16,0),(16,1),(16,2),(16,3),(20,0),(21,0),(22,0),(22,1),(22,2),(22,3),(60,0),(64,0),(100000,0),(100000,1),(100000,2),(100000,3),(100000,4),(100000,5)]⟩,⟨0,[]⟩] [.ldq 60 true 2 (.t 3),.mv 61 (.t 5),.mv 62 (.t 11),.ia 63 9 (.t 61) (.t 62),.ldq 64 true 9 (.t 63),.call (some 65) (.c (Fc qgQ)) [(.t 60),(.t 64)] (.ro true),.bin 66 .lss (.t 65) (.c (I 0))]) (.keep [3,4,5,6,7,8,9,10,11,66] (.cond (.t 66) (.seq (.reg [.mv 2 (.c (B false))]) (.keep [2] .ret)) .skip)))) (.keep [3,4,5,6,7,8,9,10,11] (.reg [.mv 58 (.t 11),.bin 59 .add (.t 58) (.c (I 1)),.mv 11 (.t 59)])))))
def qbM:Lp:=⟨[3,4,5,6,7,8,9,10,11],[(1,0)],qfj⟩
@[go_sem] theorem qGi:qbM.ls=[3,4,5,6,7,8,9,10,11]:=rfl
@[go_sem] theorem qGh:qbM.ks=[(1,0)]:=rfl
@[go_sem] theorem qGg:qbM.body=qfj:=rfl
def qd5:AC:=
 (.keep [2] .ret)
def qd6:AC:=
 (.keep [3,4,5,6,7,8,9,10] (.seq (.seq (.reg [.ld 38 true 2 (.t 3),.call (some 39) (.c (Fc qbm)) [(.t 38)] (.ro true),.un 40 .not (.t 39),.mv 41 (.t 40),.gd 41 false (some 42) (.ld 42 true 2 (.t 4)),.gd 41 false (some 43) (.call (some 43) (.c (Fc qbm)) [(.t 42)] (.ro true)),.gd 41 false (some 44) (.un 44 .not (.t 43)),.pick 45 (.t 41) (.c (B true)) (.t 44)]) (.keep [3,4,5,6,7,8,9,10,45] (.cond (.t 45) (.seq (.reg [.mv 46 (.t 5),.mv 47 (.t 8),.call (some 48) (.c (Fc Jq)) [(.t 46),(.t 47)] (.ro false),.mv 49 (.t 48),.gd 49 true (some 50) (.mv 50 (.t 6)),.gd 49 true (some 51) (.mv 51 (.t 7)),.gd 49 true (some 52) (.call (some 52) (.c (Fc Jq)) [(.t 50),(.t 51)] (.ro false)),.pick 53 (.t 49) (.t 52) (.c (B false)),.mv 2 (.t 53)]) (.keep [2] .ret)) .skip))) (.keep [3,4,5,6,7,8,9,10] (.seq (.seq (.reg [.mv 11 (.c (I 0))]) (.block 0 (lpC qbM))) (.keep [3,4,5,6,7,8,9,10] (.seq (.dreg [⟨0,[]⟩,⟨0,[]⟩,⟨0,[(9,0),(100000,0),(100000,1),(100000,2),(100000,3),(100000,4),(100000,5)]⟩,⟨0,[(4,0),(100000,0),(100000,1),(100000,2),(100000,3),(100000,4),(100000,5)]⟩,⟨2,[(0,0),(0,1),(0,2),(0,3),(16,0),(16,1),(16,2),(16,3),(20,0),(21,0),(22,0),(22,1),(22,2),(22,3),(32,0),(35,0),(35,1),(35,2),(35,3),(69,0),(70,0),(100000,0),(100000,1),(100000,2),(100000,3),(100000,4),(100000,5)]⟩,⟨0,[]⟩,⟨0,[]⟩,⟨0,[(3,0),(100000,0),(100000,1),(100000,2),(100000,3),(100000,4),(100000,5)]⟩,⟨0,[(3,0),(100000,0),(100000,1),(100000,2),(100000,3),(100000,4),(100000,5)]⟩,⟨2,[(0,0),(0,1),(0,2),(0,3),(16,0),(16,1),(16,2),(16,3),(74,0),(75,0),(100000,0),(100000,1),(100000,2),(100000,3),(100000,4),(100000,5)]⟩,⟨0,[]⟩,⟨0,[]⟩,⟨0,[]⟩,⟨0,[]⟩,⟨2,[(0,0),(0,1),(0,2),(0,3),(16,0),(16,1),(16,2),(16,3),(20,0),(21,0),(22,0),(22,1),(22,2),(22,3),(26,0),(27,0),(28,0),(28,1),(28,2),(28,3),(100000,0),(100000,1),(100000,2),(100000,3),(100000,4),(100000,5)]⟩,⟨0,[]⟩,⟨0,[]⟩,⟨0,[]⟩,⟨0,[]⟩,⟨2,[(0,0),(0,1),(0,2),(0,3),(16,0),(16,1),(16,2),(16,3),(20,0),(21,0),(22,0),(22,1),(22,2),(22,3),(26,0),(27,0),(28,0),(28,1),(28,2),(28,3),(100000,0),(100000,1),(100000,2),(100000,3),(100000,4),(100000,5)]⟩,⟨0,[]⟩,⟨0,[]⟩,⟨0,[]⟩,⟨0,[(9,0),(100000,0),(100000,1),(100000,2),(100000,3),(100000,4),(100000,5)]⟩,⟨0,[(0,0),(0,1),(0,2),(0,3),(16,0),(16,1),(16,2),(16,3),(20,0),(21,0),(22,0),(22,1),(22,2),(22,3),(32,0),(35,0),(35,1),(35,2),(35,3),(90,0),(100000,0),(100000,1),(100000,2),(100000,3),(100000,4),(100000,5)]⟩,⟨0,[]⟩,⟨0,[(4,0),(100000,0),(100000,1),(100000,2),(100000,3),(100000,4),(100000,5)]⟩,⟨0,[(0,0),(0,1),(0,2),(0,3),(16,0),(16,1),(16,2),(16,3),(93,0),(100000,0),(100000,1),(100000,2),(100000,3),(100000,4),(100000,5)]⟩,⟨0,[]⟩,⟨0,[]⟩,⟨0,[]⟩,⟨0,[(3,0),(100000,0),(100000,1),(100000,2),(100000,3),(100000,4),(100000,5)]⟩,⟨0,[(4,0),(100000,0),(100000,1),(100000,2),(100000,3),(100000,4),(100000,5)]⟩,⟨2,[(0,0),(0,1),(0,2),(0,3),(16,0),(16,1),(16,2),(16,3),(98,0),(99,0),(100000,0),(100000,1),(100000,2),(100000,3),(100000,4),(100000,5)]⟩,⟨0,[]⟩,⟨0,[(3,0),(100000,0),(100000,1),(100000,2),(100000,3),(100000,4),(100000,5)]⟩,⟨0,[(4,0),(100000,0),(100000,1),(100000,2),(100000,3),(100000,4),(100000,5)]⟩,⟨2,[(0,0),(0,1),(0,2),(0,3),(16,0),(16,1),(16,2),(16,3),(102,0),(103,0),(100000,0),(100000,1),(100000,2),(100000,3),(100000,4),(100000,5)]⟩,⟨0,[]⟩,⟨0,[]⟩,⟨0,[]⟩] [.mv 67 (.t 10),.mv 68 (.t 67),.gd 68 true (some 69) (.ldq 69 true 2 (.t 9)),.gd 68 true (some 70) (.ldq 70 true 2 (.t 4)),.gd 68 true (some 71) (.call (some 71) (.c (Fc Jm)) [(.t 69),(.t 70)] (.ro false)),.pick 72 (.t 68) (.t 71) (.c (B false)),.mv 73 (.t 72),.gd 73 true (some 74) (.ldq 74 true 2 (.t 3)),.gd 73 true (some 75) (.ldq 75 true 2 (.t 3)),.gd 73 true (some 76) (.call (some 76) (.c (Fc Jm)) [(.t 74),(.t 75)] (.ro false)),.pick 77 (.t 73) (.t 76) (.c (B false)),.mv 78 (.t 77),.gd 78 true (some 79) (.mv 79 (.t 5)),.gd 78 true (some 80) (.mv 80 (.t 8)),.gd 78 true (some 81) (.call (some 81) (.c (Fc Jq)) [(.t 79),(.t 80)] (.ro false)),.pick 82 (.t 78) (.t 81) (.c (B false)),.mv 83 (.t 82),.gd 83 true (some 84) (.mv 84 (.t 6)),.gd 83 true (some 85) (.mv 85 (.t 7)),.gd 83 true (some 86) (.call (some 86) (.c (Fc Jq)) [(.t 84),(.t 85)] (.ro false)),.pick 87 (.t 83) (.t 86) (.c (B false)),.mv 88 (.t 87),.gd 88 true (some 89) (.fa 89 (.t 9) 0),.gd 88 true (some 90) (.ldq 90 false 1 (.t 89)),.gd 88 true (some 91) (.len 91 (.t 90)),.gd 88 true (some 92) (.fa 92 (.t 4) 0),.gd 88 true (some 93) (.ldq 93 false 1 (.t 92)),.gd 88 true (some 94) (.len 94 (.t 93)),.gd 88 true (some 95) (.bin 95 .eql (.t 91) (.t 94)),.pick 96 (.t 88) (.t 95) (.c (B false)),.mv 97 (.t 96),.gd 97 true (some 98) (.ldq 98 true 2 (.t 3)),.gd 97 true (some 99) (.ldq 99 true 2 (.t 4)),.gd 97 true (some 100) (.call (some 100) (.c (Fc qgT)) [(.t 98),(.t 99)] (.ro false)),.gd 97 true (some 101) (.bin 101 .eql (.t 100) (.c (S []))),.gd 97 true (some 102) (.ldq 102 true 2 (.t 3)),.gd 97 true (some 103) (.ldq 103 true 2 (.t 4)),.gd 97 true (some 104) (.call (some 104) (.c (Fc Jm)) [(.t 102),(.t 103)] (.ro false)),.gd 97 true (some 105) (.eqs 105 0 false (.t 101) (.t 104)),.pick 106 (.t 97) (.t 105) (.c (B false)),.mv 2 (.t 106)]) qd5))))))
def qd7:AC:=
 (.keep [3,4] (.seq (.reg [.ld 20 true 2 (.t 3),.ld 21 true 2 (.t 4),.call (some 22) (.c (Fc Jk)) [(.t 20),(.t 21)] (.ro true),.mv 19 (.t 22),.ext 23 (.t 19) 0,.ext 24 (.t 19) 1,.mv 5 (.t 23),.mv 6 (.t 24)]) (.keep [3,4,5,6] (.seq (.reg [.ld 26 true 2 (.t 4),.ld 27 true 2 (.t 3),.call (some 28) (.c (Fc Jk)) [(.t 26),(.t 27)] (.ro true),.mv 25 (.t 28),.ext 29 (.t 25) 0,.ext 30 (.t 25) 1,.mv 7 (.t 29),.mv 8 (.t 30)]) (.keep [3,4,5,6,7,8] (.seq (.reg [.ld 32 true 2 (.t 3),.mv 33 (.t 5),.mv 34 (.t 6),.call (some 35) (.c (Fc qgP)) [(.t 32),(.t 33),(.t 34)] (.ro false),.mv 31 (.t 35),.ext 36 (.t 31) 0,.ext 37 (.t 31) 1,.new 9 (.c (.a [(.n 9),(.n 1)])),.st 2 (.t 9) (.t 36),.mv 10 (.t 37)]) qd6))))))
def Zq:AF where
 nargs:=1
 ntmps:=107
 res:=[.tmp 2]
 body:=(.seq (.reg [.mv 2 (.c (B false))]) (.seq (.seq (.reg [.mv 12 (.t 0),.call (some 13) (.c (Fc qg4)) [(.t 12)] (.ro true)]) (.cond (.t 13) (.seq (.reg [.mv 2 (.c (B true))]) (.keep [2] .ret)) .skip)) (.keep [0] (.seq (.reg [.mv 15 (.t 0),.call (some 16) (.c (Fc qhh)) [(.t 15)] (.ro true),.mv 14 (.t 16),.ext 17 (.t 14) 0,.ext 18 (.t 14) 1,.new 3 (.c (.a [(.n 9),(.n 1)])),.new 4 (.c (.a [(.n 9),(.n 1)])),.st 2 (.t 3) (.t 17),.st 2 (.t 4) (.t 18)]) qd7))))
def qdH:AF where
 nargs:=2
 ntmps:=18
 res:=[.tmp 4]
 body:=(.seq (.reg [.new 2 (.t 0),.mv 4 (.c (I 0))]) (.seq (.reg [.fa 5 (.t 2) 0,.ld 6 false 1 (.t 5),.mv 7 (.t 1),.call (some 8) (.c (Fc qqG)) [(.t 6),(.t 7)] (.ro false),.mv 1 (.t 8)]) (.keep [1,2] (.seq (.seq (.reg [.mv 9 (.t 1),.bin 10 .lss (.t 9) (.c (I 0))]) (.cond (.t 10) (.seq (.reg [.mv 4 (.c (I (-1)))]) (.keep [4] .ret)) .skip)) (.keep [1,2] (.seq (.reg [.fa 11 (.t 2) 1,.ld 12 false 1 (.t 11),.mv 13 (.t 1),.call (some 14) (.c (Fc qqH)) [(.t 12),(.t 13)] (.ro false),.mv 1 (.t 14)]) (.keep [1] (.seq (.seq (.reg [.mv 15 (.t 1),.bin 16 .lss (.t 15) (.c (I 0))]) (.cond (.t 16) (.seq (.reg [.mv 4 (.c (I (-1)))]) (.keep [4] .ret)) .skip)) (.keep [1] (.seq (.reg [.mv 17 (.t 1),.mv 4 (.t 17)]) (.keep [4] .ret)))))))))))
def qdN:AF where
 nargs:=1
 ntmps:=13
 res:=[.cell 2 true 2]
 body:=(.seq (.reg [.new 1 (.t 0),.new 2 (.c (.a [(.n 9),(.n 1)]))]) (.seq (.reg [.new 3 (.c (.a [(.n 9),(.n 1)]))]) (.seq (.reg [.fa 4 (.t 1) 0,.ld 5 false 1 (.t 4),.call (some 6) (.c (Fc qqK)) [(.t 5)] (.ro false),.fa 7 (.t 3) 0,.st 1 (.t 7) (.t 6)]) (.keep [1,2,3] (.seq (.reg [.fa 8 (.t 1) 1,.ld 9 false 1 (.t 8),.call (some 10) (.c (Fc qqL)) [(.t 9)] (.ro false),.fa 11 (.t 3) 1,.st 1 (.t 11) (.t 10)]) (.keep [2,3] (.seq (.reg [.ld 12 true 2 (.t 3),.st 2 (.t 2) (.t 12)]) (.keep [2] .ret))))))))
def qdz:AF where
 nargs:=2
 ntmps:=17
 res:=[.tmp 4]
 body:=(.seq (.reg [.new 2 (.t 0),.new 3 (.t 1),.mv 4 (.c (B false))]) (.seq (.seq (.reg [.fa 5 (.t 2) 0,.ld 6 false 1 (.t 5),.fa 7 (.t 3) 0,.ld 8 false 1 (.t 7),.call (some 9) (.c (Fc qqA)) [(.t 6),(.t 8)] (.ro true),.un 10 .not (.t 9)]) (.keep [2,3,10] (.cond (.t 10) (.seq (.reg [.mv 4 (.c (B false))]) (.keep [4] .ret)) .skip))) (.keep [2,3] (.seq (.seq (.reg [.fa 11 (.t 2) 1,.ld 12 false 1 (.t 11),.fa 13 (.t 3) 1,.ld 14 false 1 (.t 13),.call (some 15) (.c (Fc qqB)) [(.t 12),(.t 14)] (.ro true),.un 16 .not (.t 15)]) (.keep [16] (.cond (.t 16) (.seq (.reg [.mv 4 (.c (B false))]) (.keep [4] .ret)) .skip))) (.keep [] (.seq (.reg [.mv 4 (.c (B true))]) (.keep [4] .ret)))))))
def KG:AF where
 nargs:=1
 ntmps:=6
 res:=[.tmp 2]
 body:=(.seq (.reg [.mv 2 (.c (B false))]) (.seq (.reg [.mv 3 (.t 0),.len 4 (.t 3),.bin 5 .gtr (.t 4) (.c (I 1048576)),.mv 2 (.t 5)]) (.keep [2] .ret)))
def qdp:AF where
 nargs:=1
 ntmps:=8
 res:=[.tmp 2]
 body:=(.seq (.reg [.new 1 (.t 0),.mv 2 (.c (S []))]) (.seq (.seq (.reg [.ld 3 true 4 (.t 1),.call (some 4) (.c (Fc Yl)) [(.t 3)] (.ro true),.un 5 .not (.t 4)]) (.cond (.t 5) (.seq (.reg [.mv 2 (.c (S []))]) (.keep [2] .ret)) .skip)) (.keep [1] (.seq (.reg [.ld 6 true 4 (.t 1),.call (some 7) (.c (Fc qg0)) [(.t 6)] (.ro false),.mv 2 (.t 7)]) (.keep [2] .ret)))))
def Zt:AF where
 nargs:=1
 ntmps:=35
 res:=[.cell 2 true 4,.tmp 3,.tmp 4]
 body:=(.seq (.reg [.new 2 (.c (.a [(I 0),(S []),(I 0),(.n 4)])),.mv 3 (.c (.n 1)),.mv 4 (.c (B false))]) (.seq (.reg [.mv 12 (.t 0),.call (some 13) (.c (Fc qeD)) [(.t 12)] (.ro false),.mv 11 (.t 13),.ext 14 (.t 11) 0,.ext 15 (.t 11) 1,.mv 5 (.t 14),.mv 6 (.t 15)]) (.keep [2,5] (.seq (.reg [.mv 17 (.t 5),.call (some 18) (.c (Fc Yp)) [(.t 17),(.c (I 0))] (.ro false),.mv 16 (.t 18),.ext 19 (.t 16) 0,.ext 20 (.t 16) 1,.ext 21 (.t 16) 2,.ext 22 (.t 16) 3,.new 7 (.c (.a [(I 0),(S []),(I 0),(.n 4)])),.st 4 (.t 7) (.t 19),.mv 8 (.t 20),.mv 9 (.t 21),.mv 10 (.t 22)]) (.keep [2,5,7,8,9,10] (.seq (.seq (.reg [.mv 23 (.t 10),.un 24 .not (.t 23),.mv 25 (.t 24),.gd 25 false (some 26) (.mv 26 (.t 9)),.gd 25 false (some 27) (.mv 27 (.t 5)),.gd 25 false (some 28) (.len 28 (.t 27)),.gd 25 false (some 29) (.bin 29 .neq (.t 26) (.t 28)),.pick 30 (.t 25) (.c (B true)) (.t 29)]) (.keep [2,7,8,30] (.cond (.t 30) (.seq (.reg [.build 31 (.a [(I 0),(S []),(I 0),(.n 4)]) [],.mks 32 1 [],.st 4 (.t 2) (.t 31),.mv 3 (.t 32),.mv 4 (.c (B false))]) (.keep [2,3,4] .ret)) .skip))) (.keep [2,7,8] (.seq (.reg [.ld 33 true 4 (.t 7),.mv 34 (.t 8),.st 4 (.t 2) (.t 33),.mv 3 (.t 34),.mv 4 (.c (B true))]) (.keep [2,3,4] .ret)))))))))
def qkE:AC:=(.seq (.reg [.bin 10 .lss (.t 9) (.t 8)]) (.seq (.cond (.t 10) .skip (.keep [3] (.exit 0))) (.keep [3,7,8,9] (.seq (.block 1 (.seq (.reg [.ia 11 9 (.t 7) (.t 9),.ld 12 true 9 (.t 11),.new 5 (.c (.a [(I 0),(S []),(I 0),(.n 4),(I 0),(S []),(I 0),(.n 4),(S [])])),.st 9 (.t 5) (.t 12)]) (.keep [3,5,7,8,9] (.reg [.mv 13 (.t 3),.ld 14 true 9 (.t 5),.call (some 15) (.c (Fc qqu)) [(.t 14)] (.ro false),.bin 16 .add (.t 13) (.t 15),.mv 3 (.t 16)])))) (.keep [3,7,8,9] (.reg [.bin 17 .add (.t 9) (.c (I 1)),.mv 9 (.t 17)]))))))
def qeS:Lp:=⟨[3,7,8,9],[(1,0)],qkE⟩
@[go_sem] theorem qFC:qeS.ls=[3,7,8,9]:=rfl
@[go_sem] theorem qFB:qeS.ks=[(1,0)]:=rfl
@[go_sem] theorem qFA:qeS.body=qkE:=rfl
def qdn:AF where
 nargs:=1
 ntmps:=19
 res:=[.tmp 2]
 body:=(.seq (.reg [.new 1 (.t 0),.mv 2 (.c (S []))]) (.seq (.reg [.mv 3 (.c (S []))]) (.seq (.seq (.reg [.fa 6 (.t 1) 0,.ld 7 false 1 (.t 6),.len 8 (.t 7),.mv 9 (.c (I 0))]) (.keep [3,7,8,9] (.block 0 (lpC qeS)))) (.keep [3] (.seq (.reg [.mv 18 (.t 3),.mv 2 (.t 18)]) (.keep [2] .ret))))))
def Zr:AF where
 nargs:=2
 ntmps:=17
 res:=[.cell 4 true 9,.tmp 5]
 body:=(.seq (.reg [.new 2 (.t 0),.new 4 (.c (.a [(I 0),(S []),(I 0),(.n 4),(I 0),(S []),(I 0),(.n 4),(S [])])),.mv 5 (.c (B false))]) (.seq (.reg [.ld 9 true 4 (.t 2),.mv 10 (.t 1),.call (some 11) (.c (Fc qhz)) [(.t 9),(.t 10)] (.ro false),.mv 8 (.t 11),.ext 12 (.t 8) 0,.ext 13 (.t 8) 1,.new 6 (.c (.a [(I 0),(S []),(I 0),(.n 4),(I 0),(S []),(I 0),(.n 4),(S [])])),.st 9 (.t 6) (.t 12),.mv 7 (.t 13)]) (.keep [4,6,7] (.seq (.reg [.ld 14 true 9 (.t 6),.call (some 15) (.c (Fc qeM)) [(.t 14)] (.ro false),.mv 16 (.t 7),.st 9 (.t 4) (.t 15),.mv 5 (.t 16)]) (.keep [4,5] .ret)))))
def KM:AF where
 nargs:=1
 ntmps:=8
 res:=[.cell 2 true 4]
 body:=(.seq (.reg [.new 1 (.t 0),.new 2 (.c (.a [(I 0),(S []),(I 0),(.n 4)]))]) (.seq (.reg [.ld 4 true 9 (.t 1),.call (some 5) (.c (Fc qhA)) [(.t 4)] (.ro false),.new 3 (.c (.a [(I 0),(S []),(I 0),(.n 4)])),.st 4 (.t 3) (.t 5)]) (.keep [2,3] (.seq (.reg [.ld 6 true 4 (.t 3),.call (some 7) (.c (Fc Yr)) [(.t 6)] (.ro false),.st 4 (.t 2) (.t 7)]) (.keep [2] .ret)))))
def qdV:AF where
 nargs:=1
 ntmps:=8
 res:=[.tmp 2]
 body:=(.seq (.reg [.new 1 (.t 0),.mv 2 (.c (S []))]) (.seq (.seq (.reg [.ld 3 true 4 (.t 1),.call (some 4) (.c (Fc ZD)) [(.t 3)] (.ro true),.un 5 .not (.t 4)]) (.cond (.t 5) (.seq (.reg [.mv 2 (.c (S []))]) (.keep [2] .ret)) .skip)) (.keep [1] (.seq (.reg [.ld 6 true 4 (.t 1),.call (some 7) (.c (Fc Xu)) [(.t 6)] (.ro false),.mv 2 (.t 7)]) (.keep [2] .ret)))))
def qdo:AF where
 nargs:=1
 ntmps:=16
 res:=[.tmp 2]
 body:=(.seq (.reg [.new 1 (.t 0),.mv 2 (.c (I 0))]) (.seq (.seq (.reg [.ld 5 true 4 (.t 1),.call (some 6) (.c (Fc qel)) [(.t 5)] (.ro true),.un 7 .not (.t 6)]) (.cond (.t 7) (.seq (.reg [.mv 2 (.c (I 0))]) (.keep [2] .ret)) .skip)) (.keep [1] (.seq (.reg [.fa 9 (.t 1) 1,.ld 10 false 1 (.t 9),.call (some 11) (.c (Fc Jl)) [(.t 10)] (.ro false),.mv 8 (.t 11),.ext 12 (.t 8) 0,.ext 13 (.t 8) 1,.new 3 (.c (.a [(S []),(I 0),(I 0),(I 0)])),.st 4 (.t 3) (.t 12),.mv 4 (.t 13)]) (.keep [3] (.seq (.reg [.fa 14 (.t 3) 1,.ld 15 false 1 (.t 14),.mv 2 (.t 15)]) (.keep [2] .ret)))))))
def qdT:AF where
 nargs:=1
 ntmps:=24
 res:=[.tmp 2]
 body:=(.seq (.reg [.new 1 (.t 0),.mv 2 (.c (I 0))]) (.seq (.seq (.reg [.fa 5 (.t 1) 0,.ld 6 false 1 (.t 5),.bin 7 .neq (.t 6) (.c (I 4)),.mv 8 (.t 7),.gd 8 false (some 9) (.fa 9 (.t 1) 3),.gd 8 false (some 10) (.ld 10 false 1 (.t 9)),.gd 8 false (some 11) (.len 11 (.t 10)),.gd 8 false (some 12) (.bin 12 .neq (.t 11) (.c (I 2))),.pick 13 (.t 8) (.c (B true)) (.t 12)]) (.keep [1,13] (.cond (.t 13) (.seq (.reg [.mv 2 (.c (I 0))]) (.keep [2] .ret)) .skip))) (.keep [1] (.seq (.reg [.fa 15 (.t 1) 1,.ld 16 false 1 (.t 15),.call (some 17) (.c (Fc Yo)) [(.t 16)] (.ro false),.mv 14 (.t 17),.ext 18 (.t 14) 0,.ext 19 (.t 14) 1,.new 3 (.c (.a [(S []),(I 0),(I 0),(I 0)])),.st 4 (.t 3) (.t 18),.mv 4 (.t 19)]) (.keep [3,4] (.seq (.seq (.reg [.mv 20 (.t 4),.un 21 .not (.t 20)]) (.cond (.t 21) (.seq (.reg [.mv 2 (.c (I 0))]) (.keep [2] .ret)) .skip)) (.keep [3] (.seq (.reg [.fa 22 (.t 3) 1,.ld 23 false 1 (.t 22),.mv 2 (.t 23)]) (.keep [2] .ret)))))))))
def Y9:AF where
 nargs:=1
 ntmps:=8
 res:=[.cell 2 true 2,.cell 3 true 2]
 body:=(.seq (.reg [.new 2 (.c (.a [(.n 9),(.n 1)])),.new 3 (.c (.a [(.n 9),(.n 1)]))]) (.seq (.reg [.mv 4 (.t 0),.call (some 5) (.c (Fc qhG)) [(.t 4)] (.ro false),.ext 6 (.t 5) 0,.ext 7 (.t 5) 1,.st 2 (.t 2) (.t 6),.st 2 (.t 3) (.t 7)]) (.keep [2,3] .ret)))
def Ki:AF where
 nargs:=2
 ntmps:=16
 res:=[.tmp 4,.tmp 5]
 body:=(.seq (.reg [.new 2 (.t 0),.new 3 (.t 1),.mv 4 (.c (.n 9)),.mv 5 (.c (.n 9))]) (.keep [2,3] (.seq (.dreg [⟨0,[]⟩,⟨0,[(2,0)]⟩,⟨0,[]⟩,⟨0,[(3,0)]⟩,⟨2,[(0,0),(0,1),(0,2),(0,3),(1,0),(1,1),(1,2),(1,3),(7,0),(9,0)]⟩,⟨0,[]⟩,⟨0,[(3,0)]⟩,⟨0,[]⟩,⟨0,[(2,0)]⟩,⟨2,[(0,0),(0,1),(0,2),(0,3),(1,0),(1,1),(1,2),(1,3),(12,0),(14,0)]⟩,⟨0,[]⟩,⟨0,[]⟩] [.fa 6 (.t 2) 0,.ldq 7 false 1 (.t 6),.fa 8 (.t 3) 0,.ldq 9 false 1 (.t 8),.call (some 10) (.c (Fc qeo)) [(.t 7),(.t 9)] (.ro false),.fa 11 (.t 3) 0,.ldq 12 false 1 (.t 11),.fa 13 (.t 2) 0,.ldq 14 false 1 (.t 13),.call (some 15) (.c (Fc qeo)) [(.t 12),(.t 14)] (.ro false),.mv 4 (.t 10),.mv 5 (.t 15)]) (.keep [4,5] .ret))))
def JF:AC:=(.seq (.seq (.opd [(500000,8,some 11)] (.dreg [⟨0,[]⟩,⟨0,[]⟩,⟨0,[]⟩,⟨0,[]⟩,⟨0,[(8,0),(100000,0),(100000,1),(100000,2),(100000,3),(100000,4),(100000,5),(100000,6),(100000,7)]⟩,⟨0,[]⟩,⟨0,[(0,0),(0,1),(0,2),(0,3),(2,0),(2,1),(2,2),(2,3),(12,0),(13,0),(13,1),(13,2),(13,3),(21,0),(28,0),(43,0),(47,0),(47,1),(47,2),(47,3),(51,0),(53,0),(53,1),(53,2),(53,3),(54,0),(100000,0),(100000,1),(100000,2),(100000,3),(100000,4),(100000,5),(100000,6),(100000,7)]⟩,⟨0,[(0,0),(0,1),(0,2),(0,3),(2,0),(2,1),(2,2),(2,3),(3,0),(8,0),(12,0),(13,0),(13,1),(13,2),(13,3),(21,0),(28,0),(43,0),(47,0),(47,1),(47,2),(47,3),(51,0),(53,0),(53,1),(53,2),(53,3),(54,0),(100000,0),(100000,1),(100000,2),(100000,3),(100000,4),(100000,5),(100000,6),(100000,7)]⟩,⟨0,[(10,0),(100000,0),(100000,1),(100000,2),(100000,3),(100000,4),(100000,5),(100000,6),(100000,7)]⟩,⟨2,[(0,0),(0,1),(0,2),(0,3),(1,0),(1,1),(1,2),(1,3),(2,0),(2,1),(2,2),(2,3),(12,0),(13,0),(13,1),(13,2),(13,3),(19,0),(21,0),(28,0),(31,0),(32,0),(43,0),(47,0),(47,1),(47,2),(47,3),(51,0),(53,0),(53,1),(53,2),(53,3),(54,0),(100000,0),(100000,1),(100000,2),(100000,3),(100000,4),(100000,5),(500000,0),(500000,1)]⟩,⟨0,[]⟩,⟨0,[]⟩] [.mv 24 (.t 11),.bin 25 .geq (.t 24) (.c (I 0)),.mv 26 (.t 25),.gd 26 true (some 27) (.fa 27 (.t 8) 0),.gd 26 true (some 28) (.ldq 28 false 1 (.t 27)),.gd 26 true (some 29) (.mv 29 (.t 11)),.gd 26 true (some 30) (.ia 30 9 (.t 28) (.t 29)),.gd 26 true (some 31) (.ldq 31 true 9 (.t 30)),.gd 26 true (some 32) (.ldq 32 true 9 (.t 10)),.gd 26 true (some 33) (.call (some 33) (.c (Fc qbe)) [(.t 31),(.t 32)] (.ro true)),.gd 26 true (some 34) (.un 34 .not (.t 33)),.pick 35 (.t 26) (.t 34) (.c (B false))])) (.keep [2,3,6,8,10,11,14,15,16,35] (.cond (.t 35) .skip (.keep [2,3,6,8,11,14,15,16] (.exit 2))))) (.keep [2,3,6,8,10,11,14,15,16] (.block 3 (.reg [.mv 36 (.t 11),.bin 37 .sub (.t 36) (.c (I 1)),.mv 11 (.t 37)]))))
def ZG:Lp:=⟨[2,3,6,8,10,11,14,15,16],[(3,0)],JF⟩
@[go_sem] theorem qFk:ZG.ls=[2,3,6,8,10,11,14,15,16]:=rfl
@[go_sem] theorem qFj:ZG.ks=[(3,0)]:=rfl
@[go_sem] theorem qFi:ZG.body=JF:=rfl
def qfa:AC:=(.seq (.reg [.bin 17 .lss (.t 16) (.t 15)]) (.seq (.cond (.t 17) .skip (.keep [2,3,6,8] (.exit 0))) (.keep [2,3,6,8,14,15,16] (.seq (.block 1 (.seq (.reg [.ia 18 9 (.t 14) (.t 16),.ld 19 true 9 (.t 18),.new 10 (.c (.a [(I 0),(S []),(I 0),(.n 4),(I 0),(S []),(I 0),(.n 4),(S [])])),.st 9 (.t 10) (.t 19)]) (.keep [2,3,6,8,10,14,15,16] (.seq (.reg [.fa 20 (.t 8) 0,.ld 21 false 1 (.t 20),.len 22 (.t 21),.bin 23 .sub (.t 22) (.c (I 1)),.mv 11 (.t 23)]) (.keep [2,3,6,8,10,11,14,15,16] (.seq (.block 2 (lpC ZG)) (.keep [2,3,6,8,11,14,15,16] (.seq (.seq (.reg [.mv 38 (.t 11),.bin 39 .lss (.t 38) (.c (I 0))]) (.cond (.t 39) (.seq (.reg [.ld 40 true 2 (.t 3),.call (some 41) (.c (Fc qbg)) [(.t 40)] (.ro false),.st 2 (.t 6) (.t 41),.mv 7 (.c (B false))]) (.keep [6,7] .ret)) .skip)) (.keep [2,3,6,8,11,14,15,16] (.nam [2,3,6,8,11,14,15,16] [(3,0)] (.reg [.fa 42 (.t 8) 0,.ld 43 false 1 (.t 42),.mv 44 (.t 11),.mv 45 (.t 11),.bin 46 .add (.t 45) (.c (I 1)),.call (some 47) (.c (Fc qhc)) [(.t 43),(.t 44),(.t 46)] (.io false),.fa 48 (.t 8) 0,.st 1 (.t 48) (.t 47)]))))))))))) (.keep [2,3,6,8,14,15,16] (.reg [.bin 49 .add (.t 16) (.c (I 1)),.mv 16 (.t 49)]))))))
def qbz:Lp:=⟨[2,3,6,8,14,15,16],[(3,0)],qfa⟩
@[go_sem] theorem qFn:qbz.ls=[2,3,6,8,14,15,16]:=rfl
@[go_sem] theorem qFm:qbz.ks=[(3,0)]:=rfl
@[go_sem] theorem qFl:qbz.body=qfa:=rfl
def Kb:AF where
 nargs:=3
 ntmps:=62
 res:=[.cell 6 true 2,.tmp 7]
 body:=(.seq (.reg [.new 3 (.t 0),.new 6 (.c (.a [(.n 9),(.n 1)])),.mv 7 (.c (B false))]) (.seq (.reg [.ld 12 true 2 (.t 3),.call (some 13) (.c (Fc qbg)) [(.t 12)] (.ro false),.new 8 (.c (.a [(.n 9),(.n 1)])),.st 2 (.t 8) (.t 13)]) (.keep [1,2,3,6,8] (.seq (.seq (.reg [.mv 14 (.t 1),.len 15 (.t 14),.mv 16 (.c (I 0))]) (.block 0 (lpC qbz))) (.keep [2,3,6,8] (.seq (.dreg [⟨0,[]⟩,⟨0,[(8,0),(100000,0),(100000,1),(100000,2),(100000,3),(100000,4),(100000,5),(100000,6),(100000,7)]⟩,⟨0,[]⟩,⟨2,[(2,0),(2,1),(2,2),(2,3),(100000,0),(100000,1),(100000,2),(100000,3),(100000,4),(100000,5),(100000,6),(100000,7)]⟩,⟨1,[(2,0),(2,1),(2,2),(2,3),(53,0),(53,1),(53,2),(53,3),(500000,0),(100000,0),(100000,1),(100000,2),(100000,3),(100000,4),(100000,5),(100000,6),(100000,7)]⟩,⟨0,[]⟩,⟨1,[(8,0),(100000,0),(100000,1),(100000,2),(100000,3),(100000,4),(100000,5),(100000,6),(100000,7)]⟩] [.fa 50 (.t 8) 0,.ldq 51 false 1 (.t 50),.mv 52 (.t 2),.call (some 53) (.c (Fc qek)) [(.t 52)] (.ro false),.app 54 9 128 (.t 51) (.t 53),.fa 55 (.t 8) 0,.st 1 (.t 55) (.t 54)]) (.keep [3,6,8] (.seq (.seq (.reg [.ld 56 true 2 (.t 8),.call (some 57) (.c (Fc qgS)) [(.t 56)] (.ro true),.un 58 .not (.t 57)]) (.cond (.t 58) (.seq (.reg [.ld 59 true 2 (.t 3),.call (some 60) (.c (Fc qbg)) [(.t 59)] (.ro false),.st 2 (.t 6) (.t 60),.mv 7 (.c (B false))]) (.keep [6,7] .ret)) .skip)) (.keep [6,8] (.seq (.reg [.ld 61 true 2 (.t 8),.st 2 (.t 6) (.t 61),.mv 7 (.c (B true))]) (.keep [6,7] .ret)))))))))))
def qcf:AC:=(.seq (.seq (.reg [.mv 4 (.t 3),.fa 5 (.t 1) 0,.ld 6 false 1 (.t 5),.len 7 (.t 6),.bin 8 .lss (.t 4) (.t 7)]) (.keep [1,3,8] (.cond (.t 8) .skip (.keep [1] (.exit 0))))) (.keep [1,3] (.seq (.block 1 (.seq (.reg [.fa 11 (.t 1) 0,.ld 12 false 1 (.t 11),.mv 13 (.t 3),.ia 14 9 (.t 12) (.t 13),.ld 15 true 9 (.t 14),.call (some 16) (.c (Fc qhy)) [(.t 15)] (.ro true),.un 17 .not (.t 16)]) (.keep [1,3,17] (.cond (.t 17) (.seq (.reg [.mv 2 (.c (B false))]) (.keep [2] .ret)) .skip)))) (.keep [1,3] (.reg [.mv 9 (.t 3),.bin 10 .add (.t 9) (.c (I 1)),.mv 3 (.t 10)])))))
def qbQ:Lp:=⟨[1,3],[(1,0)],qcf⟩
@[go_sem] theorem qHd:qbQ.ls=[1,3]:=rfl
@[go_sem] theorem qHc:qbQ.ks=[(1,0)]:=rfl
@[go_sem] theorem qHb:qbQ.body=qcf:=rfl
def Yb:AF where
 nargs:=1
 ntmps:=28
 res:=[.tmp 2]
 body:=(.seq (.reg [.new 1 (.t 0),.mv 2 (.c (B false))]) (.seq (.seq (.reg [.mv 3 (.c (I 0))]) (.block 0 (lpC qbQ))) (.keep [1] (.seq (.reg [.fa 18 (.t 1) 0,.ld 19 false 1 (.t 18),.len 20 (.t 19),.bin 21 .leq (.t 20) (.c (I 120)),.mv 22 (.t 21),.gd 22 true (some 23) (.fa 23 (.t 1) 1),.gd 22 true (some 24) (.ld 24 false 1 (.t 23)),.gd 22 true (some 25) (.len 25 (.t 24)),.gd 22 true (some 26) (.bin 26 .leq (.t 25) (.c (I 40))),.pick 27 (.t 22) (.t 26) (.c (B false)),.mv 2 (.t 27)]) (.keep [2] .ret)))))
def KH:AF where
 nargs:=2
 ntmps:=10
 res:=[.tmp 4]
 body:=(.seq (.reg [.mv 4 (.c (B false))]) (.seq (.reg [.mv 5 (.t 0),.build 6 (.a [(.n 9),(.n 1)]) [(0,1,(.t 5))],.mv 7 (.t 1),.build 8 (.a [(.n 9),(.n 1)]) [(0,1,(.t 7))],.call (some 9) (.c (Fc qg6)) [(.t 6),(.t 8)] (.ro false),.mv 4 (.t 9)]) (.keep [4] .ret)))
def Kc:AF where
 nargs:=2
 ntmps:=9
 res:=[.tmp 4]
 body:=(.seq (.reg [.new 2 (.t 0),.new 3 (.t 1),.mv 4 (.c (I 0))]) (.seq (.reg [.fa 5 (.t 2) 0,.ld 6 false 1 (.t 5),.fun 7 (.func Jj) [] [(.t 3)],.call (some 8) (.c (Fc qhe)) [(.t 6),(.t 7)] (.ro false),.mv 4 (.t 8)]) (.keep [4] .ret)))
def YU:AF where
 nargs:=2
 ntmps:=19
 res:=[.tmp 4]
 body:=(.seq (.reg [.new 2 (.t 0),.new 3 (.t 1),.mv 4 (.c (B false))]) (.seq (.reg [.ld 8 true 2 (.t 2),.ld 9 true 2 (.t 3),.call (some 10) (.c (Fc Jk)) [(.t 8),(.t 9)] (.ro false),.mv 7 (.t 10),.ext 11 (.t 7) 0,.ext 12 (.t 7) 1,.mv 5 (.t 11),.mv 6 (.t 12)]) (.keep [5,6] (.seq (.reg [.mv 13 (.t 5),.len 14 (.t 13),.mv 15 (.t 6),.len 16 (.t 15),.bin 17 .add (.t 14) (.t 16),.bin 18 .eql (.t 17) (.c (I 0)),.mv 4 (.t 18)]) (.keep [4] .ret)))))
def qfb:AC:=(.seq (.reg [.bin 35 .lss (.t 34) (.t 33)]) (.seq (.cond (.t 35) .skip (.keep [7] (.exit 2))) (.keep [7,32,33,34] (.seq (.block 3 (.seq (.reg [.ia 36 9 (.t 32) (.t 34),.ld 37 true 9 (.t 36),.new 11 (.c (.a [(I 0),(S []),(I 0),(.n 4),(I 0),(S []),(I 0),(.n 4),(S [])])),.st 9 (.t 11) (.t 37)]) (.keep [7,11,32,33,34] (.reg [.mv 38 (.t 7),.ld 39 true 9 (.t 11),.call (some 40) (.c (Fc Yk)) [(.t 39)] (.ro false),.call (some 41) (.c (Fc qei)) [(.t 40)] (.ro false),.bin 42 .add (.c (S [43,32])) (.t 41),.bin 43 .add (.t 42) (.c (S [10])),.bin 44 .add (.t 38) (.t 43),.mv 7 (.t 44)])))) (.keep [7,32,33,34] (.reg [.bin 45 .add (.t 34) (.c (I 1)),.mv 34 (.t 45)]))))))
def qbA:Lp:=⟨[7,32,33,34],[(2,0)],qfb⟩
@[go_sem] theorem qFt:qbA.ls=[7,32,33,34]:=rfl
@[go_sem] theorem qFs:qbA.ks=[(2,0)]:=rfl
@[go_sem] theorem qFr:qbA.body=qfb:=rfl
def qfc:AC:=(.seq (.reg [.bin 21 .lss (.t 20) (.t 19)]) (.seq (.cond (.t 21) .skip (.keep [6,7] (.exit 0))) (.keep [6,7,18,19,20] (.seq (.block 1 (.seq (.reg [.ia 22 9 (.t 18) (.t 20),.ld 23 true 9 (.t 22),.new 9 (.c (.a [(I 0),(S []),(I 0),(.n 4),(I 0),(S []),(I 0),(.n 4),(S [])])),.st 9 (.t 9) (.t 23)]) (.keep [6,7,9,18,19,20] (.reg [.mv 24 (.t 7),.ld 25 true 9 (.t 9),.call (some 26) (.c (Fc Yk)) [(.t 25)] (.ro false),.call (some 27) (.c (Fc qei)) [(.t 26)] (.ro false),.bin 28 .add (.c (S [45,32])) (.t 27),.bin 29 .add (.t 28) (.c (S [10])),.bin 30 .add (.t 24) (.t 29),.mv 7 (.t 30)])))) (.keep [6,7,18,19,20] (.reg [.bin 31 .add (.t 20) (.c (I 1)),.mv 20 (.t 31)]))))))
def qbB:Lp:=⟨[6,7,18,19,20],[(2,0)],qfc⟩
@[go_sem] theorem qFw:qbB.ls=[6,7,18,19,20]:=rfl
@[go_sem] theorem qFv:qbB.ks=[(2,0)]:=rfl
@[go_sem] theorem qFu:qbB.body=qfc:=rfl
def Kj:AF where
 nargs:=2
 ntmps:=47
 res:=[.tmp 4]
 body:=(.seq (.reg [.new 2 (.t 0),.new 3 (.t 1),.mv 4 (.c (S []))]) (.seq (.reg [.ld 13 true 2 (.t 2),.ld 14 true 2 (.t 3),.call (some 15) (.c (Fc Jk)) [(.t 13),(.t 14)] (.ro false),.mv 12 (.t 15),.ext 16 (.t 12) 0,.ext 17 (.t 12) 1,.mv 5 (.t 16),.mv 6 (.t 17)]) (.keep [5,6] (.seq (.reg [.mv 7 (.c (S []))]) (.seq (.seq (.reg [.mv 18 (.t 5),.len 19 (.t 18),.mv 20 (.c (I 0))]) (.block 0 (lpC qbB))) (.keep [6,7] (.seq (.seq (.reg [.mv 32 (.t 6),.len 33 (.t 32),.mv 34 (.c (I 0))]) (.block 2 (lpC qbA))) (.keep [7] (.seq (.reg [.mv 46 (.t 7),.mv 4 (.t 46)]) (.keep [4] .ret))))))))))
def qkK:AC:=(.seq (.seq (.reg [.mv 12 (.t 5),.mv 13 (.t 0),.len 14 (.t 13),.bin 15 .lss (.t 12) (.t 14)]) (.keep [0,1,5,15] (.cond (.t 15) .skip (.keep [1] (.exit 0))))) (.keep [0,1,5] (.seq (.block 1 (.seq (.reg [.mv 18 (.t 0),.mv 19 (.t 5),.ia 20 9 (.t 18) (.t 19),.ld 21 true 9 (.t 20),.mv 22 (.t 1),.call (some 23) (.c (Fc qqF)) [(.t 21),(.t 22)] (.ro false),.mv 1 (.t 23)]) (.keep [0,1,5] (.seq (.reg [.mv 24 (.t 1),.bin 25 .lss (.t 24) (.c (I 0))]) (.cond (.t 25) (.seq (.reg [.mv 4 (.c (I (-1)))]) (.keep [4] .ret)) .skip))))) (.keep [0,1,5] (.reg [.mv 16 (.t 5),.bin 17 .add (.t 16) (.c (I 1)),.mv 5 (.t 17)])))))
def qeY:Lp:=⟨[0,1,5],[(2,0)],qkK⟩
@[go_sem] theorem qGJ:qeY.ls=[0,1,5]:=rfl
@[go_sem] theorem qGI:qeY.ks=[(2,0)]:=rfl
@[go_sem] theorem qGH:qeY.body=qkK:=rfl
def qdG:AF where
 nargs:=2
 ntmps:=27
 res:=[.tmp 4]
 body:=(.seq (.reg [.mv 4 (.c (I 0))]) (.seq (.reg [.mv 6 (.t 1),.mv 7 (.t 0),.len 8 (.t 7),.bin 9 .sub (.t 6) (.t 8),.mv 1 (.t 9)]) (.keep [0,1] (.seq (.seq (.reg [.mv 10 (.t 1),.bin 11 .lss (.t 10) (.c (I 0))]) (.cond (.t 11) (.seq (.reg [.mv 4 (.c (I (-1)))]) (.keep [4] .ret)) .skip)) (.keep [0,1] (.seq (.seq (.reg [.mv 5 (.c (I 0))]) (.block 0 (lpC qeY))) (.keep [1] (.seq (.reg [.mv 26 (.t 1),.mv 4 (.t 26)]) (.keep [4] .ret)))))))))
def qkL:AC:=(.seq (.seq (.reg [.mv 12 (.t 5),.mv 13 (.t 0),.len 14 (.t 13),.bin 15 .lss (.t 12) (.t 14)]) (.keep [0,1,5,15] (.cond (.t 15) .skip (.keep [1] (.exit 0))))) (.keep [0,1,5] (.seq (.block 1 (.seq (.reg [.mv 18 (.t 1),.mv 19 (.t 0),.mv 20 (.t 5),.ia 21 1 (.t 19) (.t 20),.ld 22 false 1 (.t 21),.slen 23 (.t 22),.bin 24 .sub (.t 18) (.t 23),.mv 1 (.t 24)]) (.keep [0,1,5] (.seq (.reg [.mv 25 (.t 1),.bin 26 .lss (.t 25) (.c (I 0))]) (.cond (.t 26) (.seq (.reg [.mv 4 (.c (I (-1)))]) (.keep [4] .ret)) .skip))))) (.keep [0,1,5] (.reg [.mv 16 (.t 5),.bin 17 .add (.t 16) (.c (I 1)),.mv 5 (.t 17)])))))
def qeZ:Lp:=⟨[0,1,5],[(2,0)],qkL⟩
@[go_sem] theorem qGM:qeZ.ls=[0,1,5]:=rfl
@[go_sem] theorem qGL:qeZ.ks=[(2,0)]:=rfl
@[go_sem] theorem qGK:qeZ.body=qkL:=rfl
def qdI:AF where
 nargs:=2
 ntmps:=28
 res:=[.tmp 4]
 body:=(.seq (.reg [.mv 4 (.c (I 0))]) (.seq (.reg [.mv 6 (.t 1),.mv 7 (.t 0),.len 8 (.t 7),.bin 9 .sub (.t 6) (.t 8),.mv 1 (.t 9)]) (.keep [0,1] (.seq (.seq (.reg [.mv 10 (.t 1),.bin 11 .lss (.t 10) (.c (I 0))]) (.cond (.t 11) (.seq (.reg [.mv 4 (.c (I (-1)))]) (.keep [4] .ret)) .skip)) (.keep [0,1] (.seq (.seq (.reg [.mv 5 (.c (I 0))]) (.block 0 (lpC qeZ))) (.keep [1] (.seq (.reg [.mv 27 (.t 1),.mv 4 (.t 27)]) (.keep [4] .ret)))))))))
def qkN:AC:=(.seq (.seq (.reg [.mv 8 (.t 4),.mv 9 (.t 0),.len 10 (.t 9),.bin 11 .lss (.t 8) (.t 10)]) (.keep [0,3,4,11] (.cond (.t 11) .skip (.keep [3] (.exit 0))))) (.keep [0,3,4] (.seq (.block 1 (.reg [.mv 14 (.t 3),.mv 15 (.t 4),.mv 16 (.t 0),.mv 17 (.t 4),.ia 18 9 (.t 16) (.t 17),.ld 19 true 9 (.t 18),.call (some 20) (.c (Fc qqJ)) [(.t 19)] (.ro false),.ia 21 9 (.t 14) (.t 15),.st 9 (.t 21) (.t 20)])) (.keep [0,3,4] (.reg [.mv 12 (.t 4),.bin 13 .add (.t 12) (.c (I 1)),.mv 4 (.t 13)])))))
def qe1:Lp:=⟨[0,3,4],[(1,0)],qkN⟩
@[go_sem] theorem qGS:qe1.ls=[0,3,4]:=rfl
@[go_sem] theorem qGR:qe1.ks=[(1,0)]:=rfl
@[go_sem] theorem qGQ:qe1.body=qkN:=rfl
def qdM:AF where
 nargs:=1
 ntmps:=23
 res:=[.tmp 2]
 body:=(.seq (.reg [.mv 2 (.c (.n 9))]) (.seq (.reg [.mv 5 (.t 0),.len 6 (.t 5),.mk 7 9 (.a [(I 0),(S []),(I 0),(.n 4),(I 0),(S []),(I 0),(.n 4),(S [])]) 128 (.t 6) (.t 6),.mv 3 (.t 7)]) (.keep [0,3] (.seq (.seq (.reg [.mv 4 (.c (I 0))]) (.block 0 (lpC qe1))) (.keep [3] (.seq (.reg [.mv 22 (.t 3),.mv 2 (.t 22)]) (.keep [2] .ret)))))))
def qkO:AC:=(.seq (.seq (.reg [.mv 8 (.t 4),.mv 9 (.t 0),.len 10 (.t 9),.bin 11 .lss (.t 8) (.t 10)]) (.keep [0,3,4,11] (.cond (.t 11) .skip (.keep [3] (.exit 0))))) (.keep [0,3,4] (.seq (.block 1 (.reg [.mv 14 (.t 3),.mv 15 (.t 4),.mv 16 (.t 0),.mv 17 (.t 4),.ia 18 1 (.t 16) (.t 17),.ld 19 false 1 (.t 18),.ia 20 1 (.t 14) (.t 15),.st 1 (.t 20) (.t 19)])) (.keep [0,3,4] (.reg [.mv 12 (.t 4),.bin 13 .add (.t 12) (.c (I 1)),.mv 4 (.t 13)])))))
def qe2:Lp:=⟨[0,3,4],[(1,0)],qkO⟩
@[go_sem] theorem qGV:qe2.ls=[0,3,4]:=rfl
@[go_sem] theorem qGU:qe2.ks=[(1,0)]:=rfl
@[go_sem] theorem qGT:qe2.body=qkO:=rfl
def qdO:AF where
 nargs:=1
 ntmps:=22
 res:=[.tmp 2]
 body:=(.seq (.reg [.mv 2 (.c (.n 1))]) (.seq (.reg [.mv 5 (.t 0),.len 6 (.t 5),.mk 7 1 (S []) 16 (.t 6) (.t 6),.mv 3 (.t 7)]) (.keep [0,3] (.seq (.seq (.reg [.mv 4 (.c (I 0))]) (.block 0 (lpC qe2))) (.keep [3] (.seq (.reg [.mv 21 (.t 3),.mv 2 (.t 21)]) (.keep [2] .ret)))))))
def qkF:AC:=(.seq (.seq (.reg [.mv 11 (.t 5),.mv 12 (.t 0),.len 13 (.t 12),.bin 14 .lss (.t 11) (.t 13)]) (.keep [0,1,5,14] (.cond (.t 14) .skip (.keep [] (.exit 0))))) (.keep [0,1,5] (.seq (.block 1 (.seq (.dreg [⟨0,[]⟩,⟨0,[]⟩,⟨0,[(0,0),(0,1),(0,2),(0,3),(100000,0),(100000,1),(100000,2),(100000,3),(100000,4),(100000,5)]⟩,⟨0,[(0,0),(0,1),(0,2),(0,3),(100000,0),(100000,1),(100000,2),(100000,3),(100000,4),(100000,5)]⟩,⟨0,[]⟩,⟨0,[]⟩,⟨0,[(1,0),(1,1),(1,2),(1,3),(100000,0),(100000,1),(100000,2),(100000,3),(100000,4),(100000,5)]⟩,⟨0,[(1,0),(1,1),(1,2),(1,3),(100000,0),(100000,1),(100000,2),(100000,3),(100000,4),(100000,5)]⟩,⟨2,[(0,0),(0,1),(0,2),(0,3),(1,0),(1,1),(1,2),(1,3),(20,0),(24,0),(100000,0),(100000,1),(100000,2),(100000,3),(100000,4),(100000,5)]⟩,⟨0,[]⟩] [.mv 17 (.t 0),.mv 18 (.t 5),.ia 19 9 (.t 17) (.t 18),.ldq 20 true 9 (.t 19),.mv 21 (.t 1),.mv 22 (.t 5),.ia 23 9 (.t 21) (.t 22),.ldq 24 true 9 (.t 23),.call (some 25) (.c (Fc qqz)) [(.t 20),(.t 24)] (.ro true),.un 26 .not (.t 25)]) (.keep [0,1,5,26] (.cond (.t 26) (.seq (.reg [.mv 4 (.c (B false))]) (.keep [4] .ret)) .skip)))) (.keep [0,1,5] (.reg [.mv 15 (.t 5),.bin 16 .add (.t 15) (.c (I 1)),.mv 5 (.t 16)])))))
def qeT:Lp:=⟨[0,1,5],[(2,0)],qkF⟩
@[go_sem] theorem qGl:qeT.ls=[0,1,5]:=rfl
@[go_sem] theorem qGk:qeT.ks=[(2,0)]:=rfl
@[go_sem] theorem qGj:qeT.body=qkF:=rfl
def qdy:AF where
 nargs:=2
 ntmps:=27
 res:=[.tmp 4]
 body:=(.seq (.reg [.mv 4 (.c (B false))]) (.seq (.seq (.reg [.mv 6 (.t 0),.len 7 (.t 6),.mv 8 (.t 1),.len 9 (.t 8),.bin 10 .neq (.t 7) (.t 9)]) (.keep [0,1,10] (.cond (.t 10) (.seq (.reg [.mv 4 (.c (B false))]) (.keep [4] .ret)) .skip))) (.keep [0,1] (.seq (.seq (.reg [.mv 5 (.c (I 0))]) (.block 0 (lpC qeT))) (.keep [] (.seq (.reg [.mv 4 (.c (B true))]) (.keep [4] .ret)))))))
def qkG:AC:=(.seq (.seq (.reg [.mv 11 (.t 5),.mv 12 (.t 0),.len 13 (.t 12),.bin 14 .lss (.t 11) (.t 13)]) (.keep [0,1,5,14] (.cond (.t 14) .skip (.keep [] (.exit 0))))) (.keep [0,1,5] (.seq (.block 1 (.seq (.dreg [⟨0,[]⟩,⟨0,[]⟩,⟨0,[(0,0),(0,1),(0,2),(0,3),(100000,0),(100000,1),(100000,2),(100000,3),(100000,4),(100000,5)]⟩,⟨0,[(0,0),(0,1),(0,2),(0,3),(100000,0),(100000,1),(100000,2),(100000,3),(100000,4),(100000,5)]⟩,⟨0,[]⟩,⟨0,[]⟩,⟨0,[(1,0),(1,1),(1,2),(1,3),(100000,0),(100000,1),(100000,2),(100000,3),(100000,4),(100000,5)]⟩,⟨0,[(1,0),(1,1),(1,2),(1,3),(100000,0),(100000,1),(100000,2),(100000,3),(100000,4),(100000,5)]⟩,⟨0,[]⟩] [.mv 17 (.t 0),.mv 18 (.t 5),.ia 19 1 (.t 17) (.t 18),.ldq 20 false 1 (.t 19),.mv 21 (.t 1),.mv 22 (.t 5),.ia 23 1 (.t 21) (.t 22),.ldq 24 false 1 (.t 23),.bin 25 .neq (.t 20) (.t 24)]) (.keep [0,1,5,25] (.cond (.t 25) (.seq (.reg [.mv 4 (.c (B false))]) (.keep [4] .ret)) .skip)))) (.keep [0,1,5] (.reg [.mv 15 (.t 5),.bin 16 .add (.t 15) (.c (I 1)),.mv 5 (.t 16)])))))
def qeU:Lp:=⟨[0,1,5],[(2,0)],qkG⟩
@[go_sem] theorem qGo:qeU.ls=[0,1,5]:=rfl
@[go_sem] theorem qGn:qeU.ks=[(2,0)]:=rfl
@[go_sem] theorem qGm:qeU.body=qkG:=rfl
def qdA:AF where
 nargs:=2
 ntmps:=26
 res:=[.tmp 4]
 body:=(.seq (.reg [.mv 4 (.c (B false))]) (.seq (.seq (.reg [.mv 6 (.t 0),.len 7 (.t 6),.mv 8 (.t 1),.len 9 (.t 8),.bin 10 .neq (.t 7) (.t 9)]) (.keep [0,1,10] (.cond (.t 10) (.seq (.reg [.mv 4 (.c (B false))]) (.keep [4] .ret)) .skip))) (.keep [0,1] (.seq (.seq (.reg [.mv 5 (.c (I 0))]) (.block 0 (lpC qeU))) (.keep [] (.seq (.reg [.mv 4 (.c (B true))]) (.keep [4] .ret)))))))
def Jc:AF where
 nargs:=1
 ntmps:=12
 res:=[.cell 2 true 2]
 body:=(.seq (.reg [.new 1 (.t 0),.new 2 (.c (.a [(.n 9),(.n 1)]))]) (.seq (.reg [.fa 3 (.t 1) 0,.ld 4 false 1 (.t 3),.call (some 5) (.c (Fc qhH)) [(.t 4)] (.ro false),.fa 6 (.t 1) 0,.st 1 (.t 6) (.t 5)]) (.keep [1,2] (.seq (.reg [.fa 7 (.t 1) 1,.ld 8 false 1 (.t 7),.call (some 9) (.c (Fc qhI)) [(.t 8)] (.ro false),.fa 10 (.t 1) 1,.st 1 (.t 10) (.t 9)]) (.keep [1,2] (.seq (.reg [.ld 11 true 2 (.t 1),.st 2 (.t 2) (.t 11)]) (.keep [2] .ret)))))))
def KC:AF where
 nargs:=3
 ntmps:=15
 res:=[.tmp 6]
 body:=(.seq (.reg [.mv 6 (.c (B false))]) (.seq (.reg [.mv 7 (.t 0),.mv 8 (.t 1),.bin 9 .geq (.t 7) (.t 8),.mv 10 (.t 9),.gd 10 true (some 11) (.mv 11 (.t 0)),.gd 10 true (some 12) (.mv 12 (.t 2)),.gd 10 true (some 13) (.bin 13 .leq (.t 11) (.t 12)),.pick 14 (.t 10) (.t 13) (.c (B false)),.mv 6 (.t 14)]) (.keep [6] .ret)))
def Kq:AF where
 nargs:=1
 ntmps:=10
 res:=[.cell 2 true 2]
 body:=(.seq (.reg [.new 1 (.t 0),.new 2 (.c (.a [(.n 9),(.n 1)]))]) (.seq (.dreg [⟨0,[]⟩,⟨0,[(1,0)]⟩,⟨2,[(0,0),(0,1),(0,2),(0,3),(4,0)]⟩,⟨0,[]⟩,⟨0,[(1,0)]⟩,⟨1,[(500000,0)]⟩,⟨0,[]⟩,⟨1,[(2,0)]⟩] [.fa 3 (.t 1) 0,.ldq 4 false 1 (.t 3),.call (some 5) (.c (Fc qek)) [(.t 4)] (.ro false),.fa 6 (.t 1) 1,.ldq 7 false 1 (.t 6),.app 8 1 16 (.c (.n 1)) (.t 7),.build 9 (.a [(.n 9),(.n 1)]) [(0,1,(.t 5)),(1,1,(.t 8))],.st 2 (.t 2) (.t 9)]) (.keep [2] .ret)))
def Z5:AF where
 nargs:=1
 ntmps:=19
 res:=[.tmp 2]
 body:=(.seq (.reg [.new 1 (.t 0),.mv 2 (.c (S []))]) (.seq (.seq (.reg [.fa 3 (.t 1) 0,.ld 4 false 1 (.t 3),.bin 5 .neq (.t 4) (.c (I 2)),.mv 6 (.t 5),.gd 6 true (some 7) (.fa 7 (.t 1) 0),.gd 6 true (some 8) (.ld 8 false 1 (.t 7)),.gd 6 true (some 9) (.bin 9 .neq (.t 8) (.c (I 4))),.pick 10 (.t 6) (.t 9) (.c (B false))]) (.keep [1,10] (.cond (.t 10) (.seq (.reg [.mv 2 (.c (S []))]) (.keep [2] .ret)) .skip))) (.keep [1] (.seq (.dreg [⟨0,[]⟩,⟨0,[(1,0)]⟩,⟨0,[]⟩,⟨0,[]⟩,⟨0,[(1,0)]⟩,⟨0,[(0,0),(0,1),(0,2),(0,3),(15,0)]⟩,⟨2,[(0,0),(0,1),(0,2),(0,3),(15,0)]⟩,⟨0,[]⟩,⟨0,[]⟩] [.fa 11 (.t 1) 1,.ldq 12 false 1 (.t 11),.bin 13 .add (.t 12) (.c (S [47])),.fa 14 (.t 1) 3,.ldq 15 false 1 (.t 14),.len 16 (.t 15),.call (some 17) (.c (Fc qbb)) [(.t 16)] (.ro false),.bin 18 .add (.t 13) (.t 17),.mv 2 (.t 18)]) (.keep [2] .ret)))))
def Xx:AC:=(.seq (.reg [.bin 9 .lss (.t 8) (.t 7)]) (.seq (.cond (.t 9) .skip (.keep [1] (.exit 0))) (.keep [1,6,7,8] (.seq (.block 1 (.seq (.reg [.ia 10 9 (.t 6) (.t 8),.ld 11 true 9 (.t 10),.new 4 (.c (.a [(I 0),(S []),(I 0),(.n 4),(I 0),(S []),(I 0),(.n 4),(S [])])),.st 9 (.t 4) (.t 11)]) (.keep [1,4,6,7,8] (.seq (.reg [.fa 12 (.t 4) 0,.ld 13 true 4 (.t 12),.call (some 14) (.c (Fc Yl)) [(.t 13)] (.ro true),.un 15 .not (.t 14),.mv 16 (.t 15),.gd 16 false (some 17) (.fa 17 (.t 4) 4),.gd 16 false (some 18) (.ld 18 true 4 (.t 17)),.gd 16 false (some 19) (.call (some 19) (.c (Fc Yl)) [(.t 18)] (.ro true)),.gd 16 false (some 20) (.un 20 .not (.t 19)),.pick 21 (.t 16) (.c (B true)) (.t 20),.mv 22 (.t 21),.gd 22 false (some 23) (.fa 23 (.t 4) 0),.gd 22 false (some 24) (.ld 24 true 4 (.t 23)),.gd 22 false (some 25) (.call (some 25) (.c (Fc qgX)) [(.t 24)] (.ro true)),.gd 22 false (some 26) (.un 26 .not (.t 25)),.pick 27 (.t 22) (.c (B true)) (.t 26)]) (.keep [1,6,7,8,27] (.cond (.t 27) (.seq (.reg [.mv 2 (.c (B false))]) (.keep [2] .ret)) .skip)))))) (.keep [1,6,7,8] (.reg [.bin 28 .add (.t 8) (.c (I 1)),.mv 8 (.t 28)]))))))
def Qi:Lp:=⟨[1,6,7,8],[(1,0)],Xx⟩
@[go_sem] theorem qFq:Qi.ls=[1,6,7,8]:=rfl
@[go_sem] theorem qFp:Qi.ks=[(1,0)]:=rfl
@[go_sem] theorem qFo:Qi.body=Xx:=rfl
def Z4:AF where
 nargs:=1
 ntmps:=39
 res:=[.tmp 2]
 body:=(.seq (.reg [.new 1 (.t 0),.mv 2 (.c (B false))]) (.seq (.seq (.reg [.fa 5 (.t 1) 0,.ld 6 false 1 (.t 5),.len 7 (.t 6),.mv 8 (.c (I 0))]) (.keep [1,6,7,8] (.block 0 (lpC Qi)))) (.keep [1] (.seq (.reg [.fa 29 (.t 1) 0,.ld 30 false 1 (.t 29),.len 31 (.t 30),.bin 32 .leq (.t 31) (.c (I 120)),.mv 33 (.t 32),.gd 33 true (some 34) (.fa 34 (.t 1) 1),.gd 33 true (some 35) (.ld 35 false 1 (.t 34)),.gd 33 true (some 36) (.len 36 (.t 35)),.gd 33 true (some 37) (.bin 37 .leq (.t 36) (.c (I 40))),.pick 38 (.t 33) (.t 37) (.c (B false)),.mv 2 (.t 38)]) (.keep [2] .ret)))))
def qdY:AF where
 nargs:=1
 ntmps:=10
 res:=[.cell 2 true 4]
 body:=(.seq (.reg [.new 2 (.c (.a [(I 0),(S []),(I 0),(.n 4)]))]) (.seq (.reg [.mv 4 (.t 0),.call (some 5) (.c (Fc Qf)) [(.t 4),(.c (I 3))] (.io false),.new 3 (.c (.a [(I 0),(S []),(I 0),(.n 4)])),.st 4 (.t 3) (.t 5)]) (.keep [0,2,3] (.seq (.seq (.reg [.ld 6 true 4 (.t 3),.call (some 7) (.c (Fc ZD)) [(.t 6)] (.ro true)]) (.cond (.t 7) (.seq (.reg [.ld 8 true 4 (.t 3),.st 4 (.t 2) (.t 8)]) (.keep [0,2] .ret)) .skip)) (.keep [0,2] (.seq (.reg [.call (some 9) (.c (Fc ZE)) [(.c (S [97]))] (.ro false),.st 4 (.t 2) (.t 9)]) (.keep [0,2] .ret)))))))
def qcj:AC:=(.seq (.seq (.reg [.mv 8 (.t 4),.mv 9 (.t 0),.len 10 (.t 9),.bin 11 .lss (.t 8) (.t 10),.mv 12 (.t 11),.gd 12 true (some 13) (.mv 13 (.t 4)),.gd 12 true (some 14) (.bin 14 .lss (.t 13) (.c (I 4000))),.pick 15 (.t 12) (.t 14) (.c (B false))]) (.keep [0,3,4,15] (.cond (.t 15) .skip (.keep [0,3] (.exit 0))))) (.keep [0,3,4] (.seq (.block 1 (.reg [.mv 18 (.t 3),.bin 19 .mul (.t 18) (.c (I 131)),.mv 20 (.t 0),.mv 21 (.t 4),.ia 22 1 (.t 20) (.t 21),.ld 23 false 1 (.t 22),.int 24 .i64 (.t 23),.bin 25 .add (.t 19) (.t 24),.bin 26 .add (.t 25) (.c (I 7)),.bin 27 .and (.t 26) (.c (I 1073741823)),.mv 3 (.t 27)])) (.keep [0,3,4] (.reg [.mv 16 (.t 4),.bin 17 .add (.t 16) (.c (I 1)),.mv 4 (.t 17)])))))
def qbV:Lp:=⟨[0,3,4],[(1,0)],qcj⟩
@[go_sem] theorem qHv:qbV.ls=[0,3,4]:=rfl
@[go_sem] theorem qHu:qbV.ks=[(1,0)]:=rfl
@[go_sem] theorem qHt:qbV.body=qcj:=rfl
def KS:AF where
 nargs:=1
 ntmps:=32
 res:=[.tmp 2]
 body:=(.seq (.reg [.mv 2 (.c (.v (.pointer none)))]) (.seq (.reg [.mv 5 (.t 0),.len 6 (.t 5),.bin 7 .add (.c (I 95101)) (.t 6),.mv 3 (.t 7)]) (.keep [0,3] (.seq (.seq (.reg [.mv 4 (.c (I 0))]) (.block 0 (lpC qbV))) (.keep [0,3] (.seq (.reg [.mv 28 (.t 0),.mv 29 (.t 3),.build 30 (.a [(.n 1),(I 0),(I 0)]) [(0,1,(.t 28)),(2,1,(.t 29))],.new 31 (.t 30),.mv 2 (.t 31)]) (.keep [2] .ret)))))))
def YW:AF where
 nargs:=1
 ntmps:=6
 res:=[.tmp 2]
 body:=(.seq (.reg [.new 1 (.t 0),.mv 2 (.c (B false))]) (.seq (.reg [.ld 3 true 4 (.t 1),.call (some 4) (.c (Fc qbk)) [(.t 3),(.c (I 1))] (.ro false),.bin 5 .leq (.t 4) (.c (I 400)),.mv 2 (.t 5)]) (.keep [2] .ret)))
def qdu:AF where
 nargs:=1
 ntmps:=5
 res:=[.tmp 2]
 body:=(.seq (.reg [.new 1 (.t 0),.mv 2 (.c (S []))]) (.seq (.reg [.ld 3 true 4 (.t 1),.call (some 4) (.c (Fc qev)) [(.t 3),(.c (Fc qqx)),(.c (Fc qqy))] (.ro false),.mv 2 (.t 4)]) (.keep [2] .ret)))
def qch:AC:=(.seq (.seq (.reg [.mv 27 (.t 5),.mv 28 (.t 0),.slen 29 (.t 28),.bin 30 .lss (.t 27) (.t 29),.mv 31 (.t 30),.gd 31 true (some 32) (.mv 32 (.t 0)),.gd 31 true (some 33) (.mv 33 (.t 5)),.gd 31 true (some 34) (.ix 34 (.t 32) (.t 33)),.gd 31 true (some 35) (.bin 35 .neq (.t 34) (.c (U8 10))),.pick 36 (.t 31) (.t 35) (.c (B false))]) (.keep [0,4,5,36] (.cond (.t 36) .skip (.keep [0,4,5] (.exit 2))))) (.keep [0,4,5] (.block 3 (.reg [.mv 37 (.t 5),.bin 38 .add (.t 37) (.c (I 1)),.mv 5 (.t 38)]))))
def qbT:Lp:=⟨[0,4,5],[(1,0)],qch⟩
@[go_sem] theorem qHm:qbT.ls=[0,4,5]:=rfl
@[go_sem] theorem qHl:qbT.ks=[(1,0)]:=rfl
@[go_sem] theorem qHk:qbT.body=qch:=rfl
def Yt:AC:=(.seq (.seq (.reg [.mv 13 (.t 5),.mv 14 (.t 0),.slen 15 (.t 14),.bin 16 .lss (.t 13) (.t 15)]) (.keep [0,4,5,16] (.cond (.t 16) .skip (.keep [4] (.exit 0))))) (.keep [0,4,5] (.block 1 (.seq (.seq (.reg [.mv 17 (.t 0),.mv 18 (.t 5),.ix 19 (.t 17) (.t 18),.call (some 20) (.c (Fc qeF)) [(.t 19)] (.ro true)]) (.keep [0,4,5,20] (.cond (.t 20) (.seq (.reg [.mv 21 (.t 5),.bin 22 .add (.t 21) (.c (I 1)),.mv 5 (.t 22)]) (.keep [0,4,5] (.exit 1))) .skip))) (.keep [0,4,5] (.seq (.seq (.reg [.mv 23 (.t 0),.mv 24 (.t 5),.ix 25 (.t 23) (.t 24),.bin 26 .eql (.t 25) (.c (U8 37))]) (.keep [0,4,5,26] (.cond (.t 26) (.seq (.block 2 (lpC qbT)) (.keep [0,4,5] (.exit 1))) .skip))) (.keep [0,4,5] (.seq (.reg [.mv 40 (.t 0),.mv 41 (.t 5),.call (some 42) (.c (Fc qhr)) [(.t 40),(.t 41)] (.ro false),.mv 39 (.t 42),.ext 43 (.t 39) 0,.ext 44 (.t 39) 1,.new 6 (.c (.a [(I 0),(S []),(I 0),(I 0),(B false)])),.st 5 (.t 6) (.t 43),.mv 7 (.t 44)]) (.keep [0,4,6,7] (.seq (.reg [.mv 45 (.t 7),.mv 46 (.t 0),.slen 47 (.t 46),.bin 48 .lss (.t 45) (.t 47),.mv 49 (.t 48),.gd 49 true (some 50) (.mv 50 (.t 0)),.gd 49 true (some 51) (.mv 51 (.t 7)),.gd 49 true (some 52) (.ix 52 (.t 50) (.t 51)),.gd 49 true (some 53) (.bin 53 .eql (.t 52) (.c (U8 40))),.pick 54 (.t 49) (.t 53) (.c (B false)),.fa 55 (.t 6) 4,.st 1 (.t 55) (.t 54)]) (.keep [0,4,6,7] (.seq (.reg [.mv 56 (.t 4),.ld 57 true 5 (.t 6),.mks 58 5 [(.t 57)],.app 59 5 48 (.t 56) (.t 58),.mv 4 (.t 59)]) (.keep [0,4,7] (.reg [.mv 60 (.t 7),.mv 5 (.t 60)]))))))))))))))
def qbU:Lp:=⟨[0,4,5],[(1,0)],Yt⟩
@[go_sem] theorem qHp:qbU.ls=[0,4,5]:=rfl
@[go_sem] theorem qHo:qbU.ks=[(1,0)]:=rfl
@[go_sem] theorem qHn:qbU.body=Yt:=rfl
def Xa:AF where
 nargs:=1
 ntmps:=62
 res:=[.tmp 2,.tmp 3]
 body:=(.seq (.reg [.mv 2 (.c (.n 5)),.mv 3 (.c (B false))]) (.seq (.reg [.mks 8 5 [],.mv 4 (.t 8)]) (.seq (.seq (.reg [.mv 9 (.t 0),.slen 10 (.t 9),.bin 11 .gtr (.t 10) (.c (I 3000))]) (.cond (.t 11) (.seq (.reg [.mv 12 (.t 4),.mv 2 (.t 12),.mv 3 (.c (B false))]) (.keep [2,3] .ret)) .skip)) (.keep [0,4] (.seq (.reg [.mv 5 (.c (I 0))]) (.seq (.block 0 (lpC qbU)) (.keep [4] (.seq (.reg [.mv 61 (.t 4),.mv 2 (.t 61),.mv 3 (.c (B true))]) (.keep [2,3] .ret)))))))))
def QH:AF where
 nargs:=2
 ntmps:=52
 res:=[.cell 4 true 4,.tmp 5,.tmp 6,.tmp 7]
 body:=(.seq (.reg [.new 4 (.c (.a [(I 0),(S []),(I 0),(.n 4)])),.mv 5 (.c (.n 1)),.mv 6 (.c (I 0)),.mv 7 (.c (B false))]) (.keep [0,1,4] (.seq (.reg [.mv 11 (.t 0),.mv 12 (.t 1),.call (some 13) (.c (Fc qht)) [(.t 11),(.t 12)] (.ro false),.mv 8 (.t 13)]) (.keep [0,1,4,8] (.seq (.seq (.reg [.mv 14 (.t 1),.mv 15 (.t 0),.len 16 (.t 15),.bin 17 .sub (.t 16) (.c (I 1)),.call (some 18) (.c (Fc Xs)) [(.t 14),(.c (I 0)),(.t 17)] (.ro true),.un 19 .not (.t 18)]) (.keep [0,1,4,8,19] (.cond (.t 19) (.seq (.reg [.build 20 (.a [(I 0),(S []),(I 0),(.n 4)]) [],.mks 21 1 [],.mv 22 (.t 8),.st 4 (.t 4) (.t 20),.mv 5 (.t 21),.mv 6 (.t 22),.mv 7 (.c (B false))]) (.keep [4,5,6,7] .ret)) .skip))) (.keep [0,1,4,8] (.seq (.reg [.mv 23 (.t 0),.mv 24 (.t 1),.build 25 (.a [(.n 5),(I 0),(B false),(I 0),(.n 1)]) [(0,1,(.t 23)),(1,1,(.t 24))],.new 26 (.t 25),.mv 9 (.t 26)]) (.keep [4,8,9] (.nam [4,8,9] [(2,0)] (.seq (.reg [.mv 27 (.t 9),.call (some 28) (.c (Fc yc)) [(.t 27),(.c (I 1200))] (.io false),.new 10 (.c (.a [(I 0),(S []),(I 0),(.n 4)])),.st 4 (.t 10) (.t 28)]) (.keep [4,8,9,10] (.seq (.seq (.reg [.mv 29 (.t 9),.call (some 30) (.c (Fc QN)) [(.t 29),(.c (I 5)),(.c (S []))] (.ro true),.un 31 .not (.t 30),.mv 32 (.t 31),.gd 32 false (some 33) (.ld 33 true 4 (.t 10)),.gd 32 false (some 34) (.call (some 34) (.c (Fc ZD)) [(.t 33)] (.ro true)),.gd 32 false (some 35) (.un 35 .not (.t 34)),.pick 36 (.t 32) (.c (B true)) (.t 35)]) (.keep [4,8,9,10,36] (.cond (.t 36) (.seq (.reg [.build 37 (.a [(I 0),(S []),(I 0),(.n 4)]) [],.mks 38 1 [],.mv 39 (.t 8),.st 4 (.t 4) (.t 37),.mv 5 (.t 38),.mv 6 (.t 39),.mv 7 (.c (B false))]) (.keep [4,5,6,7] .ret)) .skip))) (.keep [4,9,10] (.seq (.opd [(500000,9,none)] (.dreg [⟨0,[(10,0)]⟩,⟨1,[]⟩,⟨0,[]⟩,⟨0,[]⟩,⟨0,[]⟩,⟨0,[(100000,1)]⟩,⟨1,[(41,0),(500000,0)]⟩,⟨0,[]⟩,⟨0,[]⟩,⟨0,[]⟩,⟨0,[(100000,1)]⟩,⟨0,[]⟩,⟨1,[(100000,0)]⟩,⟨0,[]⟩,⟨0,[]⟩,⟨0,[]⟩] [.ldq 40 true 4 (.t 10),.mks 41 1 [],.mv 42 (.t 9),.nilc 43 (.t 42),.fa 44 (.t 43) 4,.ldq 45 false 1 (.t 44),.app 46 1 16 (.t 41) (.t 45),.mv 47 (.t 9),.nilc 48 (.t 47),.fa 49 (.t 48) 1,.ldq 50 false 1 (.t 49),.bin 51 .add (.t 50) (.c (I 1)),.st 4 (.t 4) (.t 40),.mv 5 (.t 46),.mv 6 (.t 51),.mv 7 (.c (B true))])) (.keep [4,5,6,7] .ret)))))))))))))))
def QT:AC:=(.seq (.seq (.reg [.mv 16 (.t 6),.mv 17 (.t 4),.len 18 (.t 17),.bin 19 .lss (.t 16) (.t 18)]) (.keep [0,2,3,4,5,6,19] (.cond (.t 19) .skip (.keep [0,2,3] (.exit 0))))) (.keep [0,2,3,4,5,6] (.seq (.block 1 (.seq (.reg [.mv 23 (.t 4),.mv 24 (.t 6),.ia 25 1 (.t 23) (.t 24),.ld 26 false 1 (.t 25),.bin 27 .add (.t 26) (.c (S [32,46])),.call (some 28) (.c (Fc qeC)) [(.t 27)] (.ro true),.mv 22 (.t 28),.ext 29 (.t 22) 0,.ext 30 (.t 22) 1,.ext 31 (.t 22) 2,.new 7 (.c (.a [(I 0),(S []),(I 0),(.n 4)])),.st 4 (.t 7) (.t 29),.mv 8 (.t 30),.mv 9 (.t 31)]) (.keep [0,2,3,4,5,6,7,9] (.seq (.dreg [⟨0,[(7,0)]⟩,⟨1,[]⟩,⟨0,[]⟩,⟨0,[]⟩,⟨0,[(34,0),(100000,0),(100000,1),(100000,2),(100000,3),(100000,4),(100000,5)]⟩,⟨0,[(34,0),(100000,0),(100000,1),(100000,2),(100000,3),(100000,4),(100000,5)]⟩,⟨2,[(13,0),(13,1),(13,2),(13,3),(26,0),(28,0),(28,1),(28,2),(28,3),(33,0),(34,0),(38,0),(100000,0),(100000,1),(100000,2),(100000,3),(100000,4),(100000,5)]⟩,⟨0,[]⟩,⟨0,[]⟩,⟨0,[]⟩,⟨1,[]⟩,⟨1,[(10,0)]⟩,⟨0,[]⟩] [.ldq 33 true 4 (.t 7),.mks 34 1 [(.c (S [111,110,101])),(.c (S [116,119,111])),(.c (S []))],.mv 35 (.t 6),.bin 36 .rem (.t 35) (.c (I 3)),.ia 37 1 (.t 34) (.t 36),.ldq 38 false 1 (.t 37),.call (some 39) (.c (Fc qeA)) [(.t 33),(.t 38)] (.ro true),.mv 32 (.t 39),.ext 40 (.t 32) 0,.ext 41 (.t 32) 1,.new 10 (.c (.a [(I 0),(S []),(I 0),(.n 4),(I 0),(S []),(I 0),(.n 4),(S [])])),.st 9 (.t 10) (.t 40),.mv 11 (.t 41)]) (.keep [0,2,3,4,5,6,9,10,11] (.seq (.reg [.mv 42 (.t 9),.mv 43 (.t 42),.gd 43 true (some 44) (.mv 44 (.t 11)),.pick 45 (.t 43) (.t 44) (.c (B false)),.mv 46 (.t 45),.gd 46 true (some 47) (.mv 47 (.t 5)),.gd 46 true (some 48) (.bin 48 .eql (.t 47) (.c (I 0))),.gd 46 true (some 49) (.mv 49 (.t 48)),.gd 49 false (some 50) (.mv 50 (.t 6)),.gd 49 false (some 51) (.bin 51 .rem (.t 50) (.c (I 7))),.gd 49 false (some 52) (.mv 52 (.t 5)),.gd 49 false (some 53) (.bin 53 .neq (.t 51) (.t 52)),.gd 46 true (some 54) (.pick 54 (.t 49) (.c (B true)) (.t 53)),.pick 55 (.t 46) (.t 54) (.c (B false))]) (.keep [0,2,3,4,5,6,10,55] (.cond (.t 55) (.reg [.ld 57 true 2 (.t 3),.ld 58 true 9 (.t 10),.call (some 59) (.c (Fc Xq)) [(.t 57),(.t 58)] (.ro true),.mv 56 (.t 59),.ext 60 (.t 56) 0,.ext 61 (.t 56) 1,.st 2 (.t 3) (.t 60)]) .skip)))))))) (.keep [0,2,3,4,5,6] (.reg [.mv 20 (.t 6),.bin 21 .add (.t 20) (.c (I 1)),.mv 6 (.t 21)])))))
def ZH:Lp:=⟨[0,2,3,4,5,6],[(1,0)],QT⟩
@[go_sem] theorem qIz:ZH.ls=[0,2,3,4,5,6]:=rfl
@[go_sem] theorem qIy:ZH.ks=[(1,0)]:=rfl
@[go_sem] theorem qIx:ZH.body=QT:=rfl
def Xj:AF where
 nargs:=1
 ntmps:=67
 res:=[.cell 2 true 2]
 body:=(.seq (.reg [.new 2 (.c (.a [(.n 9),(.n 1)]))]) (.seq (.reg [.build 12 (.a [(.n 9),(.n 1)]) [],.new 3 (.c (.a [(.n 9),(.n 1)])),.st 2 (.t 3) (.t 12)]) (.seq (.reg [.call (some 13) (.c (Fc qeK)) [] (.ro false),.mv 4 (.t 13)]) (.seq (.reg [.mv 14 (.t 0),.call (some 15) (.c (Fc kK)) [(.t 14),(.c (I 7))] (.io true),.mv 5 (.t 15)]) (.seq (.seq (.reg [.mv 6 (.c (I 0))]) (.block 0 (lpC ZH))) (.keep [0,2,3] (.seq (.seq (.reg [.mv 62 (.t 0),.call (some 63) (.c (Fc Js)) [(.t 62),(.c (I 2))] (.io true)]) (.cond (.t 63) (.reg [.ld 64 true 2 (.t 3),.call (some 65) (.c (Fc qhi)) [(.t 64),(.c (S [117,110,107,110,111,119,110,47,49]))] (.ro true),.st 2 (.t 3) (.t 65)]) .skip)) (.keep [0,2,3] (.seq (.reg [.ld 66 true 2 (.t 3),.st 2 (.t 2) (.t 66)]) (.keep [0,2] .ret))))))))))
def qkD:AC:=(.seq (.seq (.reg [.ld 37 true 4 (.t 4),.call (some 38) (.c (Fc qen)) [(.t 37),(.c (S [44])),(.c (I 2))] (.ro true)]) (.cond (.t 38) .skip (.keep [3,4] (.exit 0)))) (.keep [3,4] (.seq (.block 1 (.reg [.mv 43 (.t 3),.fa 44 (.t 4) 3,.ld 45 false 1 (.t 44),.ia 46 4 (.t 45) (.c (I 0)),.ld 47 true 4 (.t 46),.call (some 48) (.c (Fc qbf)) [(.t 47),(.c (I 999))] (.ro false),.bin 49 .add (.c (S [10,32,32,32,32])) (.t 48),.bin 50 .add (.t 49) (.c (S [44])),.bin 51 .add (.t 43) (.t 50),.mv 3 (.t 51)])) (.keep [3,4] (.reg [.fa 39 (.t 4) 3,.ld 40 false 1 (.t 39),.ia 41 4 (.t 40) (.c (I 1)),.ld 42 true 4 (.t 41),.st 4 (.t 4) (.t 42)])))))
def qeR:Lp:=⟨[3,4],[(1,0)],qkD⟩
@[go_sem] theorem qFz:qeR.ls=[3,4]:=rfl
@[go_sem] theorem qFy:qeR.ks=[(1,0)]:=rfl
@[go_sem] theorem qFx:qeR.body=qkD:=rfl
def qdm:AF where
 nargs:=1
 ntmps:=58
 res:=[.tmp 2]
 body:=(.seq (.reg [.new 1 (.t 0),.mv 2 (.c (S []))]) (.seq (.seq (.reg [.fa 5 (.t 1) 0,.ld 6 true 4 (.t 5),.call (some 7) (.c (Fc Yl)) [(.t 6)] (.ro true),.un 8 .not (.t 7),.mv 9 (.t 8),.gd 9 false (some 10) (.fa 10 (.t 1) 4),.gd 9 false (some 11) (.ld 11 true 4 (.t 10)),.gd 9 false (some 12) (.call (some 12) (.c (Fc Yl)) [(.t 11)] (.ro true)),.gd 9 false (some 13) (.un 13 .not (.t 12)),.pick 14 (.t 9) (.c (B true)) (.t 13),.mv 15 (.t 14),.gd 15 false (some 16) (.fa 16 (.t 1) 0),.gd 15 false (some 17) (.ld 17 true 4 (.t 16)),.gd 15 false (some 18) (.call (some 18) (.c (Fc qku)) [(.t 17)] (.ro true)),.gd 15 false (some 19) (.bin 19 .gtr (.t 18) (.c (I 1199))),.pick 20 (.t 15) (.c (B true)) (.t 19)]) (.keep [1,20] (.cond (.t 20) (.seq (.reg [.ld 21 true 9 (.t 1),.call (some 22) (.c (Fc Yk)) [(.t 21)] (.ro false),.call (some 23) (.c (Fc qkv)) [(.t 22)] (.ro false),.bin 24 .add (.t 23) (.c (S [32,46,10])),.mv 2 (.t 24)]) (.keep [2] .ret)) .skip))) (.keep [1] (.seq (.reg [.fa 25 (.t 1) 0,.ld 26 true 4 (.t 25),.call (some 27) (.c (Fc qkv)) [(.t 26)] (.ro false),.mv 3 (.t 27)]) (.keep [1,3] (.seq (.seq (.reg [.fa 28 (.t 1) 4,.ld 29 true 4 (.t 28),.call (some 30) (.c (Fc qbi)) [(.t 29),(.c (S [116,114,117,101]))] (.ro true)]) (.cond (.t 30) (.seq (.reg [.mv 31 (.t 3),.bin 32 .add (.t 31) (.c (S [46,10])),.mv 2 (.t 32)]) (.keep [2] .ret)) .skip)) (.keep [1,3] (.seq (.reg [.mv 33 (.t 3),.bin 34 .add (.t 33) (.c (S [32,58,45])),.mv 3 (.t 34)]) (.seq (.reg [.fa 35 (.t 1) 4,.ld 36 true 4 (.t 35),.new 4 (.c (.a [(I 0),(S []),(I 0),(.n 4)])),.st 4 (.t 4) (.t 36)]) (.keep [3,4] (.seq (.block 0 (lpC qeR)) (.keep [3,4] (.seq (.reg [.mv 52 (.t 3),.bin 53 .add (.t 52) (.c (S [10,32,32,32,32])),.ld 54 true 4 (.t 4),.call (some 55) (.c (Fc qbf)) [(.t 54),(.c (I 999))] (.ro false),.bin 56 .add (.t 53) (.t 55),.bin 57 .add (.t 56) (.c (S [46,10])),.mv 2 (.t 57)]) (.keep [2] .ret))))))))))))))
def kI:AF where
 nargs:=2
 ntmps:=48
 res:=[.cell 4 true 9,.tmp 5]
 body:=(.seq (.reg [.new 2 (.t 0),.new 4 (.c (.a [(I 0),(S []),(I 0),(.n 4),(I 0),(S []),(I 0),(.n 4),(S [])])),.mv 5 (.c (B false))]) (.seq (.seq (.reg [.ld 7 true 4 (.t 2),.call (some 8) (.c (Fc ZD)) [(.t 7)] (.ro true),.un 9 .not (.t 8)]) (.cond (.t 9) (.seq (.reg [.build 10 (.a [(I 0),(S []),(I 0),(.n 4),(I 0),(S []),(I 0),(.n 4),(S [])]) [],.st 9 (.t 4) (.t 10),.mv 5 (.c (B false))]) (.keep [4,5] .ret)) .skip)) (.keep [1,2,4] (.seq (.dreg [⟨0,[(2,0)]⟩,⟨2,[]⟩,⟨0,[]⟩,⟨0,[]⟩,⟨1,[]⟩,⟨1,[(6,0)]⟩] [.ldq 11 true 4 (.t 2),.call (some 12) (.c (Fc ZE)) [(.c (S [116,114,117,101]))] (.ro false),.mv 13 (.t 1),.build 14 (.a [(I 0),(S []),(I 0),(.n 4),(I 0),(S []),(I 0),(.n 4),(S [])]) [(0,4,(.t 11)),(4,4,(.t 12)),(8,1,(.t 13))],.new 6 (.c (.a [(I 0),(S []),(I 0),(.n 4),(I 0),(S []),(I 0),(.n 4),(S [])])),.st 9 (.t 6) (.t 14)]) (.keep [2,4,6] (.seq (.seq (.reg [.ld 15 true 4 (.t 2),.call (some 16) (.c (Fc qbq)) [(.t 15),(.c (S [58,45])),(.c (I 2))] (.ro true)]) (.cond (.t 16) (.seq (.reg [.fa 17 (.t 2) 3,.ld 18 false 1 (.t 17),.ia 19 4 (.t 18) (.c (I 0)),.ld 20 true 4 (.t 19),.fa 21 (.t 6) 0,.st 4 (.t 21) (.t 20)]) (.keep [2,4,6] (.seq (.reg [.fa 22 (.t 2) 3,.ld 23 false 1 (.t 22),.ia 24 4 (.t 23) (.c (I 1)),.ld 25 true 4 (.t 24),.fa 26 (.t 6) 4,.st 4 (.t 26) (.t 25)]) (.keep [4,6] (.seq (.reg [.fa 27 (.t 6) 4,.fa 28 (.t 27) 0,.ld 29 false 1 (.t 28),.bin 30 .eql (.t 29) (.c (I 1))]) (.keep [4,6,30] (.cond (.t 30) (.reg [.fa 31 (.t 6) 4,.ld 32 true 4 (.t 31),.mks 33 4 [(.t 32)],.build 34 (.a [(I 0),(S []),(I 0),(.n 4)]) [(0,1,(.c (I 4))),(1,1,(.c (S [99,97,108,108]))),(3,1,(.t 33))],.fa 35 (.t 6) 4,.st 4 (.t 35) (.t 34)]) .skip))))))) .skip)) (.keep [4,6] (.seq (.seq (.reg [.fa 36 (.t 6) 0,.ld 37 true 4 (.t 36),.call (some 38) (.c (Fc qeJ)) [(.t 37)] (.ro true),.un 39 .not (.t 38),.mv 40 (.t 39),.gd 40 false (some 41) (.fa 41 (.t 6) 4),.gd 40 false (some 42) (.ld 42 true 4 (.t 41)),.gd 40 false (some 43) (.call (some 43) (.c (Fc ZD)) [(.t 42)] (.ro true)),.gd 40 false (some 44) (.un 44 .not (.t 43)),.pick 45 (.t 40) (.c (B true)) (.t 44)]) (.keep [4,6,45] (.cond (.t 45) (.seq (.reg [.build 46 (.a [(I 0),(S []),(I 0),(.n 4),(I 0),(S []),(I 0),(.n 4),(S [])]) [],.st 9 (.t 4) (.t 46),.mv 5 (.c (B false))]) (.keep [4,5] .ret)) .skip))) (.keep [4,6] (.seq (.reg [.ld 47 true 9 (.t 6),.st 9 (.t 4) (.t 47),.mv 5 (.c (B true))]) (.keep [4,5] .ret)))))))))))
def Ja:AF where
 nargs:=1
 ntmps:=12
 res:=[.cell 2 true 9]
 body:=(.seq (.reg [.new 1 (.t 0),.new 2 (.c (.a [(I 0),(S []),(I 0),(.n 4),(I 0),(S []),(I 0),(.n 4),(S [])]))]) (.seq (.reg [.fa 3 (.t 1) 0,.ld 4 true 4 (.t 3),.call (some 5) (.c (Fc Yr)) [(.t 4)] (.ro false),.fa 6 (.t 1) 0,.st 4 (.t 6) (.t 5)]) (.keep [1,2] (.seq (.reg [.fa 7 (.t 1) 4,.ld 8 true 4 (.t 7),.call (some 9) (.c (Fc Yr)) [(.t 8)] (.ro false),.fa 10 (.t 1) 4,.st 4 (.t 10) (.t 9)]) (.keep [1,2] (.seq (.reg [.ld 11 true 9 (.t 1),.st 9 (.t 2) (.t 11)]) (.keep [2] .ret)))))))
def qdU:AF where
 nargs:=1
 ntmps:=6
 res:=[.tmp 2]
 body:=(.seq (.reg [.new 1 (.t 0),.mv 2 (.c (.n 1))]) (.seq (.reg [.ld 3 true 4 (.t 1),.mks 4 1 [],.call (some 5) (.c (Fc qkw)) [(.t 3),(.t 4)] (.io false),.mv 2 (.t 5)]) (.keep [2] .ret)))
def K5:AF where
 nargs:=1
 ntmps:=8
 res:=[.cell 2 true 4]
 body:=(.seq (.reg [.new 1 (.t 0),.new 2 (.c (.a [(I 0),(S []),(I 0),(.n 4)]))]) (.seq (.reg [.fa 3 (.t 1) 0,.ld 4 true 4 (.t 3),.fa 5 (.t 1) 4,.ld 6 true 4 (.t 5),.call (some 7) (.c (Fc Yq)) [(.c (S [58,45])),(.t 4),(.t 6)] (.ro false),.st 4 (.t 2) (.t 7)]) (.keep [2] .ret)))
def Je:AF where
 nargs:=1
 ntmps:=8
 res:=[.cell 2 true 4]
 body:=(.seq (.reg [.new 1 (.t 0),.new 2 (.c (.a [(I 0),(S []),(I 0),(.n 4)]))]) (.seq (.reg [.fa 3 (.t 1) 3,.ld 4 false 1 (.t 3),.call (some 5) (.c (Fc qhJ)) [(.t 4)] (.ro false),.fa 6 (.t 1) 3,.st 1 (.t 6) (.t 5)]) (.keep [1,2] (.seq (.reg [.ld 7 true 4 (.t 1),.st 4 (.t 2) (.t 7)]) (.keep [2] .ret)))))
def Xc:AF where
 nargs:=1
 ntmps:=10
 res:=[.tmp 2]
 body:=(.seq (.reg [.new 1 (.t 0),.mv 2 (.c (B false))]) (.seq (.reg [.ld 3 true 4 (.t 1),.call (some 4) (.c (Fc qbp)) [(.t 3),(.c (I 400))] (.ro false),.bin 5 .geq (.t 4) (.c (I 0)),.mv 6 (.t 5),.gd 6 true (some 7) (.ld 7 true 4 (.t 1)),.gd 6 true (some 8) (.call (some 8) (.c (Fc qbt)) [(.t 7),(.c (I 1))] (.ro false)),.pick 9 (.t 6) (.t 8) (.c (B false)),.mv 2 (.t 9)]) (.keep [2] .ret)))
def qkU:AC:=(.seq (.seq (.reg [.mv 89 (.t 7),.fa 90 (.t 1) 3,.ld 91 false 1 (.t 90),.len 92 (.t 91),.bin 93 .lss (.t 89) (.t 92)]) (.keep [1,6,7,93] (.cond (.t 93) .skip (.keep [6] (.exit 1))))) (.keep [1,6,7] (.seq (.block 2 (.seq (.seq (.reg [.mv 96 (.t 7),.bin 97 .gtr (.t 96) (.c (I 0))]) (.cond (.t 97) (.reg [.mv 98 (.t 6),.bin 99 .add (.t 98) (.c (S [44])),.mv 6 (.t 99)]) .skip)) (.keep [1,6,7] (.reg [.mv 100 (.t 6),.fa 101 (.t 1) 3,.ld 102 false 1 (.t 101),.mv 103 (.t 7),.ia 104 4 (.t 102) (.t 103),.ld 105 true 4 (.t 104),.call (some 106) (.c (Fc Xu)) [(.t 105)] (.ro false),.bin 107 .add (.t 100) (.t 106),.mv 6 (.t 107)])))) (.keep [1,6,7] (.reg [.mv 94 (.t 7),.bin 95 .add (.t 94) (.c (I 1)),.mv 7 (.t 95)])))))
def qe8:Lp:=⟨[1,6,7],[(1,0)],qkU⟩
@[go_sem] theorem qIt:qe8.ls=[1,6,7]:=rfl
@[go_sem] theorem qIs:qe8.ks=[(1,0)]:=rfl
@[go_sem] theorem qIr:qe8.body=qkU:=rfl
def qd2:AF where
 nargs:=1
 ntmps:=110
 res:=[.tmp 2]
 body:=(.seq (.reg [.new 1 (.t 0),.mv 2 (.c (S []))]) (.seq (.seq (.reg [.fa 8 (.t 1) 0,.ld 9 false 1 (.t 8)]) (.block 0 (.seq (.reg [.bin 11 .eql (.t 9) (.c (I 1)),.mv 10 (.t 11)]) (.cond (.t 10) (.seq (.reg [.fa 12 (.t 1) 2,.ld 13 false 1 (.t 12),.call (some 14) (.c (Fc Jr)) [(.t 13)] (.ro false),.bin 15 .add (.c (S [95])) (.t 14),.mv 2 (.t 15)]) (.keep [2] .ret)) (.seq (.reg [.bin 17 .eql (.t 9) (.c (I 3)),.mv 16 (.t 17)]) (.cond (.t 16) (.seq (.seq (.reg [.fa 18 (.t 1) 2,.ld 19 false 1 (.t 18),.bin 20 .lss (.t 19) (.c (I 0))]) (.cond (.t 20) (.seq (.reg [.fa 21 (.t 1) 2,.ld 22 false 1 (.t 21),.un 23 .neg (.t 22),.call (some 24) (.c (Fc Jr)) [(.t 23)] (.ro false),.bin 25 .add (.c (S [45])) (.t 24),.mv 2 (.t 25)]) (.keep [2] .ret)) .skip)) (.keep [1] (.seq (.reg [.fa 26 (.t 1) 2,.ld 27 false 1 (.t 26),.call (some 28) (.c (Fc Jr)) [(.t 27)] (.ro false),.mv 2 (.t 28)]) (.keep [2] .ret)))) (.seq (.reg [.bin 30 .eql (.t 9) (.c (I 2)),.mv 29 (.t 30)]) (.cond (.t 29) (.seq (.seq (.reg [.fa 31 (.t 1) 1,.ld 32 false 1 (.t 31),.bin 33 .eql (.t 32) (.c (S [91,93]))]) (.cond (.t 33) (.seq (.reg [.mv 2 (.c (S [91,93]))]) (.keep [2] .ret)) .skip)) (.keep [1] (.seq (.seq (.reg [.fa 34 (.t 1) 1,.ld 35 false 1 (.t 34),.call (some 36) (.c (Fc qqQ)) [(.t 35)] (.ro true)]) (.cond (.t 36) (.seq (.reg [.fa 37 (.t 1) 1,.ld 38 false 1 (.t 37),.call (some 39) (.c (Fc qez)) [(.t 38)] (.ro false),.bin 40 .add (.c (S [40])) (.t 39),.bin 41 .add (.t 40) (.c (S [41])),.mv 2 (.t 41)]) (.keep [2] .ret)) .skip)) (.keep [1] (.seq (.reg [.fa 42 (.t 1) 1,.ld 43 false 1 (.t 42),.call (some 44) (.c (Fc qez)) [(.t 43)] (.ro false),.mv 2 (.t 44)]) (.keep [2] .ret)))))) .skip)))))))) (.keep [1] (.seq (.seq (.reg [.ld 45 true 4 (.t 1),.call (some 46) (.c (Fc qbq)) [(.t 45),(.c (S [46])),(.c (I 2))] (.ro true)]) (.cond (.t 46) (.seq (.reg [.ld 47 true 4 (.t 1),.call (some 48) (.c (Fc qqR)) [(.t 47)] (.ro false),.mv 2 (.t 48)]) (.keep [2] .ret)) .skip)) (.keep [1] (.seq (.reg [.fa 50 (.t 1) 1,.ld 51 false 1 (.t 50),.call (some 52) (.c (Fc Yo)) [(.t 51)] (.ro true),.mv 49 (.t 52),.ext 53 (.t 49) 0,.ext 54 (.t 49) 1,.new 3 (.c (.a [(S []),(I 0),(I 0),(I 0)])),.st 4 (.t 3) (.t 53),.mv 4 (.t 54)]) (.keep [1,4] (.seq (.seq (.reg [.mv 55 (.t 4),.mv 56 (.t 55),.gd 56 true (some 57) (.fa 57 (.t 1) 3),.gd 56 true (some 58) (.ld 58 false 1 (.t 57)),.gd 56 true (some 59) (.len 59 (.t 58)),.gd 56 true (some 60) (.bin 60 .eql (.t 59) (.c (I 2))),.pick 61 (.t 56) (.t 60) (.c (B false))]) (.keep [1,61] (.cond (.t 61) (.seq (.reg [.fa 62 (.t 1) 1,.ld 63 false 1 (.t 62),.call (some 64) (.c (Fc qez)) [(.t 63)] (.ro false),.mv 5 (.t 64)]) (.keep [1,5] (.seq (.seq (.reg [.fa 65 (.t 1) 1,.ld 66 false 1 (.t 65),.bin 67 .eql (.t 66) (.c (S [44]))]) (.cond (.t 67) (.reg [.mv 5 (.c (S [44]))]) .skip)) (.keep [1,5] (.seq (.dreg [⟨0,[]⟩,⟨0,[(1,0)]⟩,⟨0,[(0,0),(0,1),(0,2),(0,3),(69,0),(100000,0),(100000,1),(100000,2),(100000,3),(100000,4),(100000,5)]⟩,⟨0,[(0,0),(0,1),(0,2),(0,3),(1,0),(69,0),(100000,0),(100000,1),(100000,2),(100000,3),(100000,4),(100000,5)]⟩,⟨2,[(0,0),(0,1),(0,2),(0,3),(69,0),(71,0),(100000,0),(100000,1),(100000,2),(100000,3),(100000,4),(100000,5)]⟩,⟨0,[]⟩,⟨0,[]⟩,⟨0,[]⟩,⟨0,[]⟩,⟨0,[]⟩,⟨0,[]⟩,⟨0,[(1,0)]⟩,⟨0,[(0,0),(0,1),(0,2),(0,3),(79,0),(100000,0),(100000,1),(100000,2),(100000,3),(100000,4),(100000,5)]⟩,⟨0,[(0,0),(0,1),(0,2),(0,3),(1,0),(79,0),(100000,0),(100000,1),(100000,2),(100000,3),(100000,4),(100000,5)]⟩,⟨2,[(0,0),(0,1),(0,2),(0,3),(79,0),(81,0),(100000,0),(100000,1),(100000,2),(100000,3),(100000,4),(100000,5)]⟩,⟨0,[]⟩,⟨0,[]⟩,⟨0,[]⟩] [.fa 68 (.t 1) 3,.ldq 69 false 1 (.t 68),.ia 70 4 (.t 69) (.c (I 0)),.ldq 71 true 4 (.t 70),.call (some 72) (.c (Fc Xu)) [(.t 71)] (.ro false),.bin 73 .add (.c (S [40])) (.t 72),.bin 74 .add (.t 73) (.c (S [32])),.mv 75 (.t 5),.bin 76 .add (.t 74) (.t 75),.bin 77 .add (.t 76) (.c (S [32])),.fa 78 (.t 1) 3,.ldq 79 false 1 (.t 78),.ia 80 4 (.t 79) (.c (I 1)),.ldq 81 true 4 (.t 80),.call (some 82) (.c (Fc Xu)) [(.t 81)] (.ro false),.bin 83 .add (.t 77) (.t 82),.bin 84 .add (.t 83) (.c (S [41])),.mv 2 (.t 84)]) (.keep [2] .ret)))))) .skip))) (.keep [1] (.seq (.reg [.fa 85 (.t 1) 1,.ld 86 false 1 (.t 85),.call (some 87) (.c (Fc qez)) [(.t 86)] (.ro false),.bin 88 .add (.t 87) (.c (S [40])),.mv 6 (.t 88)]) (.keep [1,6] (.seq (.seq (.reg [.mv 7 (.c (I 0))]) (.block 1 (lpC qe8))) (.keep [6] (.seq (.reg [.mv 108 (.t 6),.bin 109 .add (.t 108) (.c (S [41])),.mv 2 (.t 109)]) (.keep [2] .ret)))))))))))))))
def Zp:AF where
 nargs:=1
 ntmps:=23
 res:=[.tmp 2]
 body:=(.seq (.reg [.new 1 (.t 0),.mv 2 (.c (B false))]) (.seq (.reg [.fa 6 (.t 1) 1,.ld 7 false 1 (.t 6),.call (some 8) (.c (Fc Jl)) [(.t 7)] (.ro false),.mv 5 (.t 8),.ext 9 (.t 5) 0,.ext 10 (.t 5) 1,.new 3 (.c (.a [(S []),(I 0),(I 0),(I 0)])),.st 4 (.t 3) (.t 9),.mv 4 (.t 10)]) (.keep [1,4] (.seq (.reg [.mv 11 (.t 4),.mv 12 (.t 11),.gd 12 true (some 13) (.fa 13 (.t 1) 0),.gd 12 true (some 14) (.ld 14 false 1 (.t 13)),.gd 12 true (some 15) (.bin 15 .eql (.t 14) (.c (I 4))),.pick 16 (.t 12) (.t 15) (.c (B false)),.mv 17 (.t 16),.gd 17 true (some 18) (.fa 18 (.t 1) 3),.gd 17 true (some 19) (.ld 19 false 1 (.t 18)),.gd 17 true (some 20) (.len 20 (.t 19)),.gd 17 true (some 21) (.bin 21 .eql (.t 20) (.c (I 2))),.pick 22 (.t 17) (.t 21) (.c (B false)),.mv 2 (.t 22)]) (.keep [2] .ret)))))
def yO:AF where
 nargs:=1
 ntmps:=42
 res:=[.cell 2 true 4,.tmp 3]
 body:=(.seq (.reg [.new 2 (.c (.a [(S []),(I 0),(I 0),(I 0)])),.mv 3 (.c (B false))]) (.seq (.seq (.reg [.mv 4 (.t 0)]) (.block 0 (.seq (.seq (.reg [.bin 6 .eql (.t 4) (.c (S [58,45])),.mv 5 (.t 6)]) (.cond (.t 5) .skip (.reg [.bin 7 .eql (.t 4) (.c (S [45,45,62])),.mv 5 (.t 7)]))) (.keep [0,2,4,5] (.cond (.t 5) (.seq (.reg [.mv 8 (.t 0),.build 9 (.a [(S []),(I 0),(I 0),(I 0)]) [(0,1,(.t 8)),(1,1,(.c (I 1200))),(2,1,(.c (I 1199))),(3,1,(.c (I 1199)))],.st 4 (.t 2) (.t 9),.mv 3 (.c (B true))]) (.keep [2,3] .ret)) (.seq (.reg [.bin 11 .eql (.t 4) (.c (S [59])),.mv 10 (.t 11)]) (.cond (.t 10) (.seq (.reg [.mv 12 (.t 0),.build 13 (.a [(S []),(I 0),(I 0),(I 0)]) [(0,1,(.t 12)),(1,1,(.c (I 1100))),(2,1,(.c (I 1099))),(3,1,(.c (I 1100)))],.st 4 (.t 2) (.t 13),.mv 3 (.c (B true))]) (.keep [2,3] .ret)) (.seq (.reg [.bin 15 .eql (.t 4) (.c (S [45,62])),.mv 14 (.t 15)]) (.cond (.t 14) (.seq (.reg [.mv 16 (.t 0),.build 17 (.a [(S []),(I 0),(I 0),(I 0)]) [(0,1,(.t 16)),(1,1,(.c (I 1050))),(2,1,(.c (I 1049))),(3,1,(.c (I 1050)))],.st 4 (.t 2) (.t 17),.mv 3 (.c (B true))]) (.keep [2,3] .ret)) (.seq (.reg [.bin 19 .eql (.t 4) (.c (S [44])),.mv 18 (.t 19)]) (.cond (.t 18) (.seq (.reg [.mv 20 (.t 0),.build 21 (.a [(S []),(I 0),(I 0),(I 0)]) [(0,1,(.t 20)),(1,1,(.c (I 1000))),(2,1,(.c (I 999))),(3,1,(.c (I 1000)))],.st 4 (.t 2) (.t 21),.mv 3 (.c (B true))]) (.keep [2,3] .ret)) (.seq (.seq (.reg [.bin 23 .eql (.t 4) (.c (S [61])),.mv 22 (.t 23)]) (.cond (.t 22) .skip (.seq (.reg [.bin 24 .eql (.t 4) (.c (S [92,61])),.mv 22 (.t 24)]) (.cond (.t 22) .skip (.seq (.reg [.bin 25 .eql (.t 4) (.c (S [61,61])),.mv 22 (.t 25)]) (.cond (.t 22) .skip (.seq (.reg [.bin 26 .eql (.t 4) (.c (S [105,115])),.mv 22 (.t 26)]) (.cond (.t 22) .skip (.seq (.reg [.bin 27 .eql (.t 4) (.c (S [60])),.mv 22 (.t 27)]) (.cond (.t 22) .skip (.reg [.bin 28 .eql (.t 4) (.c (S [61,58,61])),.mv 22 (.t 28)]))))))))))) (.keep [0,2,4,22] (.cond (.t 22) (.seq (.reg [.mv 29 (.t 0),.build 30 (.a [(S []),(I 0),(I 0),(I 0)]) [(0,1,(.t 29)),(1,1,(.c (I 700))),(2,1,(.c (I 699))),(3,1,(.c (I 699)))],.st 4 (.t 2) (.t 30),.mv 3 (.c (B true))]) (.keep [2,3] .ret)) (.seq (.seq (.reg [.bin 32 .eql (.t 4) (.c (S [43])),.mv 31 (.t 32)]) (.cond (.t 31) .skip (.reg [.bin 33 .eql (.t 4) (.c (S [45])),.mv 31 (.t 33)]))) (.keep [0,2,4,31] (.cond (.t 31) (.seq (.reg [.mv 34 (.t 0),.build 35 (.a [(S []),(I 0),(I 0),(I 0)]) [(0,1,(.t 34)),(1,1,(.c (I 500))),(2,1,(.c (I 500))),(3,1,(.c (I 499)))],.st 4 (.t 2) (.t 35),.mv 3 (.c (B true))]) (.keep [2,3] .ret)) (.seq (.seq (.reg [.bin 37 .eql (.t 4) (.c (S [42])),.mv 36 (.t 37)]) (.cond (.t 36) .skip (.reg [.bin 38 .eql (.t 4) (.c (S [47,47])),.mv 36 (.t 38)]))) (.keep [0,2,36] (.cond (.t 36) (.seq (.reg [.mv 39 (.t 0),.build 40 (.a [(S []),(I 0),(I 0),(I 0)]) [(0,1,(.t 39)),(1,1,(.c (I 400))),(2,1,(.c (I 400))),(3,1,(.c (I 399)))],.st 4 (.t 2) (.t 40),.mv 3 (.c (B true))]) (.keep [2,3] .ret)) .skip)))))))))))))))))))) (.keep [2] (.seq (.reg [.build 41 (.a [(S []),(I 0),(I 0),(I 0)]) [],.st 4 (.t 2) (.t 41),.mv 3 (.c (B false))]) (.keep [2,3] .ret)))))
def qa8:AF where
 nargs:=1
 ntmps:=42
 res:=[.cell 2 true 4,.tmp 3]
 body:=(.seq (.reg [.new 2 (.c (.a [(S []),(I 0),(I 0),(I 0)])),.mv 3 (.c (B false))]) (.seq (.seq (.reg [.mv 4 (.t 0)]) (.block 0 (.seq (.seq (.reg [.bin 6 .eql (.t 4) (.c (S [58,45])),.mv 5 (.t 6)]) (.cond (.t 5) .skip (.reg [.bin 7 .eql (.t 4) (.c (S [45,45,62])),.mv 5 (.t 7)]))) (.keep [0,2,4,5] (.cond (.t 5) (.seq (.reg [.mv 8 (.t 0),.build 9 (.a [(S []),(I 0),(I 0),(I 0)]) [(0,1,(.t 8)),(1,1,(.c (I 1200))),(2,1,(.c (I 1199))),(3,1,(.c (I 1199)))],.st 4 (.t 2) (.t 9),.mv 3 (.c (B true))]) (.keep [2,3] .ret)) (.seq (.reg [.bin 11 .eql (.t 4) (.c (S [59])),.mv 10 (.t 11)]) (.cond (.t 10) (.seq (.reg [.mv 12 (.t 0),.build 13 (.a [(S []),(I 0),(I 0),(I 0)]) [(0,1,(.t 12)),(1,1,(.c (I 1100))),(2,1,(.c (I 1099))),(3,1,(.c (I 1100)))],.st 4 (.t 2) (.t 13),.mv 3 (.c (B true))]) (.keep [2,3] .ret)) (.seq (.reg [.bin 15 .eql (.t 4) (.c (S [45,62])),.mv 14 (.t 15)]) (.cond (.t 14) (.seq (.reg [.mv 16 (.t 0),.build 17 (.a [(S []),(I 0),(I 0),(I 0)]) [(0,1,(.t 16)),(1,1,(.c (I 1050))),(2,1,(.c (I 1049))),(3,1,(.c (I 1050)))],.st 4 (.t 2) (.t 17),.mv 3 (.c (B true))]) (.keep [2,3] .ret)) (.seq (.reg [.bin 19 .eql (.t 4) (.c (S [44])),.mv 18 (.t 19)]) (.cond (.t 18) (.seq (.reg [.mv 20 (.t 0),.build 21 (.a [(S []),(I 0),(I 0),(I 0)]) [(0,1,(.t 20)),(1,1,(.c (I 1000))),(2,1,(.c (I 999))),(3,1,(.c (I 1000)))],.st 4 (.t 2) (.t 21),.mv 3 (.c (B true))]) (.keep [2,3] .ret)) (.seq (.seq (.reg [.bin 23 .eql (.t 4) (.c (S [61])),.mv 22 (.t 23)]) (.cond (.t 22) .skip (.seq (.reg [.bin 24 .eql (.t 4) (.c (S [92,61])),.mv 22 (.t 24)]) (.cond (.t 22) .skip (.seq (.reg [.bin 25 .eql (.t 4) (.c (S [61,61])),.mv 22 (.t 25)]) (.cond (.t 22) .skip (.seq (.reg [.bin 26 .eql (.t 4) (.c (S [105,115])),.mv 22 (.t 26)]) (.cond (.t 22) .skip (.seq (.reg [.bin 27 .eql (.t 4) (.c (S [60])),.mv 22 (.t 27)]) (.cond (.t 22) .skip (.reg [.bin 28 .eql (.t 4) (.c (S [61,58,61])),.mv 22 (.t 28)]))))))))))) (.keep [0,2,4,22] (.cond (.t 22) (.seq (.reg [.mv 29 (.t 0),.build 30 (.a [(S []),(I 0),(I 0),(I 0)]) [(0,1,(.t 29)),(1,1,(.c (I 700))),(2,1,(.c (I 699))),(3,1,(.c (I 699)))],.st 4 (.t 2) (.t 30),.mv 3 (.c (B true))]) (.keep [2,3] .ret)) (.seq (.seq (.reg [.bin 32 .eql (.t 4) (.c (S [43])),.mv 31 (.t 32)]) (.cond (.t 31) .skip (.reg [.bin 33 .eql (.t 4) (.c (S [45])),.mv 31 (.t 33)]))) (.keep [0,2,4,31] (.cond (.t 31) (.seq (.reg [.mv 34 (.t 0),.build 35 (.a [(S []),(I 0),(I 0),(I 0)]) [(0,1,(.t 34)),(1,1,(.c (I 500))),(2,1,(.c (I 500))),(3,1,(.c (I 499)))],.st 4 (.t 2) (.t 35),.mv 3 (.c (B true))]) (.keep [2,3] .ret)) (.seq (.seq (.reg [.bin 37 .eql (.t 4) (.c (S [42])),.mv 36 (.t 37)]) (.cond (.t 36) .skip (.reg [.bin 38 .eql (.t 4) (.c (S [47,47])),.mv 36 (.t 38)]))) (.keep [0,2,36] (.cond (.t 36) (.seq (.reg [.mv 39 (.t 0),.build 40 (.a [(S []),(I 0),(I 0),(I 0)]) [(0,1,(.t 39)),(1,1,(.c (I 400))),(2,1,(.c (I 400))),(3,1,(.c (I 399)))],.st 4 (.t 2) (.t 40),.mv 3 (.c (B true))]) (.keep [2,3] .ret)) .skip)))))))))))))))))))) (.keep [2] (.seq (.reg [.build 41 (.a [(S []),(I 0),(I 0),(I 0)]) [],.st 4 (.t 2) (.t 41),.mv 3 (.c (B false))]) (.keep [2,3] .ret)))))
def Xn:AF where
 nargs:=1
 ntmps:=52
 res:=[.cell 2 true 2,.cell 3 true 2]
 body:=(.seq (.reg [.new 2 (.c (.a [(.n 9),(.n 1)])),.new 3 (.c (.a [(.n 9),(.n 1)]))]) (.seq (.reg [.mv 8 (.t 0),.call (some 9) (.c (Fc qhl)) [(.t 8)] (.ro false),.mv 4 (.t 9)]) (.seq (.reg [.mv 10 (.t 4),.call (some 11) (.c (Fc qeL)) [(.t 10)] (.io true),.new 5 (.c (.a [(.n 9),(.n 1)])),.st 2 (.t 5) (.t 11)]) (.keep [2,3,4,5] (.seq (.seq (.reg [.mv 12 (.t 4),.call (some 13) (.c (Fc Js)) [(.t 12),(.c (I 2))] (.io true)]) (.cond (.t 13) (.seq (.reg [.ld 14 true 2 (.t 5),.call (some 15) (.c (Fc Xv)) [(.t 14)] (.ro true),.new 6 (.c (.a [(.n 9),(.n 1)])),.st 2 (.t 6) (.t 15)]) (.keep [2,3,4,5,6] (.seq (.seq (.reg [.fa 16 (.t 6) 0,.ld 17 false 1 (.t 16),.len 18 (.t 17),.bin 19 .gtr (.t 18) (.c (I 0))]) (.keep [2,3,4,5,6,19] (.cond (.t 19) (.seq (.reg [.mv 20 (.t 4),.fa 21 (.t 6) 0,.ld 22 false 1 (.t 21),.len 23 (.t 22),.call (some 24) (.c (Fc kK)) [(.t 20),(.t 23)] (.io false),.mv 7 (.t 24)]) (.keep [2,3,5,6,7] (.seq (.dreg [⟨1,[]⟩,⟨0,[]⟩,⟨0,[(6,0)]⟩,⟨0,[]⟩,⟨0,[(0,0),(0,1),(0,2),(0,3),(9,0),(9,1),(9,2),(9,3),(11,0),(11,1),(11,2),(11,3),(14,0),(15,0),(15,1),(15,2),(15,3),(22,0),(24,0),(24,1),(24,2),(24,3),(27,0),(32,0),(39,0),(41,0),(43,0),(44,0),(45,0)]⟩,⟨1,[(25,0)]⟩,⟨0,[]⟩,⟨0,[(6,0)]⟩,⟨0,[]⟩,⟨0,[]⟩,⟨0,[(0,0),(0,1),(0,2),(0,3),(9,0),(9,1),(9,2),(9,3),(11,0),(11,1),(11,2),(11,3),(14,0),(15,0),(15,1),(15,2),(15,3),(22,0),(24,0),(24,1),(24,2),(24,3),(27,0),(32,0),(39,0),(41,0),(43,0),(44,0),(45,0)]⟩,⟨1,[(0,0),(0,1),(0,2),(0,3),(9,0),(9,1),(9,2),(9,3),(11,0),(11,1),(11,2),(11,3),(14,0),(15,0),(15,1),(15,2),(15,3),(22,0),(24,0),(24,1),(24,2),(24,3),(25,0),(27,0),(30,0),(32,0),(39,0),(41,0),(43,0),(44,0),(45,0)]⟩,⟨0,[]⟩,⟨1,[(6,0)]⟩] [.mks 25 9 [],.fa 26 (.t 6) 0,.ldq 27 false 1 (.t 26),.mv 28 (.t 7),.sl 29 9 (.t 27) none (some (.t 28)),.app 30 9 128 (.t 25) (.t 29),.fa 31 (.t 6) 0,.ldq 32 false 1 (.t 31),.mv 33 (.t 7),.bin 34 .add (.t 33) (.c (I 1)),.sl 35 9 (.t 32) (some (.t 34)) none,.app 36 9 128 (.t 30) (.t 35),.fa 37 (.t 6) 0,.st 1 (.t 37) (.t 36)]) (.keep [2,3,5,6] (.dreg [⟨0,[]⟩,⟨0,[(6,0)]⟩,⟨0,[]⟩,⟨0,[(5,0)]⟩,⟨0,[(0,0),(0,1),(0,2),(0,3),(9,0),(9,1),(9,2),(9,3),(11,0),(11,1),(11,2),(11,3),(41,0)]⟩,⟨0,[(0,0),(0,1),(0,2),(0,3),(5,0),(9,0),(9,1),(9,2),(9,3),(11,0),(11,1),(11,2),(11,3),(41,0)]⟩,⟨1,[]⟩,⟨1,[(0,0),(0,1),(0,2),(0,3),(9,0),(9,1),(9,2),(9,3),(11,0),(11,1),(11,2),(11,3),(41,0),(43,0),(44,0),(36,0),(500000,0)]⟩,⟨0,[]⟩,⟨1,[(6,0)]⟩] [.fa 38 (.t 6) 0,.ldq 39 false 1 (.t 38),.fa 40 (.t 5) 0,.ldq 41 false 1 (.t 40),.ia 42 9 (.t 41) (.c (I 0)),.ldq 43 true 9 (.t 42),.mks 44 9 [(.t 43)],.app 45 9 128 (.t 39) (.t 44),.fa 46 (.t 6) 0,.st 1 (.t 46) (.t 45)]))))) .skip))) (.keep [2,3,5,6] (.seq (.dreg [⟨0,[(5,0)]⟩,⟨0,[(6,0)]⟩,⟨1,[(2,0)]⟩,⟨1,[(3,0)]⟩] [.ldq 47 true 2 (.t 5),.ldq 48 true 2 (.t 6),.st 2 (.t 2) (.t 47),.st 2 (.t 3) (.t 48)]) (.keep [2,3] .ret)))))) .skip)) (.keep [2,3,4,5] (.seq (.dreg [⟨0,[(5,0)]⟩,⟨0,[]⟩,⟨1,[(0,0),(0,1),(0,2),(0,3),(9,0),(9,1),(9,2),(9,3)]⟩,⟨1,[(2,0)]⟩,⟨1,[(3,0)]⟩] [.ldq 49 true 2 (.t 5),.mv 50 (.t 4),.call (some 51) (.c (Fc qeL)) [(.t 50)] (.io true),.st 2 (.t 2) (.t 49),.st 2 (.t 3) (.t 51)]) (.keep [2,3] .ret))))))))
def qb7:AC:=(.seq (.reg [.bin 12 .lss (.t 11) (.t 10)]) (.seq (.cond (.t 12) .skip (.keep [6] (.exit 0))) (.keep [0,1,5,6,9,10,11] (.seq (.block 1 (.seq (.reg [.mv 13 (.t 11),.ia 14 9 (.t 9) (.t 11),.ld 15 true 9 (.t 14),.new 8 (.c (.a [(I 0),(S []),(I 0),(.n 4),(I 0),(S []),(I 0),(.n 4),(S [])])),.mv 7 (.t 13),.st 9 (.t 8) (.t 15)]) (.keep [0,1,5,6,7,8,9,10,11] (.seq (.dreg [⟨0,[]⟩,⟨0,[]⟩,⟨0,[]⟩,⟨0,[(0,0),(0,1),(0,2),(0,3),(100000,0),(100000,1),(100000,2),(100000,3),(100000,4),(100000,5)]⟩,⟨0,[(8,0)]⟩,⟨2,[(0,0),(0,1),(0,2),(0,3),(15,0),(20,0),(100000,0),(100000,1),(100000,2),(100000,3),(100000,4),(100000,5)]⟩,⟨0,[]⟩,⟨0,[]⟩,⟨0,[(8,0)]⟩,⟨2,[(0,0),(0,1),(0,2),(0,3),(1,0),(1,1),(1,2),(1,3),(15,0),(24,0),(100000,0),(100000,1),(100000,2),(100000,3),(100000,4),(100000,5)]⟩,⟨0,[]⟩] [.mv 16 (.t 5),.mv 17 (.t 0),.mv 18 (.t 7),.sl 19 9 (.t 17) none (some (.t 18)),.ldq 20 true 9 (.t 8),.call (some 21) (.t 16) [(.t 19),(.t 20)] (.ro true),.mv 22 (.t 5),.mv 23 (.t 1),.ldq 24 true 9 (.t 8),.call (some 25) (.t 22) [(.t 23),(.t 24)] (.ro true),.bin 26 .geq (.t 21) (.t 25)]) (.keep [0,1,5,6,8,9,10,11,26] (.cond (.t 26) (.reg [.mv 27 (.t 6),.ld 28 true 9 (.t 8),.call (some 29) (.c (Fc qej)) [(.t 28)] (.ro false),.mks 30 9 [(.t 29)],.app 31 9 128 (.t 27) (.t 30),.mv 6 (.t 31)]) .skip)))))) (.keep [0,1,5,6,9,10,11] (.reg [.bin 32 .add (.t 11) (.c (I 1)),.mv 11 (.t 32)]))))))
def qbG:Lp:=⟨[0,1,5,6,9,10,11],[(2,0)],qb7⟩
@[go_sem] theorem qFR:qbG.ls=[0,1,5,6,9,10,11]:=rfl
@[go_sem] theorem qFQ:qbG.ks=[(2,0)]:=rfl
@[go_sem] theorem qFP:qbG.body=qb7:=rfl
def Kx:AF where
 nargs:=2
 ntmps:=34
 res:=[.tmp 4]
 body:=(.seq (.reg [.mv 4 (.c (.n 9))]) (.seq (.reg [.mv 5 (.c (Fc qep))]) (.seq (.reg [.mv 6 (.c (.n 9))]) (.seq (.seq (.reg [.mv 9 (.t 0),.len 10 (.t 9),.mv 11 (.c (I 0))]) (.block 0 (lpC qbG))) (.keep [6] (.seq (.reg [.mv 33 (.t 6),.mv 4 (.t 33)]) (.keep [4] .ret)))))))
def YZ:AF where
 nargs:=2
 ntmps:=15
 res:=[.tmp 4]
 body:=(.seq (.reg [.new 2 (.t 0),.new 3 (.t 1),.mv 4 (.c (B false))]) (.seq (.reg [.fa 5 (.t 2) 8,.ld 6 false 1 (.t 5),.fa 7 (.t 3) 8,.ld 8 false 1 (.t 7),.bin 9 .eql (.t 6) (.t 8),.mv 10 (.t 9),.gd 10 true (some 11) (.ld 11 true 9 (.t 2)),.gd 10 true (some 12) (.ld 12 true 9 (.t 3)),.gd 10 true (some 13) (.call (some 13) (.c (Fc qg2)) [(.t 11),(.t 12)] (.ro false)),.pick 14 (.t 10) (.t 13) (.c (B false)),.mv 4 (.t 14)]) (.keep [4] .ret)))
def qff:AC:=(.seq (.reg [.bin 9 .lss (.t 8) (.t 7)]) (.seq (.cond (.t 9) .skip (.keep [3] (.exit 0))) (.keep [3,6,7,8] (.seq (.block 1 (.seq (.reg [.ia 10 9 (.t 6) (.t 8),.ld 11 true 9 (.t 10),.new 5 (.c (.a [(I 0),(S []),(I 0),(.n 4),(I 0),(S []),(I 0),(.n 4),(S [])])),.st 9 (.t 5) (.t 11)]) (.keep [3,5,6,7,8] (.reg [.mv 12 (.t 3),.ld 13 true 9 (.t 5),.call (some 14) (.c (Fc qej)) [(.t 13)] (.ro false),.mks 15 9 [(.t 14)],.app 16 9 128 (.t 12) (.t 15),.mv 3 (.t 16)])))) (.keep [3,6,7,8] (.reg [.bin 17 .add (.t 8) (.c (I 1)),.mv 8 (.t 17)]))))))
def qbF:Lp:=⟨[3,6,7,8],[(1,0)],qff⟩
@[go_sem] theorem qFO:qbF.ls=[3,6,7,8]:=rfl
@[go_sem] theorem qFN:qbF.ks=[(1,0)]:=rfl
@[go_sem] theorem qFM:qbF.body=qff:=rfl
def Kp:AF where
 nargs:=1
 ntmps:=19
 res:=[.tmp 2]
 body:=(.seq (.reg [.mv 2 (.c (.n 9))]) (.seq (.reg [.mv 3 (.c (.n 9))]) (.seq (.seq (.reg [.mv 6 (.t 0),.len 7 (.t 6),.mv 8 (.c (I 0))]) (.block 0 (lpC qbF))) (.keep [3] (.seq (.reg [.mv 18 (.t 3),.mv 2 (.t 18)]) (.keep [2] .ret))))))
def Yj:AF where
 nargs:=1
 ntmps:=16
 res:=[.tmp 2]
 body:=(.seq (.reg [.new 1 (.t 0),.mv 2 (.c (B false))]) (.seq (.reg [.fa 3 (.t 1) 0,.ld 4 true 4 (.t 3),.call (some 5) (.c (Fc ZD)) [(.t 4)] (.ro false),.mv 6 (.t 5),.gd 6 true (some 7) (.fa 7 (.t 1) 4),.gd 6 true (some 8) (.ld 8 true 4 (.t 7)),.gd 6 true (some 9) (.call (some 9) (.c (Fc ZD)) [(.t 8)] (.ro false)),.pick 10 (.t 6) (.t 9) (.c (B false)),.mv 11 (.t 10),.gd 11 true (some 12) (.fa 12 (.t 1) 0),.gd 11 true (some 13) (.ld 13 true 4 (.t 12)),.gd 11 true (some 14) (.call (some 14) (.c (Fc qeJ)) [(.t 13)] (.ro false)),.pick 15 (.t 11) (.t 14) (.c (B false)),.mv 2 (.t 15)]) (.keep [2] .ret)))
def qfk:AC:=(.seq (.seq (.reg [.mv 21 (.t 5),.fa 22 (.t 2) 0,.ld 23 false 1 (.t 22),.len 24 (.t 23),.bin 25 .lss (.t 21) (.t 24)]) (.keep [2,3,5,25] (.cond (.t 25) .skip (.keep [] (.exit 0))))) (.keep [2,3,5] (.seq (.block 1 (.seq (.dreg [⟨0,[]⟩,⟨0,[(2,0),(100000,0),(100000,1),(100000,2),(100000,3),(100000,4),(100000,5)]⟩,⟨0,[]⟩,⟨0,[(0,0),(0,1),(0,2),(0,3),(29,0),(100000,0),(100000,1),(100000,2),(100000,3),(100000,4),(100000,5)]⟩,⟨0,[(0,0),(0,1),(0,2),(0,3),(2,0),(29,0),(100000,0),(100000,1),(100000,2),(100000,3),(100000,4),(100000,5)]⟩,⟨2,[(0,0),(0,1),(0,2),(0,3),(29,0),(32,0),(100000,0),(100000,1),(100000,2),(100000,3),(100000,4),(100000,5)]⟩,⟨0,[]⟩,⟨0,[(3,0),(100000,0),(100000,1),(100000,2),(100000,3),(100000,4),(100000,5)]⟩,⟨0,[]⟩,⟨0,[(1,0),(1,1),(1,2),(1,3),(35,0),(100000,0),(100000,1),(100000,2),(100000,3),(100000,4),(100000,5)]⟩,⟨0,[(1,0),(1,1),(1,2),(1,3),(3,0),(35,0),(100000,0),(100000,1),(100000,2),(100000,3),(100000,4),(100000,5)]⟩,⟨2,[(1,0),(1,1),(1,2),(1,3),(35,0),(38,0),(100000,0),(100000,1),(100000,2),(100000,3),(100000,4),(100000,5)]⟩,⟨2,[(0,0),(0,1),(0,2),(0,3),(1,0),(1,1),(1,2),(1,3),(29,0),(32,0),(33,0),(33,1),(33,2),(33,3),(35,0),(38,0),(39,0),(39,1),(39,2),(39,3),(100000,0),(100000,1),(100000,2),(100000,3),(100000,4),(100000,5)]⟩,⟨0,[]⟩,⟨0,[]⟩,⟨0,[]⟩,⟨0,[(2,0),(100000,0),(100000,1),(100000,2),(100000,3),(100000,4),(100000,5)]⟩,⟨0,[]⟩,⟨0,[(0,0),(0,1),(0,2),(0,3),(44,0),(100000,0),(100000,1),(100000,2),(100000,3),(100000,4),(100000,5)]⟩,⟨0,[]⟩,⟨0,[(0,0),(0,1),(0,2),(0,3),(2,0),(44,0),(100000,0),(100000,1),(100000,2),(100000,3),(100000,4),(100000,5)]⟩,⟨0,[]⟩,⟨0,[(3,0),(100000,0),(100000,1),(100000,2),(100000,3),(100000,4),(100000,5)]⟩,⟨0,[]⟩,⟨0,[(1,0),(1,1),(1,2),(1,3),(50,0),(100000,0),(100000,1),(100000,2),(100000,3),(100000,4),(100000,5)]⟩,⟨0,[]⟩,⟨0,[(1,0),(1,1),(1,2),(1,3),(3,0),(50,0),(100000,0),(100000,1),(100000,2),(100000,3),(100000,4),(100000,5)]⟩,⟨0,[]⟩,⟨0,[]⟩] [.fa 28 (.t 2) 0,.ldq 29 false 1 (.t 28),.mv 30 (.t 5),.ia 31 9 (.t 29) (.t 30),.ldq 32 true 9 (.t 31),.call (some 33) (.c (Fc qbl)) [(.t 32)] (.ro true),.fa 34 (.t 3) 0,.ldq 35 false 1 (.t 34),.mv 36 (.t 5),.ia 37 9 (.t 35) (.t 36),.ldq 38 true 9 (.t 37),.call (some 39) (.c (Fc qbl)) [(.t 38)] (.ro true),.call (some 40) (.c (Fc qbn)) [(.t 33),(.t 39)] (.ro true),.un 41 .not (.t 40),.mv 42 (.t 41),.gd 42 false (some 43) (.fa 43 (.t 2) 0),.gd 42 false (some 44) (.ldq 44 false 1 (.t 43)),.gd 42 false (some 45) (.mv 45 (.t 5)),.gd 42 false (some 46) (.ia 46 9 (.t 44) (.t 45)),.gd 42 false (some 47) (.fa 47 (.t 46) 8),.gd 42 false (some 48) (.ldq 48 false 1 (.t 47)),.gd 42 false (some 49) (.fa 49 (.t 3) 0),.gd 42 false (some 50) (.ldq 50 false 1 (.t 49)),.gd 42 false (some 51) (.mv 51 (.t 5)),.gd 42 false (some 52) (.ia 52 9 (.t 50) (.t 51)),.gd 42 false (some 53) (.fa 53 (.t 52) 8),.gd 42 false (some 54) (.ldq 54 false 1 (.t 53)),.gd 42 false (some 55) (.bin 55 .neq (.t 48) (.t 54)),.pick 56 (.t 42) (.c (B true)) (.t 55)]) (.keep [2,3,5,56] (.cond (.t 56) (.seq (.reg [.mv 4 (.c (B false))]) (.keep [4] .ret)) .skip)))) (.keep [2,3,5] (.reg [.mv 26 (.t 5),.bin 27 .add (.t 26) (.c (I 1)),.mv 5 (.t 27)])))))
def qbO:Lp:=⟨[2,3,5],[(2,0)],qfk⟩
@[go_sem] theorem qGD:qbO.ls=[2,3,5]:=rfl
@[go_sem] theorem qGC:qbO.ks=[(2,0)]:=rfl
@[go_sem] theorem qGB:qbO.body=qfk:=rfl
def KI:AF where
 nargs:=2
 ntmps:=57
 res:=[.tmp 4]
 body:=(.seq (.reg [.new 2 (.t 0),.new 3 (.t 1),.mv 4 (.c (B false))]) (.seq (.seq (.reg [.fa 6 (.t 2) 0,.ld 7 false 1 (.t 6),.len 8 (.t 7),.fa 9 (.t 3) 0,.ld 10 false 1 (.t 9),.len 11 (.t 10),.bin 12 .neq (.t 8) (.t 11),.mv 13 (.t 12),.gd 13 false (some 14) (.fa 14 (.t 2) 1),.gd 13 false (some 15) (.ld 15 false 1 (.t 14)),.gd 13 false (some 16) (.fa 16 (.t 3) 1),.gd 13 false (some 17) (.ld 17 false 1 (.t 16)),.gd 13 false (some 18) (.call (some 18) (.c (Fc qg7)) [(.t 15),(.t 17)] (.ro true)),.gd 13 false (some 19) (.un 19 .not (.t 18)),.pick 20 (.t 13) (.c (B true)) (.t 19)]) (.keep [2,3,20] (.cond (.t 20) (.seq (.reg [.mv 4 (.c (B false))]) (.keep [4] .ret)) .skip))) (.keep [2,3] (.seq (.seq (.reg [.mv 5 (.c (I 0))]) (.block 0 (lpC qbO))) (.keep [] (.seq (.reg [.mv 4 (.c (B true))]) (.keep [4] .ret)))))))
def JH:AC:=(.seq (.reg [.bin 9 .lss (.t 8) (.t 7)]) (.seq (.cond (.t 9) .skip (.keep [] (.exit 0))) (.keep [0,1,7,8] (.seq (.block 1 (.seq (.reg [.mv 10 (.t 8),.mv 5 (.t 10)]) (.seq (.reg [.mv 11 (.t 1),.mv 12 (.t 0),.mv 13 (.t 5),.ia 14 9 (.t 12) (.t 13),.ld 15 true 9 (.t 14),.call (some 16) (.t 11) [(.t 15)] (.ro true)]) (.keep [0,1,5,7,8,16] (.cond (.t 16) (.seq (.reg [.mv 17 (.t 5),.mv 4 (.t 17)]) (.keep [4] .ret)) .skip))))) (.keep [0,1,7,8] (.reg [.bin 18 .add (.t 8) (.c (I 1)),.mv 8 (.t 18)]))))))
def Jx:Lp:=⟨[0,1,7,8],[(2,0)],JH⟩
@[go_sem] theorem qG4:Jx.ls=[0,1,7,8]:=rfl
@[go_sem] theorem qG3:Jx.ks=[(2,0)]:=rfl
@[go_sem] theorem qG2:Jx.body=JH:=rfl
def Y5:AF where
 nargs:=2
 ntmps:=19
 res:=[.tmp 4]
 body:=(.seq (.reg [.mv 4 (.c (I 0))]) (.seq (.seq (.reg [.mv 6 (.t 0),.len 7 (.t 6),.mv 8 (.c (I 0))]) (.block 0 (lpC Jx))) (.keep [] (.seq (.reg [.mv 4 (.c (I (-1)))]) (.keep [4] .ret)))))
def Ke:AF where
 nargs:=2
 ntmps:=7
 res:=[.tmp 3]
 body:=(.seq (.reg [.new 2 (.t 0),.mv 3 (.c (B false))]) (.seq (.reg [.ld 4 true 9 (.t 2),.ld 5 true 9 (.t 1),.call (some 6) (.c (Fc qbe)) [(.t 4),(.t 5)] (.ro false),.mv 3 (.t 6)]) (.keep [3] .ret)))
def YY:AF where
 nargs:=1
 ntmps:=8
 res:=[.tmp 2]
 body:=(.seq (.reg [.new 1 (.t 0),.mv 2 (.c (S []))]) (.seq (.seq (.reg [.ld 3 true 4 (.t 1),.call (some 4) (.c (Fc Yl)) [(.t 3)] (.ro true),.un 5 .not (.t 4)]) (.cond (.t 5) (.seq (.reg [.mv 2 (.c (S []))]) (.keep [2] .ret)) .skip)) (.keep [1] (.seq (.reg [.ld 6 true 4 (.t 1),.call (some 7) (.c (Fc Yn)) [(.t 6)] (.ro false),.mv 2 (.t 7)]) (.keep [2] .ret)))))
def Kf:AF where
 nargs:=1
 ntmps:=11
 res:=[.cell 2 true 4]
 body:=(.seq (.reg [.new 1 (.t 0),.new 2 (.c (.a [(I 0),(S []),(I 0),(.n 4)]))]) (.seq (.dreg [⟨0,[]⟩,⟨0,[(1,0)]⟩,⟨2,[(0,0),(0,1),(0,2),(0,3),(4,0)]⟩,⟨0,[]⟩,⟨0,[(1,0)]⟩,⟨2,[(0,0),(0,1),(0,2),(0,3),(7,0)]⟩,⟨1,[]⟩,⟨1,[(0,0),(0,1),(0,2),(0,3),(4,0),(5,0),(5,1),(5,2),(5,3),(7,0),(8,0),(8,1),(8,2),(8,3),(9,0)]⟩,⟨1,[(2,0)]⟩] [.fa 3 (.t 1) 0,.ldq 4 true 4 (.t 3),.call (some 5) (.c (Fc Jo)) [(.t 4)] (.ro false),.fa 6 (.t 1) 4,.ldq 7 true 4 (.t 6),.call (some 8) (.c (Fc Jo)) [(.t 7)] (.ro false),.mks 9 4 [(.t 5),(.t 8)],.call (some 10) (.c (Fc qg1)) [(.c (S [58,45])),(.t 9)] (.io false),.st 4 (.t 2) (.t 10)]) (.keep [2] .ret)))
def qdF:AF where
 nargs:=2
 ntmps:=25
 res:=[.tmp 4]
 body:=(.seq (.reg [.new 2 (.t 0),.mv 4 (.c (I 0))]) (.seq (.reg [.fa 5 (.t 2) 0,.ld 6 true 4 (.t 5),.mv 7 (.t 1),.call (some 8) (.c (Fc qg8)) [(.t 6),(.t 7)] (.ro false),.mv 1 (.t 8)]) (.keep [1,2] (.seq (.seq (.reg [.mv 9 (.t 1),.bin 10 .lss (.t 9) (.c (I 0))]) (.cond (.t 10) (.seq (.reg [.mv 4 (.c (I (-1)))]) (.keep [4] .ret)) .skip)) (.keep [1,2] (.seq (.reg [.fa 11 (.t 2) 4,.ld 12 true 4 (.t 11),.mv 13 (.t 1),.call (some 14) (.c (Fc qg8)) [(.t 12),(.t 13)] (.ro false),.mv 1 (.t 14)]) (.keep [1,2] (.seq (.seq (.reg [.mv 15 (.t 1),.bin 16 .lss (.t 15) (.c (I 0))]) (.cond (.t 16) (.seq (.reg [.mv 4 (.c (I (-1)))]) (.keep [4] .ret)) .skip)) (.keep [1,2] (.seq (.reg [.mv 17 (.t 1),.fa 18 (.t 2) 8,.ld 19 false 1 (.t 18),.slen 20 (.t 19),.bin 21 .sub (.t 17) (.t 20),.mv 1 (.t 21)]) (.keep [1] (.seq (.seq (.reg [.mv 22 (.t 1),.bin 23 .lss (.t 22) (.c (I 0))]) (.cond (.t 23) (.seq (.reg [.mv 4 (.c (I (-1)))]) (.keep [4] .ret)) .skip)) (.keep [1] (.seq (.reg [.mv 24 (.t 1),.mv 4 (.t 24)]) (.keep [4] .ret)))))))))))))))
def qdL:AF where
 nargs:=1
 ntmps:=16
 res:=[.cell 2 true 9]
 body:=(.seq (.reg [.new 1 (.t 0),.new 2 (.c (.a [(I 0),(S []),(I 0),(.n 4),(I 0),(S []),(I 0),(.n 4),(S [])]))]) (.seq (.reg [.new 3 (.c (.a [(I 0),(S []),(I 0),(.n 4),(I 0),(S []),(I 0),(.n 4),(S [])]))]) (.seq (.reg [.fa 4 (.t 1) 0,.ld 5 true 4 (.t 4),.call (some 6) (.c (Fc qg9)) [(.t 5)] (.ro false),.fa 7 (.t 3) 0,.st 4 (.t 7) (.t 6)]) (.keep [1,2,3] (.seq (.reg [.fa 8 (.t 1) 4,.ld 9 true 4 (.t 8),.call (some 10) (.c (Fc qg9)) [(.t 9)] (.ro false),.fa 11 (.t 3) 4,.st 4 (.t 11) (.t 10)]) (.keep [1,2,3] (.seq (.reg [.fa 12 (.t 1) 8,.ld 13 false 1 (.t 12),.fa 14 (.t 3) 8,.st 1 (.t 14) (.t 13)]) (.keep [2,3] (.seq (.reg [.ld 15 true 9 (.t 3),.st 9 (.t 2) (.t 15)]) (.keep [2] .ret))))))))))
def qdx:AF where
 nargs:=2
 ntmps:=22
 res:=[.tmp 4]
 body:=(.seq (.reg [.new 2 (.t 0),.new 3 (.t 1),.mv 4 (.c (B false))]) (.seq (.seq (.reg [.fa 5 (.t 2) 0,.ld 6 true 4 (.t 5),.fa 7 (.t 3) 0,.ld 8 true 4 (.t 7),.call (some 9) (.c (Fc qg5)) [(.t 6),(.t 8)] (.ro true),.un 10 .not (.t 9)]) (.keep [2,3,10] (.cond (.t 10) (.seq (.reg [.mv 4 (.c (B false))]) (.keep [4] .ret)) .skip))) (.keep [2,3] (.seq (.seq (.reg [.fa 11 (.t 2) 4,.ld 12 true 4 (.t 11),.fa 13 (.t 3) 4,.ld 14 true 4 (.t 13),.call (some 15) (.c (Fc qg5)) [(.t 12),(.t 14)] (.ro true),.un 16 .not (.t 15)]) (.keep [2,3,16] (.cond (.t 16) (.seq (.reg [.mv 4 (.c (B false))]) (.keep [4] .ret)) .skip))) (.keep [2,3] (.seq (.seq (.reg [.fa 17 (.t 2) 8,.ld 18 false 1 (.t 17),.fa 19 (.t 3) 8,.ld 20 false 1 (.t 19),.bin 21 .neq (.t 18) (.t 20)]) (.keep [21] (.cond (.t 21) (.seq (.reg [.mv 4 (.c (B false))]) (.keep [4] .ret)) .skip))) (.keep [] (.seq (.reg [.mv 4 (.c (B true))]) (.keep [4] .ret)))))))))
def K6:AF where
 nargs:=1
 ntmps:=12
 res:=[.cell 2 true 2]
 body:=(.seq (.reg [.new 1 (.t 0),.new 2 (.c (.a [(.n 9),(.n 1)]))]) (.seq (.dreg [⟨1,[]⟩,⟨0,[]⟩,⟨0,[(1,0)]⟩,⟨1,[(3,0),(500000,0)]⟩,⟨1,[]⟩,⟨0,[]⟩,⟨0,[(1,0)]⟩,⟨1,[(7,0),(500000,0)]⟩,⟨0,[]⟩,⟨1,[(2,0)]⟩] [.mks 3 9 [],.fa 4 (.t 1) 0,.ldq 5 false 1 (.t 4),.app 6 9 128 (.t 3) (.t 5),.mks 7 1 [],.fa 8 (.t 1) 1,.ldq 9 false 1 (.t 8),.app 10 1 16 (.t 7) (.t 9),.build 11 (.a [(.n 9),(.n 1)]) [(0,1,(.t 6)),(1,1,(.t 10))],.st 2 (.t 2) (.t 11)]) (.keep [2] .ret)))
def KR:AF where
 nargs:=3
 ntmps:=15
 res:=[.tmp 6]
 body:=(.seq (.reg [.mv 6 (.c (B false))]) (.seq (.reg [.mv 7 (.t 0),.mv 8 (.t 1),.bin 9 .geq (.t 7) (.t 8),.mv 10 (.t 9),.gd 10 true (some 11) (.mv 11 (.t 0)),.gd 10 true (some 12) (.mv 12 (.t 2)),.gd 10 true (some 13) (.bin 13 .leq (.t 11) (.t 12)),.pick 14 (.t 10) (.t 13) (.c (B false)),.mv 6 (.t 14)]) (.keep [6] .ret)))
def Yd:AF where
 nargs:=1
 ntmps:=19
 res:=[.tmp 2]
 body:=(.seq (.reg [.new 1 (.t 0),.mv 2 (.c (S []))]) (.seq (.seq (.reg [.fa 3 (.t 1) 0,.ld 4 false 1 (.t 3),.bin 5 .neq (.t 4) (.c (I 2)),.mv 6 (.t 5),.gd 6 true (some 7) (.fa 7 (.t 1) 0),.gd 6 true (some 8) (.ld 8 false 1 (.t 7)),.gd 6 true (some 9) (.bin 9 .neq (.t 8) (.c (I 4))),.pick 10 (.t 6) (.t 9) (.c (B false))]) (.keep [1,10] (.cond (.t 10) (.seq (.reg [.mv 2 (.c (S []))]) (.keep [2] .ret)) .skip))) (.keep [1] (.seq (.dreg [⟨0,[]⟩,⟨0,[(1,0)]⟩,⟨0,[]⟩,⟨0,[]⟩,⟨0,[(1,0)]⟩,⟨0,[(0,0),(0,1),(0,2),(0,3),(15,0)]⟩,⟨2,[(0,0),(0,1),(0,2),(0,3),(15,0)]⟩,⟨0,[]⟩,⟨0,[]⟩] [.fa 11 (.t 1) 1,.ldq 12 false 1 (.t 11),.bin 13 .add (.t 12) (.c (S [47])),.fa 14 (.t 1) 3,.ldq 15 false 1 (.t 14),.len 16 (.t 15),.call (some 17) (.c (Fc Jr)) [(.t 16)] (.ro false),.bin 18 .add (.t 13) (.t 17),.mv 2 (.t 18)]) (.keep [2] .ret)))))
def qfo:AC:=(.seq (.seq (.reg [.mv 6 (.t 4),.mv 7 (.t 0),.len 8 (.t 7),.bin 9 .lss (.t 6) (.t 8)]) (.keep [0,3,4,9] (.cond (.t 9) .skip (.keep [3] (.exit 0))))) (.keep [0,3,4] (.seq (.block 1 (.reg [.mv 12 (.t 3),.mv 13 (.t 0),.mv 14 (.t 4),.ia 15 9 (.t 13) (.t 14),.ld 16 true 9 (.t 15),.call (some 17) (.c (Fc qeM)) [(.t 16)] (.ro false),.mks 18 9 [(.t 17)],.app 19 9 128 (.t 12) (.t 18),.mv 3 (.t 19)])) (.keep [0,3,4] (.reg [.mv 10 (.t 4),.bin 11 .add (.t 10) (.c (I 1)),.mv 4 (.t 11)])))))
def qb5:Lp:=⟨[0,3,4],[(1,0)],qfo⟩
@[go_sem] theorem qIL:qb5.ls=[0,3,4]:=rfl
@[go_sem] theorem qIK:qb5.ks=[(1,0)]:=rfl
@[go_sem] theorem qIJ:qb5.body=qfo:=rfl
def Jb:AF where
 nargs:=1
 ntmps:=21
 res:=[.tmp 2]
 body:=(.seq (.reg [.mv 2 (.c (.n 9))]) (.seq (.reg [.mks 5 9 [],.mv 3 (.t 5)]) (.seq (.seq (.reg [.mv 4 (.c (I 0))]) (.block 0 (lpC qb5))) (.keep [3] (.seq (.reg [.mv 20 (.t 3),.mv 2 (.t 20)]) (.keep [2] .ret))))))
def Jd:AF where
 nargs:=1
 ntmps:=6
 res:=[.tmp 2]
 body:=(.seq (.reg [.mv 2 (.c (.n 1))]) (.seq (.reg [.mks 3 1 [],.mv 4 (.t 0),.app 5 1 16 (.t 3) (.t 4),.mv 2 (.t 5)]) (.keep [2] .ret)))
def Kh:AF where
 nargs:=1
 ntmps:=5
 res:=[.tmp 2]
 body:=(.seq (.reg [.mv 2 (.c (S []))]) (.seq (.reg [.mv 3 (.t 0),.call (some 4) (.c (Fc qkx)) [(.t 3)] (.ro false),.mv 2 (.t 4)]) (.keep [2] .ret)))
def Ko:AF where
 nargs:=1
 ntmps:=12
 res:=[.cell 2 true 9]
 body:=(.seq (.reg [.new 1 (.t 0),.new 2 (.c (.a [(I 0),(S []),(I 0),(.n 4),(I 0),(S []),(I 0),(.n 4),(S [])]))]) (.seq (.dreg [⟨0,[]⟩,⟨0,[(1,0)]⟩,⟨2,[(0,0),(0,1),(0,2),(0,3),(4,0)]⟩,⟨0,[]⟩,⟨0,[(1,0)]⟩,⟨2,[(0,0),(0,1),(0,2),(0,3),(7,0)]⟩,⟨0,[]⟩,⟨0,[(1,0)]⟩,⟨0,[]⟩,⟨1,[(2,0)]⟩] [.fa 3 (.t 1) 0,.ldq 4 true 4 (.t 3),.call (some 5) (.c (Fc Jo)) [(.t 4)] (.ro false),.fa 6 (.t 1) 4,.ldq 7 true 4 (.t 6),.call (some 8) (.c (Fc Jo)) [(.t 7)] (.ro false),.fa 9 (.t 1) 8,.ldq 10 false 1 (.t 9),.build 11 (.a [(I 0),(S []),(I 0),(.n 4),(I 0),(S []),(I 0),(.n 4),(S [])]) [(0,4,(.t 5)),(4,4,(.t 8)),(8,1,(.t 10))],.st 9 (.t 2) (.t 11)]) (.keep [2] .ret)))
def Kt:AF where
 nargs:=2
 ntmps:=14
 res:=[.tmp 4]
 body:=(.seq (.reg [.new 2 (.t 0),.mv 4 (.c (B false))]) (.seq (.reg [.fa 5 (.t 2) 0,.ld 6 false 1 (.t 5),.bin 7 .eql (.t 6) (.c (I 2)),.mv 8 (.t 7),.gd 8 true (some 9) (.fa 9 (.t 2) 1),.gd 8 true (some 10) (.ld 10 false 1 (.t 9)),.gd 8 true (some 11) (.mv 11 (.t 1)),.gd 8 true (some 12) (.bin 12 .eql (.t 10) (.t 11)),.pick 13 (.t 8) (.t 12) (.c (B false)),.mv 4 (.t 13)]) (.keep [4] .ret)))
def KA:AF where
 nargs:=2
 ntmps:=8
 res:=[.cell 4 true 4]
 body:=(.seq (.reg [.new 4 (.c (.a [(I 0),(S []),(I 0),(.n 4)]))]) (.seq (.reg [.mv 5 (.t 0),.mv 6 (.t 1),.build 7 (.a [(I 0),(S []),(I 0),(.n 4)]) [(0,1,(.c (I 4))),(1,1,(.t 5)),(3,1,(.t 6))],.st 4 (.t 4) (.t 7)]) (.keep [4] .ret)))
def Y0:AF where
 nargs:=1
 ntmps:=12
 res:=[.tmp 2]
 body:=(.seq (.reg [.new 1 (.t 0),.mv 2 (.c (B false))]) (.seq (.reg [.ld 3 true 4 (.t 1),.call (some 4) (.c (Fc qee)) [(.t 3)] (.ro false),.bin 5 .neq (.t 4) (.c (S [])),.mv 6 (.t 5),.gd 6 true (some 7) (.ld 7 true 4 (.t 1)),.gd 6 true (some 8) (.call (some 8) (.c (Fc qee)) [(.t 7)] (.ro false)),.gd 6 true (some 9) (.call (some 9) (.c (Fc qgR)) [(.t 8)] (.ro false)),.gd 6 true (some 10) (.un 10 .not (.t 9)),.pick 11 (.t 6) (.t 10) (.c (B false)),.mv 2 (.t 11)]) (.keep [2] .ret)))
def qdl:AF where
 nargs:=1
 ntmps:=18
 res:=[.cell 2 true 9]
 body:=(.seq (.reg [.new 1 (.t 0),.new 2 (.c (.a [(I 0),(S []),(I 0),(.n 4),(I 0),(S []),(I 0),(.n 4),(S [])]))]) (.seq (.reg [.ld 4 true 9 (.t 1),.call (some 5) (.c (Fc Yk)) [(.t 4)] (.ro false),.call (some 6) (.c (Fc qqv)) [(.t 5),(.c (I 0))] (.ro false),.new 3 (.c (.a [(I 0),(S []),(I 0),(.n 4)])),.st 4 (.t 3) (.t 6)]) (.keep [1,2,3] (.seq (.opn [(500000,(6,0),0),(500001,(6,0),1)] (.dreg [⟨0,[]⟩,⟨0,[(3,0)]⟩,⟨0,[(0,0),(0,1),(0,2),(0,3),(4,0),(5,0),(5,1),(5,2),(5,3),(6,0),(6,1),(6,2),(6,3),(8,0)]⟩,⟨0,[(0,0),(0,1),(0,2),(0,3),(1,0),(3,0),(4,0),(5,0),(5,1),(5,2),(5,3),(6,0),(6,1),(6,2),(6,3),(8,0)]⟩,⟨0,[]⟩,⟨0,[(3,0)]⟩,⟨0,[(0,0),(0,1),(0,2),(0,3),(4,0),(5,0),(5,1),(5,2),(5,3),(6,0),(6,1),(6,2),(6,3),(12,0)]⟩,⟨0,[(0,0),(0,1),(0,2),(0,3),(1,0),(3,0),(4,0),(5,0),(5,1),(5,2),(5,3),(6,0),(6,1),(6,2),(6,3),(12,0)]⟩,⟨0,[]⟩,⟨0,[(1,0)]⟩,⟨0,[]⟩,⟨1,[(2,0)]⟩] [.fa 7 (.t 3) 3,.ldq 8 false 1 (.t 7),.ia 9 4 (.t 8) (.c (I 0)),.ldq 10 true 4 (.t 9),.fa 11 (.t 3) 3,.ldq 12 false 1 (.t 11),.ia 13 4 (.t 12) (.c (I 1)),.ldq 14 true 4 (.t 13),.fa 15 (.t 1) 8,.ldq 16 false 1 (.t 15),.build 17 (.a [(I 0),(S []),(I 0),(.n 4),(I 0),(S []),(I 0),(.n 4),(S [])]) [(0,4,(.t 10)),(4,4,(.t 14)),(8,1,(.t 16))],.st 9 (.t 2) (.t 17)])) (.keep [2] .ret)))))
def qcc:AC:=(.seq (.seq (.reg [.mv 6 (.t 0),.bin 7 .gtr (.t 6) (.c (I 0))]) (.cond (.t 7) .skip (.keep [3] (.exit 0)))) (.keep [0,3] (.block 1 (.seq (.reg [.mv 8 (.t 0),.bin 9 .rem (.t 8) (.c (I 10)),.bin 10 .add (.c (I 48)) (.t 9),.int 11 .u8 (.t 10),.mks 12 1 [(.t 11)],.str 13 (.t 12),.mv 14 (.t 3),.bin 15 .add (.t 13) (.t 14),.mv 3 (.t 15)]) (.keep [0,3] (.reg [.mv 16 (.t 0),.bin 17 .quo (.t 16) (.c (I 10)),.mv 0 (.t 17)]))))))
def qbN:Lp:=⟨[0,3],[(1,0)],qcc⟩
@[go_sem] theorem qGA:qbN.ls=[0,3]:=rfl
@[go_sem] theorem qGz:qbN.ks=[(1,0)]:=rfl
@[go_sem] theorem qGy:qbN.body=qcc:=rfl
def Y4:AF where
 nargs:=1
 ntmps:=20
 res:=[.tmp 2]
 body:=(.seq (.reg [.mv 2 (.c (S []))]) (.seq (.seq (.reg [.mv 4 (.t 0),.bin 5 .leq (.t 4) (.c (I 0))]) (.cond (.t 5) (.seq (.reg [.mv 2 (.c (S [109,48]))]) (.keep [2] .ret)) .skip)) (.keep [0] (.seq (.reg [.mv 3 (.c (S []))]) (.seq (.block 0 (lpC qbN)) (.keep [3] (.seq (.reg [.mv 18 (.t 3),.bin 19 .add (.c (S [109])) (.t 18),.mv 2 (.t 19)]) (.keep [2] .ret))))))))
def qkJ:AC:=(.seq (.seq (.reg [.mv 6 (.t 5),.mv 7 (.t 0),.len 8 (.t 7),.bin 9 .lss (.t 6) (.t 8)]) (.keep [0,1,5,9] (.cond (.t 9) .skip (.keep [1] (.exit 0))))) (.keep [0,1,5] (.seq (.block 1 (.seq (.reg [.mv 12 (.t 0),.mv 13 (.t 5),.mv 14 (.t 1),.ia 15 4 (.t 12) (.t 13),.fa 16 (.t 15) 0,.st 1 (.t 16) (.t 14)]) (.keep [0,1,5] (.seq (.reg [.mv 17 (.t 1),.bin 18 .add (.t 17) (.c (I 1)),.mv 1 (.t 18)]) (.seq (.reg [.mv 19 (.t 0),.mv 20 (.t 5),.mv 21 (.t 1),.call (some 22) (.c (Fc qex)) [(.t 21)] (.ro false),.ia 23 4 (.t 19) (.t 20),.fa 24 (.t 23) 1,.st 1 (.t 24) (.t 22)]) (.keep [0,1,5] (.seq (.reg [.mv 25 (.t 1),.bin 26 .add (.t 25) (.c (I 1)),.mv 1 (.t 26)]) (.seq (.reg [.mv 27 (.t 0),.mv 28 (.t 5),.mv 29 (.t 1),.ia 30 4 (.t 27) (.t 28),.fa 31 (.t 30) 2,.st 1 (.t 31) (.t 29)]) (.keep [0,1,5] (.seq (.reg [.mv 32 (.t 1),.bin 33 .add (.t 32) (.c (I 1)),.mv 1 (.t 33)]) (.reg [.mv 34 (.t 0),.mv 35 (.t 5),.ia 36 4 (.t 34) (.t 35),.fa 37 (.t 36) 3,.ld 38 false 1 (.t 37),.mv 39 (.t 1),.call (some 40) (.c (Fc qqE)) [(.t 38),(.t 39)] (.io false),.mv 1 (.t 40)]))))))))))) (.keep [0,1,5] (.reg [.mv 10 (.t 5),.bin 11 .add (.t 10) (.c (I 1)),.mv 5 (.t 11)])))))
def qeX:Lp:=⟨[0,1,5],[(2,0)],qkJ⟩
@[go_sem] theorem qGx:qeX.ls=[0,1,5]:=rfl
@[go_sem] theorem qGw:qeX.ks=[(2,0)]:=rfl
@[go_sem] theorem qGv:qeX.body=qkJ:=rfl
def qdE:AF where
 nargs:=2
 ntmps:=42
 res:=[.tmp 4]
 body:=(.seq (.reg [.mv 4 (.c (I 0))]) (.seq (.seq (.reg [.mv 5 (.c (I 0))]) (.block 0 (lpC qeX))) (.keep [1] (.seq (.reg [.mv 41 (.t 1),.mv 4 (.t 41)]) (.keep [4] .ret)))))
def qkI:AC:=(.seq (.seq (.reg [.mv 6 (.t 5),.mv 7 (.t 0),.len 8 (.t 7),.bin 9 .lss (.t 6) (.t 8)]) (.keep [0,1,5,9] (.cond (.t 9) .skip (.keep [1] (.exit 0))))) (.keep [0,1,5] (.seq (.block 1 (.seq (.seq (.reg [.mv 12 (.t 0),.mv 13 (.t 5),.ia 14 4 (.t 12) (.t 13),.fa 15 (.t 14) 0,.ld 16 false 1 (.t 15),.mv 17 (.t 1),.bin 18 .neq (.t 16) (.t 17)]) (.keep [0,1,5,18] (.cond (.t 18) (.seq (.reg [.mv 4 (.c (I (-1)))]) (.keep [4] .ret)) .skip))) (.keep [0,1,5] (.seq (.reg [.mv 19 (.t 1),.bin 20 .add (.t 19) (.c (I 1)),.mv 1 (.t 20)]) (.seq (.seq (.dreg [⟨0,[]⟩,⟨0,[]⟩,⟨0,[(0,0),(0,1),(0,2),(0,3),(100000,0),(100000,1),(100000,2),(100000,3),(100000,4),(100000,5)]⟩,⟨0,[]⟩,⟨0,[(0,0),(0,1),(0,2),(0,3),(100000,0),(100000,1),(100000,2),(100000,3),(100000,4),(100000,5)]⟩,⟨0,[]⟩,⟨2,[(0,0),(0,1),(0,2),(0,3),(1,0),(1,1),(1,2),(1,3),(44,0),(46,0),(46,1),(46,2),(46,3),(100000,0),(100000,1),(100000,2),(100000,3),(100000,4),(100000,5)]⟩,⟨0,[]⟩] [.mv 21 (.t 0),.mv 22 (.t 5),.ia 23 4 (.t 21) (.t 22),.fa 24 (.t 23) 1,.ldq 25 false 1 (.t 24),.mv 26 (.t 1),.call (some 27) (.c (Fc qex)) [(.t 26)] (.ro true),.bin 28 .neq (.t 25) (.t 27)]) (.keep [0,1,5,28] (.cond (.t 28) (.seq (.reg [.mv 4 (.c (I (-1)))]) (.keep [4] .ret)) .skip))) (.keep [0,1,5] (.seq (.reg [.mv 29 (.t 1),.bin 30 .add (.t 29) (.c (I 1)),.mv 1 (.t 30)]) (.seq (.seq (.reg [.mv 31 (.t 0),.mv 32 (.t 5),.ia 33 4 (.t 31) (.t 32),.fa 34 (.t 33) 2,.ld 35 false 1 (.t 34),.mv 36 (.t 1),.bin 37 .neq (.t 35) (.t 36)]) (.keep [0,1,5,37] (.cond (.t 37) (.seq (.reg [.mv 4 (.c (I (-1)))]) (.keep [4] .ret)) .skip))) (.keep [0,1,5] (.seq (.reg [.mv 38 (.t 1),.bin 39 .add (.t 38) (.c (I 1)),.mv 1 (.t 39)]) (.seq (.reg [.mv 40 (.t 0),.mv 41 (.t 5),.ia 42 4 (.t 40) (.t 41),.fa 43 (.t 42) 3,.ld 44 false 1 (.t 43),.mv 45 (.t 1),.call (some 46) (.c (Fc qqD)) [(.t 44),(.t 45)] (.ro false),.mv 1 (.t 46)]) (.keep [0,1,5] (.seq (.reg [.mv 47 (.t 1),.bin 48 .lss (.t 47) (.c (I 0))]) (.cond (.t 48) (.seq (.reg [.mv 4 (.c (I (-1)))]) (.keep [4] .ret)) .skip)))))))))))))) (.keep [0,1,5] (.reg [.mv 10 (.t 5),.bin 11 .add (.t 10) (.c (I 1)),.mv 5 (.t 11)])))))
def qeW:Lp:=⟨[0,1,5],[(2,0)],qkI⟩
@[go_sem] theorem qGu:qeW.ls=[0,1,5]:=rfl
@[go_sem] theorem qGt:qeW.ks=[(2,0)]:=rfl
@[go_sem] theorem qGs:qeW.body=qkI:=rfl
def qdD:AF where
 nargs:=2
 ntmps:=50
 res:=[.tmp 4]
 body:=(.seq (.reg [.mv 4 (.c (I 0))]) (.seq (.seq (.reg [.mv 5 (.c (I 0))]) (.block 0 (lpC qeW))) (.keep [1] (.seq (.reg [.mv 49 (.t 1),.mv 4 (.t 49)]) (.keep [4] .ret)))))
def qcl:AC:=(.seq (.seq (.reg [.mv 66 (.t 7),.mv 67 (.t 0),.call (some 68) (.c (Fc kK)) [(.t 67),(.c (I 3))] (.io true),.bin 69 .add (.c (I 1)) (.t 68),.bin 70 .lss (.t 66) (.t 69)]) (.keep [0,1,4,6,7,70] (.cond (.t 70) .skip (.keep [0,4,6] (.exit 1))))) (.keep [0,1,4,6,7] (.seq (.block 2 (.seq (.reg [.fa 73 (.t 6) 3,.ld 74 false 1 (.t 73),.len 75 (.t 74),.bin 76 .lss (.t 75) (.c (I 5))]) (.keep [0,1,4,6,7,76] (.cond (.t 76) (.dreg [⟨0,[]⟩,⟨0,[(6,0),(100000,0),(100000,1),(100000,2),(100000,3),(100000,4),(100000,5)]⟩,⟨0,[]⟩,⟨0,[]⟩,⟨0,[]⟩,⟨1,[(0,0)]⟩,⟨1,[]⟩,⟨1,[(0,0),(0,1),(0,2),(0,3),(1,0),(1,1),(1,2),(1,3),(82,0),(82,1),(82,2),(82,3),(83,0),(500000,0),(100000,0),(100000,1),(100000,2),(100000,3),(100000,4),(100000,5)]⟩,⟨0,[]⟩,⟨1,[(6,0),(100000,0),(100000,1),(100000,2),(100000,3),(100000,4),(100000,5)]⟩] [.fa 77 (.t 6) 3,.ldq 78 false 1 (.t 77),.mv 79 (.t 0),.mv 80 (.t 1),.bin 81 .sub (.t 80) (.c (I 1)),.call (some 82) (.c (Fc Qf)) [(.t 79),(.t 81)] (.io false),.mks 83 4 [(.t 82)],.app 84 4 56 (.t 78) (.t 83),.fa 85 (.t 6) 3,.st 1 (.t 85) (.t 84)]) .skip)))) (.keep [0,1,4,6,7] (.reg [.mv 71 (.t 7),.bin 72 .add (.t 71) (.c (I 1)),.mv 7 (.t 72)])))))
def qbX:Lp:=⟨[0,1,4,6,7],[(2,0)],qcl⟩
@[go_sem] theorem qHK:qbX.ls=[0,1,4,6,7]:=rfl
@[go_sem] theorem qHJ:qbX.ks=[(2,0)]:=rfl
@[go_sem] theorem qHI:qbX.body=qcl:=rfl
def kH:AF where
 nargs:=2
 ntmps:=87
 res:=[.cell 4 true 4]
 body:=(.seq (.reg [.new 4 (.c (.a [(I 0),(S []),(I 0),(.n 4)]))]) (.seq (.reg [.mv 8 (.t 0),.call (some 9) (.c (Fc kK)) [(.t 8),(.c (I 10))] (.io true),.mv 5 (.t 9)]) (.seq (.seq (.reg [.mv 10 (.t 1),.bin 11 .leq (.t 10) (.c (I 0))]) (.cond (.t 11) (.reg [.mv 12 (.t 5),.bin 13 .rem (.t 12) (.c (I 6)),.mv 5 (.t 13)]) .skip)) (.keep [0,1,4,5] (.seq (.block 0 (.seq (.reg [.mv 15 (.t 5),.bin 16 .lss (.t 15) (.c (I 2)),.mv 14 (.t 16)]) (.cond (.t 14) (.seq (.reg [.mv 17 (.t 0),.call (some 18) (.c (Fc kK)) [(.t 17),(.c (I 4))] (.io false),.call (some 19) (.c (Fc qbu)) [(.t 18)] (.ro false),.st 4 (.t 4) (.t 19)]) (.keep [0,4] .ret)) (.seq (.reg [.mv 21 (.t 5),.bin 22 .lss (.t 21) (.c (I 4)),.mv 20 (.t 22)]) (.cond (.t 20) (.seq (.reg [.mv 23 (.t 0),.ssl 24 (.c (S [120,32,121])) none (some (.c (I 1))),.mks 25 1 [(.c (S [97])),(.c (S [98])),(.c (S [91,93])),(.c (S [43])),(.c (S [66,105,103])),(.t 24),(.c (S [58,45])),(.c (S [61,46,46]))],.call (some 26) (.c (Fc Jt)) [(.t 23),(.t 25)] (.io false),.call (some 27) (.c (Fc ZE)) [(.t 26)] (.ro false),.st 4 (.t 4) (.t 27)]) (.keep [0,4] .ret)) (.seq (.reg [.mv 29 (.t 5),.bin 30 .lss (.t 29) (.c (I 6)),.mv 28 (.t 30)]) (.cond (.t 28) (.seq (.reg [.mv 31 (.t 0),.mks 32 1 [(.c (I 0)),(.c (I 1)),(.c (I (-7))),(.c (I 999999999))],.call (some 33) (.c (Fc qhm)) [(.t 31),(.t 32)] (.io false),.call (some 34) (.c (Fc qbs)) [(.t 33)] (.ro false),.st 4 (.t 4) (.t 34)]) (.keep [0,4] .ret)) (.seq (.reg [.mv 36 (.t 5),.bin 37 .eql (.t 36) (.c (I 6)),.mv 35 (.t 37)]) (.cond (.t 35) (.seq (.reg [.mv 38 (.t 0),.mv 39 (.t 1),.bin 40 .sub (.t 39) (.c (I 1)),.call (some 41) (.c (Fc Qf)) [(.t 38),(.t 40)] (.io false),.mv 42 (.t 0),.mv 43 (.t 1),.bin 44 .sub (.t 43) (.c (I 1)),.call (some 45) (.c (Fc Qf)) [(.t 42),(.t 44)] (.io false),.call (some 46) (.c (Fc Yq)) [(.c (S [46])),(.t 41),(.t 45)] (.io false),.st 4 (.t 4) (.t 46)]) (.keep [0,4] .ret)) (.seq (.reg [.mv 48 (.t 5),.bin 49 .eql (.t 48) (.c (I 7)),.mv 47 (.t 49)]) (.cond (.t 47) (.seq (.reg [.mv 50 (.t 0),.mks 51 1 [(.c (S [43])),(.c (S [61])),(.c (S [44])),(.c (S [102])),(.c (S [59]))],.call (some 52) (.c (Fc Jt)) [(.t 50),(.t 51)] (.io false),.mv 53 (.t 0),.mv 54 (.t 1),.bin 55 .sub (.t 54) (.c (I 1)),.call (some 56) (.c (Fc Qf)) [(.t 53),(.t 55)] (.io false),.mv 57 (.t 0),.mv 58 (.t 1),.bin 59 .sub (.t 58) (.c (I 1)),.call (some 60) (.c (Fc Qf)) [(.t 57),(.t 59)] (.io false),.call (some 61) (.c (Fc Yq)) [(.t 52),(.t 56),(.t 60)] (.io false),.st 4 (.t 4) (.t 61)]) (.keep [0,4] .ret)) .skip))))))))))) (.keep [0,1,4] (.seq (.reg [.mv 62 (.t 0),.mks 63 1 [(.c (S [102])),(.c (S [103])),(.c (S [45])),(.c (S [91,93]))],.call (some 64) (.c (Fc Jt)) [(.t 62),(.t 63)] (.io false),.build 65 (.a [(I 0),(S []),(I 0),(.n 4)]) [(0,1,(.c (I 4))),(1,1,(.t 64))],.new 6 (.c (.a [(I 0),(S []),(I 0),(.n 4)])),.st 4 (.t 6) (.t 65)]) (.keep [0,1,4,6] (.seq (.seq (.reg [.mv 7 (.c (I 0))]) (.block 1 (lpC qbX))) (.keep [0,4,6] (.seq (.reg [.ld 86 true 4 (.t 6),.st 4 (.t 4) (.t 86)]) (.keep [0,4] .ret))))))))))))
def KW:AF where
 nargs:=1
 ntmps:=5
 res:=[.cell 2 true 4]
 body:=(.seq (.reg [.new 2 (.c (.a [(I 0),(S []),(I 0),(.n 4)]))]) (.seq (.reg [.mv 3 (.t 0),.build 4 (.a [(I 0),(S []),(I 0),(.n 4)]) [(0,1,(.c (I 2))),(1,1,(.t 3))],.st 4 (.t 2) (.t 4)]) (.keep [2] .ret)))
def qcb:AC:=(.seq (.reg [.bin 85 .lss (.t 84) (.t 83)]) (.seq (.cond (.t 85) .skip (.keep [5] (.exit 1))) (.keep [1,5,82,83,84] (.seq (.block 2 (.seq (.reg [.ia 86 4 (.t 82) (.t 84),.ld 87 true 4 (.t 86),.new 7 (.c (.a [(I 0),(S []),(I 0),(.n 4)])),.st 4 (.t 7) (.t 87)]) (.keep [1,5,7,82,83,84] (.seq (.reg [.mv 88 (.t 5),.ld 89 true 4 (.t 7),.mv 90 (.t 1),.bin 91 .add (.t 90) (.c (I 1)),.call (some 92) (.c (Fc qbk)) [(.t 89),(.t 91)] (.ro false),.bin 93 .add (.t 88) (.t 92),.mv 5 (.t 93)]) (.keep [1,5,82,83,84] (.seq (.reg [.mv 94 (.t 5),.bin 95 .gtr (.t 94) (.c (I 400))]) (.cond (.t 95) (.seq (.reg [.mv 4 (.c (I 401))]) (.keep [4] .ret)) .skip))))))) (.keep [1,5,82,83,84] (.reg [.bin 96 .add (.t 84) (.c (I 1)),.mv 84 (.t 96)]))))))
def QQ:Lp:=⟨[1,5,82,83,84],[(2,0)],qcb⟩
@[go_sem] theorem qF9:QQ.ls=[1,5,82,83,84]:=rfl
@[go_sem] theorem qF8:QQ.ks=[(2,0)]:=rfl
@[go_sem] theorem qF7:QQ.body=qcb:=rfl
def yb:AF where
 nargs:=2
 ntmps:=98
 res:=[.tmp 4]
 body:=(.seq (.reg [.new 2 (.t 0),.mv 4 (.c (I 0))]) (.seq (.seq (.reg [.mv 8 (.t 1),.bin 9 .gtr (.t 8) (.c (I 40))]) (.cond (.t 9) (.seq (.reg [.mv 4 (.c (I 401))]) (.keep [4] .ret)) .skip)) (.keep [1,2] (.seq (.seq (.reg [.fa 10 (.t 2) 0,.ld 11 false 1 (.t 10)]) (.block 0 (.seq (.reg [.bin 13 .eql (.t 11) (.c (I 1)),.mv 12 (.t 13)]) (.cond (.t 12) (.seq (.reg [.fa 14 (.t 2) 1,.ld 15 false 1 (.t 14),.bin 16 .neq (.t 15) (.c (S [])),.mv 17 (.t 16),.gd 17 false (some 18) (.fa 18 (.t 2) 2),.gd 17 false (some 19) (.ld 19 false 1 (.t 18)),.gd 17 false (some 20) (.call (some 20) (.c (Fc ZC)) [(.t 19),(.c (I 0)),(.c (I 99999))] (.ro true)),.gd 17 false (some 21) (.un 21 .not (.t 20)),.pick 22 (.t 17) (.c (B true)) (.t 21),.mv 23 (.t 22),.gd 23 false (some 24) (.fa 24 (.t 2) 3),.gd 23 false (some 25) (.ld 25 false 1 (.t 24)),.gd 23 false (some 26) (.len 26 (.t 25)),.gd 23 false (some 27) (.bin 27 .gtr (.t 26) (.c (I 0))),.pick 28 (.t 23) (.c (B true)) (.t 27)]) (.keep [1,2,28] (.cond (.t 28) (.seq (.reg [.mv 4 (.c (I 401))]) (.keep [4] .ret)) .skip))) (.seq (.reg [.bin 30 .eql (.t 11) (.c (I 2)),.mv 29 (.t 30)]) (.cond (.t 29) (.seq (.reg [.fa 31 (.t 2) 1,.ld 32 false 1 (.t 31),.call (some 33) (.c (Fc qeq)) [(.t 32)] (.ro true),.un 34 .not (.t 33),.mv 35 (.t 34),.gd 35 false (some 36) (.fa 36 (.t 2) 2),.gd 35 false (some 37) (.ld 37 false 1 (.t 36)),.gd 35 false (some 38) (.bin 38 .neq (.t 37) (.c (I 0))),.pick 39 (.t 35) (.c (B true)) (.t 38),.mv 40 (.t 39),.gd 40 false (some 41) (.fa 41 (.t 2) 3),.gd 40 false (some 42) (.ld 42 false 1 (.t 41)),.gd 40 false (some 43) (.len 43 (.t 42)),.gd 40 false (some 44) (.bin 44 .gtr (.t 43) (.c (I 0))),.pick 45 (.t 40) (.c (B true)) (.t 44)]) (.keep [1,2,45] (.cond (.t 45) (.seq (.reg [.mv 4 (.c (I 401))]) (.keep [4] .ret)) .skip))) (.seq (.reg [.bin 47 .eql (.t 11) (.c (I 3)),.mv 46 (.t 47)]) (.cond (.t 46) (.seq (.reg [.fa 48 (.t 2) 1,.ld 49 false 1 (.t 48),.bin 50 .neq (.t 49) (.c (S [])),.mv 51 (.t 50),.gd 51 false (some 52) (.fa 52 (.t 2) 2),.gd 51 false (some 53) (.ld 53 false 1 (.t 52)),.gd 51 false (some 54) (.call (some 54) (.c (Fc ZC)) [(.t 53),(.c (I (-999999999))),(.c (I 999999999))] (.ro true)),.gd 51 false (some 55) (.un 55 .not (.t 54)),.pick 56 (.t 51) (.c (B true)) (.t 55),.mv 57 (.t 56),.gd 57 false (some 58) (.fa 58 (.t 2) 3),.gd 57 false (some 59) (.ld 59 false 1 (.t 58)),.gd 57 false (some 60) (.len 60 (.t 59)),.gd 57 false (some 61) (.bin 61 .gtr (.t 60) (.c (I 0))),.pick 62 (.t 57) (.c (B true)) (.t 61)]) (.keep [1,2,62] (.cond (.t 62) (.seq (.reg [.mv 4 (.c (I 401))]) (.keep [4] .ret)) .skip))) (.seq (.reg [.bin 64 .eql (.t 11) (.c (I 4)),.mv 63 (.t 64)]) (.cond (.t 63) (.seq (.reg [.fa 65 (.t 2) 1,.ld 66 false 1 (.t 65),.call (some 67) (.c (Fc qeq)) [(.t 66)] (.ro true),.un 68 .not (.t 67),.mv 69 (.t 68),.gd 69 false (some 70) (.fa 70 (.t 2) 2),.gd 69 false (some 71) (.ld 71 false 1 (.t 70)),.gd 69 false (some 72) (.bin 72 .neq (.t 71) (.c (I 0))),.pick 73 (.t 69) (.c (B true)) (.t 72),.mv 74 (.t 73),.gd 74 false (some 75) (.fa 75 (.t 2) 3),.gd 74 false (some 76) (.ld 76 false 1 (.t 75)),.gd 74 false (some 77) (.len 77 (.t 76)),.gd 74 false (some 78) (.call (some 78) (.c (Fc ZC)) [(.t 77),(.c (I 1)),(.c (I 5))] (.ro true)),.gd 74 false (some 79) (.un 79 .not (.t 78)),.pick 80 (.t 74) (.c (B true)) (.t 79)]) (.keep [1,2,80] (.cond (.t 80) (.seq (.reg [.mv 4 (.c (I 401))]) (.keep [4] .ret)) .skip))) (.seq (.reg [.mv 4 (.c (I 401))]) (.keep [4] .ret)))))))))))) (.keep [1,2] (.seq (.reg [.mv 5 (.c (I 1))]) (.seq (.seq (.reg [.fa 81 (.t 2) 3,.ld 82 false 1 (.t 81),.len 83 (.t 82),.mv 84 (.c (I 0))]) (.keep [1,5,82,83,84] (.block 1 (lpC QQ)))) (.keep [5] (.seq (.reg [.mv 97 (.t 5),.mv 4 (.t 97)]) (.keep [4] .ret))))))))))
def qfh:AC:=(.seq (.reg [.bin 101 .lss (.t 100) (.t 99)]) (.seq (.cond (.t 101) .skip (.keep [3,9] (.exit 3))) (.keep [1,3,9,98,99,100] (.seq (.block 4 (.seq (.reg [.ia 102 4 (.t 98) (.t 100),.ld 103 true 4 (.t 102),.new 11 (.c (.a [(I 0),(S []),(I 0),(.n 4)])),.st 4 (.t 11) (.t 103)]) (.keep [1,3,9,11,98,99,100] (.reg [.mv 104 (.t 9),.mv 105 (.t 1),.ld 106 true 4 (.t 11),.call (some 107) (.t 105) [(.t 106)] (.ro false),.mks 108 1 [(.t 107)],.app 109 1 16 (.t 104) (.t 108),.mv 9 (.t 109)])))) (.keep [1,3,9,98,99,100] (.reg [.bin 110 .add (.t 100) (.c (I 1)),.mv 100 (.t 110)]))))))
def qbK:Lp:=⟨[1,3,9,98,99,100],[(3,0)],qfh⟩
@[go_sem] theorem qGc:qbK.ls=[1,3,9,98,99,100]:=rfl
@[go_sem] theorem qGb:qbK.ks=[(3,0)]:=rfl
@[go_sem] theorem qGa:qbK.body=qfh:=rfl
def qfi:AC:=(.seq (.seq (.reg [.ld 65 true 4 (.t 8),.call (some 66) (.c (Fc qem)) [(.t 65)] (.ro true)]) (.cond (.t 66) .skip (.keep [1,7,8] (.exit 1)))) (.keep [1,7,8] (.seq (.block 2 (.reg [.mv 71 (.t 7),.mv 72 (.t 1),.fa 73 (.t 8) 3,.ld 74 false 1 (.t 73),.ia 75 4 (.t 74) (.c (I 0)),.ld 76 true 4 (.t 75),.call (some 77) (.t 72) [(.t 76)] (.ro false),.bin 78 .add (.c (S [44])) (.t 77),.bin 79 .add (.t 71) (.t 78),.mv 7 (.t 79)])) (.keep [1,7,8] (.reg [.fa 67 (.t 8) 3,.ld 68 false 1 (.t 67),.ia 69 4 (.t 68) (.c (I 1)),.ld 70 true 4 (.t 69),.st 4 (.t 8) (.t 70)])))))
def qbL:Lp:=⟨[1,7,8],[(3,0)],qfi⟩
@[go_sem] theorem qGf:qbL.ls=[1,7,8]:=rfl
@[go_sem] theorem qGe:qbL.ks=[(3,0)]:=rfl
@[go_sem] theorem qGd:qbL.body=qfi:=rfl
def kG:AF where
 nargs:=3
 ntmps:=119
 res:=[.tmp 6]
 body:=(.seq (.reg [.new 3 (.t 0),.mv 6 (.c (S []))]) (.seq (.block 0 (.seq (.reg [.fa 13 (.t 3) 0,.ld 14 false 1 (.t 13),.bin 15 .eql (.t 14) (.c (I 1)),.mv 12 (.t 15)]) (.keep [1,2,3,12] (.cond (.t 12) (.seq (.reg [.fa 16 (.t 3) 2,.ld 17 false 1 (.t 16),.call (some 18) (.c (Fc qbb)) [(.t 17)] (.ro false),.bin 19 .add (.c (S [95])) (.t 18),.mv 6 (.t 19)]) (.keep [6] .ret)) (.seq (.reg [.fa 21 (.t 3) 0,.ld 22 false 1 (.t 21),.bin 23 .eql (.t 22) (.c (I 3)),.mv 20 (.t 23)]) (.keep [1,2,3,20] (.cond (.t 20) (.seq (.reg [.fa 24 (.t 3) 2,.ld 25 false 1 (.t 24),.call (some 26) (.c (Fc qbb)) [(.t 25)] (.ro false),.mv 6 (.t 26)]) (.keep [6] .ret)) (.seq (.reg [.ld 28 true 4 (.t 3),.call (some 29) (.c (Fc qbi)) [(.t 28),(.c (S [91,93]))] (.ro true),.mv 27 (.t 29)]) (.cond (.t 27) (.seq (.reg [.mv 6 (.c (S [91,93]))]) (.keep [6] .ret)) (.seq (.reg [.fa 31 (.t 3) 0,.ld 32 false 1 (.t 31),.bin 33 .eql (.t 32) (.c (I 2)),.mv 34 (.t 33),.gd 34 true (some 35) (.fa 35 (.t 3) 1),.gd 34 true (some 36) (.ld 36 false 1 (.t 35)),.gd 34 true (some 37) (.call (some 37) (.c (Fc qgY)) [(.t 36)] (.ro true)),.pick 38 (.t 34) (.t 37) (.c (B false)),.mv 30 (.t 38)]) (.keep [1,2,3,30] (.cond (.t 30) (.seq (.reg [.fa 39 (.t 3) 1,.ld 40 false 1 (.t 39),.call (some 41) (.c (Fc Ji)) [(.t 40)] (.ro false),.bin 42 .add (.c (S [40])) (.t 41),.bin 43 .add (.t 42) (.c (S [41])),.mv 6 (.t 43)]) (.keep [6] .ret)) (.seq (.reg [.fa 45 (.t 3) 0,.ld 46 false 1 (.t 45),.bin 47 .eql (.t 46) (.c (I 2)),.mv 44 (.t 47)]) (.keep [1,2,3,44] (.cond (.t 44) (.seq (.reg [.fa 48 (.t 3) 1,.ld 49 false 1 (.t 48),.call (some 50) (.c (Fc Ji)) [(.t 49)] (.ro false),.mv 6 (.t 50)]) (.keep [6] .ret)) (.seq (.reg [.ld 52 true 4 (.t 3),.call (some 53) (.c (Fc qem)) [(.t 52)] (.ro true),.mv 51 (.t 53)]) (.cond (.t 51) (.seq (.reg [.mv 54 (.t 1),.fa 55 (.t 3) 3,.ld 56 false 1 (.t 55),.ia 57 4 (.t 56) (.c (I 0)),.ld 58 true 4 (.t 57),.call (some 59) (.t 54) [(.t 58)] (.ro false),.bin 60 .add (.c (S [91])) (.t 59),.mv 7 (.t 60)]) (.keep [1,3,7] (.seq (.reg [.fa 61 (.t 3) 3,.ld 62 false 1 (.t 61),.ia 63 4 (.t 62) (.c (I 1)),.ld 64 true 4 (.t 63),.new 8 (.c (.a [(I 0),(S []),(I 0),(.n 4)])),.st 4 (.t 8) (.t 64)]) (.keep [1,7,8] (.seq (.block 1 (lpC qbL)) (.keep [1,7,8] (.seq (.seq (.reg [.ld 80 true 4 (.t 8),.call (some 81) (.c (Fc qbi)) [(.t 80),(.c (S [91,93]))] (.ro true),.un 82 .not (.t 81)]) (.cond (.t 82) (.reg [.mv 83 (.t 7),.mv 84 (.t 1),.ld 85 true 4 (.t 8),.call (some 86) (.t 84) [(.t 85)] (.ro false),.bin 87 .add (.c (S [124])) (.t 86),.bin 88 .add (.t 83) (.t 87),.mv 7 (.t 88)]) .skip)) (.keep [7] (.seq (.reg [.mv 89 (.t 7),.bin 90 .add (.t 89) (.c (S [93])),.mv 6 (.t 90)]) (.keep [6] .ret)))))))))) (.seq (.reg [.ld 92 true 4 (.t 3),.call (some 93) (.c (Fc qel)) [(.t 92)] (.ro true),.mv 91 (.t 93)]) (.cond (.t 91) (.seq (.reg [.mv 94 (.t 2),.ld 95 true 4 (.t 3),.call (some 96) (.t 94) [(.t 95)] (.ro false),.mv 6 (.t 96)]) (.keep [6] .ret)) .skip))))))))))))))))))) (.keep [1,3] (.seq (.reg [.mv 9 (.c (.n 1))]) (.seq (.seq (.reg [.fa 97 (.t 3) 3,.ld 98 false 1 (.t 97),.len 99 (.t 98),.mv 100 (.c (I 0))]) (.keep [1,3,9,98,99,100] (.block 3 (lpC qbK)))) (.keep [3,9] (.seq (.reg [.fa 111 (.t 3) 1,.ld 112 false 1 (.t 111),.call (some 113) (.c (Fc Ji)) [(.t 112)] (.ro false),.bin 114 .add (.t 113) (.c (S [40])),.mv 115 (.t 9),.call (some 116) (.c (Fc qky)) [(.t 115),(.c (S [44]))] (.ro false),.bin 117 .add (.t 114) (.t 116),.bin 118 .add (.t 117) (.c (S [41])),.mv 6 (.t 118)]) (.keep [6] .ret))))))))
def qdv:AF where
 nargs:=1
 ntmps:=5
 res:=[.tmp 2]
 body:=(.seq (.reg [.new 1 (.t 0),.mv 2 (.c (S []))]) (.seq (.reg [.ld 3 true 4 (.t 1),.call (some 4) (.c (Fc qbf)) [(.t 3),(.c (I 999))] (.ro false),.mv 2 (.t 4)]) (.keep [2] .ret)))
def qdr:AF where
 nargs:=2
 ntmps:=15
 res:=[.tmp 4]
 body:=(.seq (.reg [.new 2 (.t 0),.mv 4 (.c (S []))]) (.seq (.seq (.reg [.ld 5 true 4 (.t 2),.call (some 6) (.c (Fc qku)) [(.t 5)] (.ro true),.mv 7 (.t 1),.bin 8 .gtr (.t 6) (.t 7)]) (.keep [2,8] (.cond (.t 8) (.seq (.reg [.ld 9 true 4 (.t 2),.call (some 10) (.c (Fc qg0)) [(.t 9)] (.ro false),.bin 11 .add (.c (S [40])) (.t 10),.bin 12 .add (.t 11) (.c (S [41])),.mv 4 (.t 12)]) (.keep [4] .ret)) .skip))) (.keep [2] (.seq (.reg [.ld 13 true 4 (.t 2),.call (some 14) (.c (Fc qg0)) [(.t 13)] (.ro false),.mv 4 (.t 14)]) (.keep [4] .ret)))))
def qdw:AF where
 nargs:=1
 ntmps:=32
 res:=[.tmp 2]
 body:=(.seq (.reg [.new 1 (.t 0),.mv 2 (.c (S []))]) (.seq (.reg [.fa 6 (.t 1) 1,.ld 7 false 1 (.t 6),.call (some 8) (.c (Fc Jl)) [(.t 7)] (.ro false),.mv 5 (.t 8),.ext 9 (.t 5) 0,.ext 10 (.t 5) 1,.new 3 (.c (.a [(S []),(I 0),(I 0),(I 0)])),.st 4 (.t 3) (.t 9),.mv 4 (.t 10)]) (.keep [1,3] (.seq (.dreg [⟨0,[]⟩,⟨0,[(1,0)]⟩,⟨0,[(0,0),(0,1),(0,2),(0,3),(12,0)]⟩,⟨0,[(0,0),(0,1),(0,2),(0,3),(1,0),(12,0)]⟩,⟨0,[]⟩,⟨0,[(3,0)]⟩,⟨2,[(0,0),(0,1),(0,2),(0,3),(7,0),(8,0),(8,1),(8,2),(8,3),(12,0),(14,0),(16,0)]⟩,⟨0,[]⟩,⟨0,[]⟩,⟨0,[(1,0)]⟩,⟨2,[(0,0),(0,1),(0,2),(0,3),(20,0)]⟩,⟨0,[]⟩,⟨0,[]⟩,⟨0,[]⟩,⟨0,[(1,0)]⟩,⟨0,[(0,0),(0,1),(0,2),(0,3),(25,0)]⟩,⟨0,[(0,0),(0,1),(0,2),(0,3),(1,0),(25,0)]⟩,⟨0,[]⟩,⟨0,[(3,0)]⟩,⟨2,[(0,0),(0,1),(0,2),(0,3),(7,0),(8,0),(8,1),(8,2),(8,3),(25,0),(27,0),(29,0)]⟩,⟨0,[]⟩,⟨0,[]⟩] [.fa 11 (.t 1) 3,.ldq 12 false 1 (.t 11),.ia 13 4 (.t 12) (.c (I 0)),.ldq 14 true 4 (.t 13),.fa 15 (.t 3) 2,.ldq 16 false 1 (.t 15),.call (some 17) (.c (Fc qbf)) [(.t 14),(.t 16)] (.ro false),.bin 18 .add (.t 17) (.c (S [32])),.fa 19 (.t 1) 1,.ldq 20 false 1 (.t 19),.call (some 21) (.c (Fc qes)) [(.t 20)] (.ro false),.bin 22 .add (.t 18) (.t 21),.bin 23 .add (.t 22) (.c (S [32])),.fa 24 (.t 1) 3,.ldq 25 false 1 (.t 24),.ia 26 4 (.t 25) (.c (I 1)),.ldq 27 true 4 (.t 26),.fa 28 (.t 3) 3,.ldq 29 false 1 (.t 28),.call (some 30) (.c (Fc qbf)) [(.t 27),(.t 29)] (.ro false),.bin 31 .add (.t 23) (.t 30),.mv 2 (.t 31)]) (.keep [2] .ret)))))
def Y3:AF where
 nargs:=1
 ntmps:=8
 res:=[.tmp 2]
 body:=(.seq (.reg [.mv 2 (.c (S []))]) (.seq (.seq (.reg [.mv 3 (.t 0),.bin 4 .eql (.t 3) (.c (S [44]))]) (.cond (.t 4) (.seq (.reg [.mv 5 (.t 0),.mv 2 (.t 5)]) (.keep [2] .ret)) .skip)) (.keep [0] (.seq (.reg [.mv 6 (.t 0),.call (some 7) (.c (Fc Ji)) [(.t 6)] (.ro false),.mv 2 (.t 7)]) (.keep [2] .ret)))))
def K1:AF where
 nargs:=1
 ntmps:=13
 res:=[.tmp 2]
 body:=(.seq (.reg [.mv 2 (.c (B false))]) (.seq (.reg [.mv 3 (.t 0),.bin 4 .eql (.t 3) (.c (U8 32)),.mv 5 (.t 4),.gd 5 false (some 6) (.mv 6 (.t 0)),.gd 5 false (some 7) (.bin 7 .eql (.t 6) (.c (U8 9))),.pick 8 (.t 5) (.c (B true)) (.t 7),.mv 9 (.t 8),.gd 9 false (some 10) (.mv 10 (.t 0)),.gd 9 false (some 11) (.bin 11 .eql (.t 10) (.c (U8 10))),.pick 12 (.t 9) (.c (B true)) (.t 11),.mv 2 (.t 12)]) (.keep [2] .ret)))
def qco:AC:=(.seq (.seq (.reg [.mv 142 (.t 13),.mv 143 (.t 0),.slen 144 (.t 143),.bin 145 .lss (.t 142) (.t 144),.mv 146 (.t 145),.gd 146 true (some 147) (.mv 147 (.t 0)),.gd 146 true (some 148) (.mv 148 (.t 13)),.gd 146 true (some 149) (.ix 149 (.t 147) (.t 148)),.gd 146 true (some 150) (.call (some 150) (.c (Fc qbo)) [(.t 149)] (.ro true)),.pick 151 (.t 146) (.t 150) (.c (B false))]) (.keep [0,1,4,7,8,13,151] (.cond (.t 151) .skip (.keep [0,1,4,7,8,13] (.exit 3))))) (.keep [0,1,4,7,8,13] (.block 4 (.reg [.mv 152 (.t 13),.bin 153 .add (.t 152) (.c (I 1)),.mv 13 (.t 153)]))))
def qb0:Lp:=⟨[0,1,4,7,8,13],[(2,0)],qco⟩
@[go_sem] theorem qH2:qb0.ls=[0,1,4,7,8,13]:=rfl
@[go_sem] theorem qH1:qb0.ks=[(2,0)]:=rfl
@[go_sem] theorem qH0:qb0.body=qco:=rfl
def JJ:AC:=(.seq (.seq (.reg [.mv 54 (.t 10),.mv 55 (.t 0),.slen 56 (.t 55),.bin 57 .lss (.t 54) (.t 56),.mv 58 (.t 57),.gd 58 true (some 59) (.mv 59 (.t 0)),.gd 58 true (some 60) (.mv 60 (.t 10)),.gd 58 true (some 61) (.ix 61 (.t 59) (.t 60)),.gd 58 true (some 62) (.call (some 62) (.c (Fc qbv)) [(.t 61)] (.ro true)),.pick 63 (.t 58) (.t 62) (.c (B false)),.mv 64 (.t 63),.gd 64 true (some 65) (.mv 65 (.t 11)),.gd 64 true (some 66) (.bin 66 .leq (.t 65) (.c (I 999999999))),.pick 67 (.t 64) (.t 66) (.c (B false))]) (.keep [0,1,4,7,8,10,11,67] (.cond (.t 67) .skip (.keep [1,4,7,8,10,11] (.exit 1))))) (.keep [0,1,4,7,8,10,11] (.block 2 (.seq (.reg [.mv 68 (.t 11),.bin 69 .mul (.c (I 10)) (.t 68),.mv 70 (.t 0),.mv 71 (.t 10),.ix 72 (.t 70) (.t 71),.int 73 .i64 (.t 72),.bin 74 .add (.t 69) (.t 73),.bin 75 .sub (.t 74) (.c (I 48)),.mv 11 (.t 75)]) (.keep [0,1,4,7,8,10,11] (.reg [.mv 76 (.t 10),.bin 77 .add (.t 76) (.c (I 1)),.mv 10 (.t 77)]))))))
def qb1:Lp:=⟨[0,1,4,7,8,10,11],[(2,0)],JJ⟩
@[go_sem] theorem qH5:qb1.ls=[0,1,4,7,8,10,11]:=rfl
@[go_sem] theorem qH4:qb1.ks=[(2,0)]:=rfl
@[go_sem] theorem qH3:qb1.body=JJ:=rfl
def yz:AF where
 nargs:=2
 ntmps:=167
 res:=[.cell 4 true 5,.tmp 5]
 body:=(.seq (.reg [.new 4 (.c (.a [(I 0),(S []),(I 0),(I 0),(B false)])),.mv 5 (.c (I 0))]) (.seq (.reg [.mv 14 (.t 0),.mv 15 (.t 1),.ix 16 (.t 14) (.t 15),.mv 6 (.t 16)]) (.keep [0,1,4,6] (.seq (.reg [.mv 17 (.t 0),.mv 18 (.t 1),.mv 19 (.t 1),.bin 20 .add (.t 19) (.c (I 1)),.ssl 21 (.t 17) (some (.t 18)) (some (.t 20)),.mv 22 (.t 1),.build 23 (.a [(I 0),(S []),(I 0),(I 0),(B false)]) [(0,1,(.c (I 6))),(1,1,(.t 21)),(3,1,(.t 22))],.new 7 (.c (.a [(I 0),(S []),(I 0),(I 0),(B false)])),.st 5 (.t 7) (.t 23)]) (.keep [0,1,4,6,7] (.seq (.reg [.mv 24 (.t 1),.bin 25 .add (.t 24) (.c (I 1)),.mv 8 (.t 25)]) (.seq (.block 0 (.seq (.reg [.mv 27 (.t 6),.call (some 28) (.c (Fc qeG)) [(.t 27)] (.ro true),.mv 29 (.t 28),.gd 29 false (some 30) (.mv 30 (.t 6)),.gd 29 false (some 31) (.call (some 31) (.c (Fc qbw)) [(.t 30)] (.ro true)),.pick 32 (.t 29) (.c (B true)) (.t 31),.mv 26 (.t 32)]) (.keep [0,1,4,6,7,8,26] (.cond (.t 26) (.seq (.reg [.mv 33 (.t 0),.mv 34 (.t 1),.call (some 35) (.c (Fc qhq)) [(.t 33),(.t 34)] (.ro false),.mv 9 (.t 35)]) (.keep [0,1,4,6,7,8,9] (.seq (.reg [.mv 36 (.t 9),.mv 37 (.t 1),.bin 38 .sub (.t 36) (.t 37),.bin 39 .leq (.t 38) (.c (I 20))]) (.keep [0,1,4,6,7,8,9,39] (.cond (.t 39) (.seq (.reg [.fa 40 (.t 7) 0,.st 1 (.t 40) (.c (I 1))]) (.seq (.seq (.reg [.mv 41 (.t 6),.call (some 42) (.c (Fc qbw)) [(.t 41)] (.ro true)]) (.cond (.t 42) (.reg [.fa 43 (.t 7) 0,.st 1 (.t 43) (.c (I 2))]) .skip)) (.keep [0,1,4,7,9] (.seq (.reg [.mv 44 (.t 0),.mv 45 (.t 1),.mv 46 (.t 9),.ssl 47 (.t 44) (some (.t 45)) (some (.t 46)),.fa 48 (.t 7) 1,.st 1 (.t 48) (.t 47)]) (.keep [4,7,9] (.reg [.mv 49 (.t 9),.mv 8 (.t 49)])))))) .skip))))) (.seq (.reg [.mv 51 (.t 6),.call (some 52) (.c (Fc qbv)) [(.t 51)] (.ro true),.mv 50 (.t 52)]) (.cond (.t 50) (.seq (.reg [.mv 53 (.t 1),.mv 10 (.t 53)]) (.seq (.reg [.mv 11 (.c (I 0))]) (.seq (.block 1 (lpC qb1)) (.keep [1,4,7,8,10,11] (.seq (.reg [.mv 78 (.t 11),.bin 79 .leq (.t 78) (.c (I 999999999))]) (.cond (.t 79) (.seq (.reg [.mv 80 (.t 11),.mv 81 (.t 1),.build 82 (.a [(I 0),(S []),(I 0),(I 0),(B false)]) [(0,1,(.c (I 3))),(2,1,(.t 80)),(3,1,(.t 81))],.mv 83 (.t 10),.st 5 (.t 4) (.t 82),.mv 5 (.t 83)]) (.keep [4,5] .ret)) .skip)))))) (.seq (.reg [.mv 85 (.t 6),.bin 86 .eql (.t 85) (.c (U8 39)),.mv 84 (.t 86)]) (.cond (.t 84) (.seq (.reg [.mv 87 (.t 0),.mv 88 (.t 1),.call (some 89) (.c (Fc qhp)) [(.t 87),(.t 88)] (.ro false),.mv 12 (.t 89)]) (.keep [0,1,4,7,8,12] (.seq (.reg [.mv 90 (.t 12),.bin 91 .gtr (.t 90) (.c (I 0))]) (.cond (.t 91) (.seq (.reg [.mv 92 (.t 0),.mv 93 (.t 1),.bin 94 .add (.t 93) (.c (I 1)),.mv 95 (.t 12),.bin 96 .sub (.t 95) (.c (I 1)),.ssl 97 (.t 92) (some (.t 94)) (some (.t 96)),.mv 98 (.t 1),.build 99 (.a [(I 0),(S []),(I 0),(I 0),(B false)]) [(0,1,(.c (I 1))),(1,1,(.t 97)),(3,1,(.t 98))],.st 5 (.t 7) (.t 99)]) (.keep [4,7,12] (.reg [.mv 100 (.t 12),.mv 8 (.t 100)]))) .skip)))) (.seq (.reg [.mv 102 (.t 6),.bin 103 .eql (.t 102) (.c (U8 33)),.mv 104 (.t 103),.gd 104 false (some 105) (.mv 105 (.t 6)),.gd 104 false (some 106) (.bin 106 .eql (.t 105) (.c (U8 59))),.pick 107 (.t 104) (.c (B true)) (.t 106),.mv 101 (.t 107)]) (.keep [0,1,4,6,7,8,101] (.cond (.t 101) (.reg [.fa 108 (.t 7) 0,.st 1 (.t 108) (.c (I 1))]) (.seq (.reg [.mv 110 (.t 6),.bin 111 .eql (.t 110) (.c (U8 40)),.mv 112 (.t 111),.gd 112 false (some 113) (.mv 113 (.t 6)),.gd 112 false (some 114) (.bin 114 .eql (.t 113) (.c (U8 41))),.pick 115 (.t 112) (.c (B true)) (.t 114),.mv 116 (.t 115),.gd 116 false (some 117) (.mv 117 (.t 6)),.gd 116 false (some 118) (.bin 118 .eql (.t 117) (.c (U8 91))),.pick 119 (.t 116) (.c (B true)) (.t 118),.mv 120 (.t 119),.gd 120 false (some 121) (.mv 121 (.t 6)),.gd 120 false (some 122) (.bin 122 .eql (.t 121) (.c (U8 93))),.pick 123 (.t 120) (.c (B true)) (.t 122),.mv 124 (.t 123),.gd 124 false (some 125) (.mv 125 (.t 6)),.gd 124 false (some 126) (.bin 126 .eql (.t 125) (.c (U8 44))),.pick 127 (.t 124) (.c (B true)) (.t 126),.mv 128 (.t 127),.gd 128 false (some 129) (.mv 129 (.t 6)),.gd 128 false (some 130) (.bin 130 .eql (.t 129) (.c (U8 124))),.pick 131 (.t 128) (.c (B true)) (.t 130),.mv 109 (.t 131)]) (.keep [0,1,4,6,7,8,109] (.cond (.t 109) (.reg [.fa 132 (.t 7) 0,.st 1 (.t 132) (.c (I 4))]) (.seq (.reg [.mv 134 (.t 0),.mv 135 (.t 1),.call (some 136) (.c (Fc qho)) [(.t 134),(.t 135)] (.ro true),.mv 133 (.t 136)]) (.keep [0,1,4,6,7,8,133] (.cond (.t 133) (.reg [.fa 137 (.t 7) 0,.st 1 (.t 137) (.c (I 5))]) (.seq (.reg [.mv 139 (.t 6),.call (some 140) (.c (Fc qbo)) [(.t 139)] (.ro true),.mv 138 (.t 140)]) (.cond (.t 138) (.seq (.reg [.mv 141 (.t 1),.mv 13 (.t 141)]) (.seq (.block 3 (lpC qb0)) (.keep [0,1,4,7,8,13] (.seq (.reg [.mv 154 (.t 13),.mv 155 (.t 1),.bin 156 .sub (.t 154) (.t 155),.bin 157 .leq (.t 156) (.c (I 20))]) (.keep [0,1,4,7,8,13,157] (.cond (.t 157) (.seq (.reg [.fa 158 (.t 7) 0,.st 1 (.t 158) (.c (I 1))]) (.seq (.reg [.mv 159 (.t 0),.mv 160 (.t 1),.mv 161 (.t 13),.ssl 162 (.t 159) (some (.t 160)) (some (.t 161)),.fa 163 (.t 7) 1,.st 1 (.t 163) (.t 162)]) (.keep [4,7,13] (.reg [.mv 164 (.t 13),.mv 8 (.t 164)])))) .skip)))))) .skip))))))))))))))))))) (.keep [4,7,8] (.seq (.reg [.ld 165 true 5 (.t 7),.mv 166 (.t 8),.st 5 (.t 4) (.t 165),.mv 5 (.t 166)]) (.keep [4,5] .ret))))))))))
def JK:AC:=(.seq (.seq (.reg [.mv 7 (.t 1),.mv 8 (.t 0),.len 9 (.t 8),.bin 10 .lss (.t 7) (.t 9)]) (.keep [0,1,10] (.cond (.t 10) .skip (.keep [0] (.exit 0))))) (.keep [0,1] (.block 1 (.seq (.reg [.mv 11 (.t 1),.bin 12 .add (.t 11) (.c (I 1)),.mv 1 (.t 12)]) (.seq (.reg [.mv 13 (.t 0),.mv 14 (.t 1),.bin 15 .sub (.t 14) (.c (I 1)),.ia 16 5 (.t 13) (.t 15),.fa 17 (.t 16) 0,.ld 18 false 1 (.t 17),.bin 19 .eql (.t 18) (.c (I 5))]) (.keep [0,1,19] (.cond (.t 19) (.seq (.reg [.mv 20 (.t 1),.mv 4 (.t 20)]) (.keep [4] .ret)) .skip)))))))
def JE:Lp:=⟨[0,1],[(2,0)],JK⟩
@[go_sem] theorem qH8:JE.ls=[0,1]:=rfl
@[go_sem] theorem qH7:JE.ks=[(2,0)]:=rfl
@[go_sem] theorem qH6:JE.body=JK:=rfl
def Zv:AF where
 nargs:=2
 ntmps:=23
 res:=[.tmp 4]
 body:=(.seq (.reg [.mv 4 (.c (I 0))]) (.seq (.seq (.reg [.mv 5 (.t 1),.bin 6 .lss (.t 5) (.c (I 0))]) (.cond (.t 6) (.reg [.mv 1 (.c (I 0))]) .skip)) (.keep [0,1] (.seq (.block 0 (lpC JE)) (.keep [0] (.seq (.reg [.mv 21 (.t 0),.len 22 (.t 21),.mv 4 (.t 22)]) (.keep [4] .ret)))))))
def Yv:AC:=(.seq (.seq (.reg [.mv 39 (.t 0),.nilc 40 (.t 39),.fa 41 (.t 40) 2,.ld 42 false 1 (.t 41),.un 43 .not (.t 42)]) (.keep [0,1,4,5,6,43] (.cond (.t 43) .skip (.keep [0,4,5] (.exit 0))))) (.keep [0,1,4,5,6] (.block 1 (.seq (.reg [.mv 45 (.t 0),.call (some 46) (.c (Fc qeH)) [(.t 45)] (.ro false),.mv 44 (.t 46),.ext 47 (.t 44) 0,.ext 48 (.t 44) 1,.new 7 (.c (.a [(S []),(I 0),(I 0),(I 0)])),.st 4 (.t 7) (.t 47),.mv 8 (.t 48)]) (.keep [0,1,4,5,6,7,8] (.seq (.seq (.reg [.mv 49 (.t 8),.un 50 .not (.t 49),.mv 51 (.t 50),.gd 51 false (some 52) (.fa 52 (.t 7) 1),.gd 51 false (some 53) (.ld 53 false 1 (.t 52)),.gd 51 false (some 54) (.mv 54 (.t 1)),.gd 51 false (some 55) (.bin 55 .gtr (.t 53) (.t 54)),.pick 56 (.t 51) (.c (B true)) (.t 55),.mv 57 (.t 56),.gd 57 false (some 58) (.fa 58 (.t 7) 2),.gd 57 false (some 59) (.ld 59 false 1 (.t 58)),.gd 57 false (some 60) (.mv 60 (.t 6)),.gd 57 false (some 61) (.bin 61 .lss (.t 59) (.t 60)),.pick 62 (.t 57) (.c (B true)) (.t 61)]) (.keep [0,1,4,5,7,62] (.cond (.t 62) (.keep [0,4,5] (.exit 0)) .skip))) (.keep [0,1,4,5,7] (.seq (.reg [.mv 63 (.t 0),.mv 64 (.t 0),.nilc 65 (.t 64),.fa 66 (.t 65) 1,.ld 67 false 1 (.t 66),.bin 68 .add (.t 67) (.c (I 1)),.nilc 69 (.t 63),.fa 70 (.t 69) 1,.st 1 (.t 70) (.t 68)]) (.keep [0,1,4,5,7] (.seq (.reg [.mv 71 (.t 0),.fa 72 (.t 7) 3,.ld 73 false 1 (.t 72),.call (some 74) (.c (Fc yc)) [(.t 71),(.t 73)] (.io false),.new 9 (.c (.a [(I 0),(S []),(I 0),(.n 4)])),.st 4 (.t 9) (.t 74)]) (.keep [0,1,4,5,7,9] (.seq (.reg [.fa 75 (.t 7) 0,.ld 76 false 1 (.t 75),.ld 77 true 4 (.t 5),.ld 78 true 4 (.t 9),.call (some 79) (.c (Fc Yq)) [(.t 76),(.t 77),(.t 78)] (.io false),.st 4 (.t 5) (.t 79)]) (.keep [0,1,4,5,7] (.reg [.fa 80 (.t 7) 1,.ld 81 false 1 (.t 80),.mv 6 (.t 81)]))))))))))))))
def QR:Lp:=⟨[0,1,4,5,6],[(2,0)],Yv⟩
@[go_sem] theorem qIk:QR.ls=[0,1,4,5,6]:=rfl
@[go_sem] theorem qIj:QR.ks=[(2,0)]:=rfl
@[go_sem] theorem qIi:QR.body=Yv:=rfl
def Qc:AF where
 nargs:=2
 ntmps:=91
 res:=[.cell 4 true 4]
 body:=(.seq (.reg [.new 4 (.c (.a [(I 0),(S []),(I 0),(.n 4)]))]) (.seq (.reg [.mv 10 (.t 0),.mv 11 (.t 0),.nilc 12 (.t 11),.fa 13 (.t 12) 3,.ld 14 false 1 (.t 13),.bin 15 .add (.t 14) (.c (I 1)),.nilc 16 (.t 10),.fa 17 (.t 16) 3,.st 1 (.t 17) (.t 15)]) (.keep [0,1,4] (.seq (.seq (.reg [.mv 18 (.t 0),.nilc 19 (.t 18),.fa 20 (.t 19) 2,.ld 21 false 1 (.t 20),.mv 22 (.t 21),.gd 22 false (some 23) (.mv 23 (.t 0)),.gd 22 false (some 24) (.nilc 24 (.t 23)),.gd 22 false (some 25) (.fa 25 (.t 24) 3),.gd 22 false (some 26) (.ld 26 false 1 (.t 25)),.gd 22 false (some 27) (.bin 27 .gtr (.t 26) (.c (I 130))),.pick 28 (.t 22) (.c (B true)) (.t 27)]) (.keep [0,1,4,28] (.cond (.t 28) (.seq (.reg [.mv 29 (.t 0),.nilc 30 (.t 29),.fa 31 (.t 30) 2,.st 1 (.t 31) (.c (B true))]) (.keep [0,4] (.seq (.reg [.build 32 (.a [(I 0),(S []),(I 0),(.n 4)]) [],.st 4 (.t 4) (.t 32)]) (.keep [0,4] .ret)))) .skip))) (.keep [0,1,4] (.seq (.reg [.mv 34 (.t 0),.mv 35 (.t 1),.call (some 36) (.c (Fc Qg)) [(.t 34),(.t 35)] (.io false),.mv 33 (.t 36),.ext 37 (.t 33) 0,.ext 38 (.t 33) 1,.new 5 (.c (.a [(I 0),(S []),(I 0),(.n 4)])),.st 4 (.t 5) (.t 37),.mv 6 (.t 38)]) (.keep [0,1,4,5,6] (.seq (.block 0 (lpC QR)) (.keep [0,4,5] (.seq (.reg [.mv 82 (.t 0),.mv 83 (.t 0),.nilc 84 (.t 83),.fa 85 (.t 84) 3,.ld 86 false 1 (.t 85),.bin 87 .sub (.t 86) (.c (I 1)),.nilc 88 (.t 82),.fa 89 (.t 88) 3,.st 1 (.t 89) (.t 87)]) (.keep [0,4,5] (.seq (.reg [.ld 90 true 4 (.t 5),.st 4 (.t 4) (.t 90)]) (.keep [0,4] .ret)))))))))))))
def QJ:AF where
 nargs:=3
 ntmps:=58
 res:=[.tmp 6]
 body:=(.seq (.reg [.mv 6 (.c (B false))]) (.seq (.dreg [⟨0,[]⟩,⟨0,[]⟩,⟨0,[]⟩,⟨0,[(0,0),(0,1),(0,2),(0,3)]⟩,⟨0,[]⟩,⟨0,[]⟩,⟨0,[]⟩,⟨0,[]⟩,⟨0,[]⟩,⟨0,[(0,0),(0,1),(0,2),(0,3)]⟩,⟨0,[]⟩,⟨0,[]⟩,⟨0,[]⟩,⟨0,[(0,0),(0,1),(0,2),(0,3)]⟩,⟨0,[(0,0),(0,1),(0,2),(0,3),(20,0)]⟩,⟨0,[]⟩,⟨0,[]⟩,⟨0,[]⟩,⟨0,[]⟩,⟨0,[]⟩,⟨0,[]⟩,⟨0,[(0,0),(0,1),(0,2),(0,3)]⟩,⟨0,[]⟩,⟨0,[]⟩,⟨0,[]⟩,⟨0,[(0,0),(0,1),(0,2),(0,3)]⟩,⟨0,[(0,0),(0,1),(0,2),(0,3),(28,0),(32,0)]⟩,⟨0,[]⟩,⟨0,[(0,0),(0,1),(0,2),(0,3),(28,0),(32,0)]⟩,⟨0,[]⟩,⟨0,[]⟩,⟨0,[]⟩,⟨0,[]⟩,⟨0,[]⟩,⟨0,[]⟩,⟨0,[]⟩,⟨0,[]⟩,⟨0,[]⟩,⟨0,[]⟩,⟨0,[(0,0),(0,1),(0,2),(0,3)]⟩,⟨0,[]⟩,⟨0,[]⟩,⟨0,[]⟩,⟨0,[(0,0),(0,1),(0,2),(0,3)]⟩,⟨0,[(0,0),(0,1),(0,2),(0,3),(46,0),(50,0)]⟩,⟨0,[]⟩,⟨0,[(0,0),(0,1),(0,2),(0,3),(46,0),(50,0)]⟩,⟨0,[]⟩,⟨0,[]⟩,⟨0,[]⟩,⟨0,[]⟩,⟨0,[]⟩] [.mv 7 (.t 0),.nilc 8 (.t 7),.fa 9 (.t 8) 2,.ldq 10 false 1 (.t 9),.un 11 .not (.t 10),.mv 12 (.t 11),.gd 12 true (some 13) (.mv 13 (.t 0)),.gd 12 true (some 14) (.nilc 14 (.t 13)),.gd 12 true (some 15) (.fa 15 (.t 14) 1),.gd 12 true (some 16) (.ldq 16 false 1 (.t 15)),.gd 12 true (some 17) (.mv 17 (.t 0)),.gd 12 true (some 18) (.nilc 18 (.t 17)),.gd 12 true (some 19) (.fa 19 (.t 18) 0),.gd 12 true (some 20) (.ldq 20 false 1 (.t 19)),.gd 12 true (some 21) (.len 21 (.t 20)),.gd 12 true (some 22) (.bin 22 .lss (.t 16) (.t 21)),.pick 23 (.t 12) (.t 22) (.c (B false)),.mv 24 (.t 23),.gd 24 true (some 25) (.mv 25 (.t 0)),.gd 24 true (some 26) (.nilc 26 (.t 25)),.gd 24 true (some 27) (.fa 27 (.t 26) 0),.gd 24 true (some 28) (.ldq 28 false 1 (.t 27)),.gd 24 true (some 29) (.mv 29 (.t 0)),.gd 24 true (some 30) (.nilc 30 (.t 29)),.gd 24 true (some 31) (.fa 31 (.t 30) 1),.gd 24 true (some 32) (.ldq 32 false 1 (.t 31)),.gd 24 true (some 33) (.ia 33 5 (.t 28) (.t 32)),.gd 24 true (some 34) (.fa 34 (.t 33) 0),.gd 24 true (some 35) (.ldq 35 false 1 (.t 34)),.gd 24 true (some 36) (.mv 36 (.t 1)),.gd 24 true (some 37) (.bin 37 .eql (.t 35) (.t 36)),.pick 38 (.t 24) (.t 37) (.c (B false)),.mv 39 (.t 38),.gd 39 true (some 40) (.mv 40 (.t 2)),.gd 39 true (some 41) (.bin 41 .eql (.t 40) (.c (S []))),.gd 39 true (some 42) (.mv 42 (.t 41)),.gd 42 false (some 43) (.mv 43 (.t 0)),.gd 42 false (some 44) (.nilc 44 (.t 43)),.gd 42 false (some 45) (.fa 45 (.t 44) 0),.gd 42 false (some 46) (.ldq 46 false 1 (.t 45)),.gd 42 false (some 47) (.mv 47 (.t 0)),.gd 42 false (some 48) (.nilc 48 (.t 47)),.gd 42 false (some 49) (.fa 49 (.t 48) 1),.gd 42 false (some 50) (.ldq 50 false 1 (.t 49)),.gd 42 false (some 51) (.ia 51 5 (.t 46) (.t 50)),.gd 42 false (some 52) (.fa 52 (.t 51) 1),.gd 42 false (some 53) (.ldq 53 false 1 (.t 52)),.gd 42 false (some 54) (.mv 54 (.t 2)),.gd 42 false (some 55) (.bin 55 .eql (.t 53) (.t 54)),.gd 39 true (some 56) (.pick 56 (.t 42) (.c (B true)) (.t 55)),.pick 57 (.t 39) (.t 56) (.c (B false)),.mv 6 (.t 57)]) (.keep [6] .ret)))
def K7:AF where
 nargs:=0
 ntmps:=2
 res:=[.tmp 0]
 body:=(.seq (.reg [.mv 0 (.c (.n 1))]) (.seq (.reg [.mks 1 1 [(.c (S [112,40,97,41])),(.c (S [112,40,98,41])),(.c (S [112,40,99,41])),(.c (S [113,40,88,41,32,58,45,32,112,40,88,41])),(.c (S [113,40,122,41])),(.c (S [114,40,88,44,32,89,41,32,58,45,32,112,40,88,41,44,32,113,40,89,41])),(.c (S [97,112,112,40,91,93,44,32,76,44,32,76,41])),(.c (S [97,112,112,40,91,72,124,84,93,44,32,76,44,32,91,72,124,82,93,41,32,58,45,32,97,112,112,40,84,44,32,76,44,32,82,41])),(.c (S [108,101,110,40,91,93,44,32,48,41])),(.c (S [108,101,110,40,91,95,124,84,93,44,32,78,41,32,58,45,32,108,101,110,40,84,44,32,77,41,44,32,78,32,105,115,32,77,32,43,32,49])),(.c (S [115,40,88,41,32,58,45,32,112,40,88,41,44,32,33])),(.c (S [115,40,122,41])),(.c (S [116,40,88,41,32,58,45,32,40,112,40,88,41,32,45,62,32,116,114,117,101,32,59,32,88,32,61,32,110,111,110,101,41])),(.c (S [117,40,88,41,32,58,45,32,92,43,32,112,40,88,41])),(.c (S [119,40,88,41,32,58,45,32,112,40,88,41,44,32,119,114,105,116,101,40,88,41])),(.c (S [99,40,88,41,32,58,45,32,99,97,116,99,104,40,112,40,88,41,44,32,95,44,32,116,114,117,101,41])),(.c (S [101,40,88,41,32,58,45,32,99,97,116,99,104,40,116,104,114,111,119,40,88,41,44,32,89,44,32,119,114,105,116,101,40,89,41,41])),(.c (S [110,40,88,41,32,58,45,32,88,32,105,115,32,51,32,47,47,32,48])),(.c (S [109,40,88,41,32,58,45,32,99,97,116,99,104,40,110,40,88,41,44,32,101,114,114,111,114,40,69,44,32,95,41,44,32,40,88,32,61,32,69,41,41])),(.c (S [97,100,100,40,88,41,32,58,45,32,97,115,115,101,114,116,122,40,112,40,88,41,41])),(.c (S [100,101,108,40,88,41,32,58,45,32,114,101,116,114,97,99,116,40,112,40,88,41,41])),(.c (S [108,111,111,112,32,58,45,32,108,111,111,112])),(.c (S [118,40,88,41,32,58,45,32,99,97,108,108,40,112,44,32,88,41])),(.c (S [100,40,88,44,32,89,41,32,58,45,32,88,32,61,32,89,32,59,32,89,32,61,32,98])),(.c (S [103,40,102,40,88,41,44,32,88,41])),(.c (S [103,40,104,40,88,41,44,32,88,41])),(.c (S [103,40,49,44,32,111,110,101,41])),(.c (S [107,40,88,41,32,58,45,32,117,110,107,110,111,119,110,40,88,41])),(.c (S [121,40,88,41,32,58,45,32,112,40,88,41,44,32,97,115,115,101,114,116,122,40,112,40,100,41,41,44,32,88,32,61,32,98]))],.mv 0 (.t 1)]) (.keep [0] .ret)))
def KP:AF where
 nargs:=2
 ntmps:=37
 res:=[.tmp 4]
 body:=(.seq (.reg [.mv 4 (.c (I 0))]) (.seq (.seq (.reg [.mv 9 (.t 1),.bin 10 .leq (.t 9) (.c (I 0))]) (.cond (.t 10) (.seq (.reg [.mv 4 (.c (I 0))]) (.keep [0,4] .ret)) .skip)) (.keep [0,1] (.seq (.seq (.reg [.mv 11 (.t 1),.bin 12 .leq (.t 11) (.c (I 256))]) (.cond (.t 12) (.seq (.reg [.mv 13 (.t 0),.call (some 14) (.c (Fc Xr)) [(.t 13)] (.io false),.mv 15 (.t 1),.bin 16 .rem (.t 14) (.t 15),.mv 4 (.t 16)]) (.keep [0,4] .ret)) .skip)) (.keep [0,1] (.seq (.reg [.mv 17 (.t 0),.call (some 18) (.c (Fc Xr)) [(.t 17)] (.io false),.mv 5 (.t 18)]) (.seq (.reg [.mv 19 (.t 0),.call (some 20) (.c (Fc Xr)) [(.t 19)] (.io false),.mv 6 (.t 20)]) (.seq (.reg [.mv 21 (.t 0),.call (some 22) (.c (Fc Xr)) [(.t 21)] (.io false),.mv 7 (.t 22)]) (.seq (.reg [.mv 23 (.t 0),.call (some 24) (.c (Fc Xr)) [(.t 23)] (.io false),.mv 8 (.t 24)]) (.seq (.reg [.mv 25 (.t 5),.bin 26 .mul (.t 25) (.c (I 16777216)),.mv 27 (.t 6),.bin 28 .mul (.t 27) (.c (I 65536)),.bin 29 .add (.t 26) (.t 28),.mv 30 (.t 7),.bin 31 .mul (.t 30) (.c (I 256)),.bin 32 .add (.t 29) (.t 31),.mv 33 (.t 8),.bin 34 .add (.t 32) (.t 33),.mv 35 (.t 1),.bin 36 .rem (.t 34) (.t 35),.mv 4 (.t 36)]) (.keep [0,4] .ret)))))))))))
def Y8:AF where
 nargs:=2
 ntmps:=17
 res:=[.cell 4 true 2,.tmp 5]
 body:=(.seq (.reg [.new 2 (.t 0),.new 3 (.t 1),.new 4 (.c (.a [(.n 9),(.n 1)])),.mv 5 (.c (B false))]) (.keep [2,3,4] (.seq (.reg [.ld 9 true 2 (.t 2),.ld 10 true 9 (.t 3),.call (some 11) (.c (Fc qhw)) [(.t 9),(.t 10)] (.ro false),.mv 8 (.t 11),.ext 12 (.t 8) 0,.ext 13 (.t 8) 1,.new 6 (.c (.a [(.n 9),(.n 1)])),.st 2 (.t 6) (.t 12),.mv 7 (.t 13)]) (.keep [4,6,7] (.seq (.reg [.ld 14 true 2 (.t 6),.call (some 15) (.c (Fc qeN)) [(.t 14)] (.ro false),.mv 16 (.t 7),.st 2 (.t 4) (.t 15),.mv 5 (.t 16)]) (.keep [4,5] .ret))))))
def KT:AF where
 nargs:=2
 ntmps:=9
 res:=[.tmp 4]
 body:=(.seq (.reg [.mv 4 (.c (B false))]) (.seq (.reg [.mv 5 (.t 0),.mv 6 (.t 1),.call (some 7) (.c (Fc kK)) [(.t 5),(.t 6)] (.io false),.bin 8 .eql (.t 7) (.c (I 0)),.mv 4 (.t 8)]) (.keep [0,4] .ret)))
def KO:AF where
 nargs:=2
 ntmps:=11
 res:=[.cell 4 true 2]
 body:=(.seq (.reg [.new 2 (.t 0),.new 4 (.c (.a [(.n 9),(.n 1)]))]) (.seq (.reg [.ld 6 true 2 (.t 2),.mv 7 (.t 1),.call (some 8) (.c (Fc qhC)) [(.t 6),(.t 7)] (.ro false),.new 5 (.c (.a [(.n 9),(.n 1)])),.st 2 (.t 5) (.t 8)]) (.keep [4,5] (.seq (.reg [.ld 9 true 2 (.t 5),.call (some 10) (.c (Fc qeN)) [(.t 9)] (.ro false),.st 2 (.t 4) (.t 10)]) (.keep [4] .ret)))))
def Kw:AF where
 nargs:=3
 ntmps:=23
 res:=[.tmp 6]
 body:=(.seq (.reg [.new 3 (.t 0),.mv 6 (.c (B false))]) (.seq (.reg [.fa 7 (.t 3) 0,.ld 8 false 1 (.t 7),.bin 9 .eql (.t 8) (.c (I 4)),.mv 10 (.t 9),.gd 10 true (some 11) (.fa 11 (.t 3) 1),.gd 10 true (some 12) (.ld 12 false 1 (.t 11)),.gd 10 true (some 13) (.mv 13 (.t 1)),.gd 10 true (some 14) (.bin 14 .eql (.t 12) (.t 13)),.pick 15 (.t 10) (.t 14) (.c (B false)),.mv 16 (.t 15),.gd 16 true (some 17) (.fa 17 (.t 3) 3),.gd 16 true (some 18) (.ld 18 false 1 (.t 17)),.gd 16 true (some 19) (.len 19 (.t 18)),.gd 16 true (some 20) (.mv 20 (.t 2)),.gd 16 true (some 21) (.bin 21 .eql (.t 19) (.t 20)),.pick 22 (.t 16) (.t 21) (.c (B false)),.mv 6 (.t 22)]) (.keep [6] .ret)))
def KY:AF where
 nargs:=3
 ntmps:=23
 res:=[.tmp 6]
 body:=(.seq (.reg [.new 3 (.t 0),.mv 6 (.c (B false))]) (.seq (.reg [.fa 7 (.t 3) 0,.ld 8 false 1 (.t 7),.bin 9 .eql (.t 8) (.c (I 4)),.mv 10 (.t 9),.gd 10 true (some 11) (.fa 11 (.t 3) 1),.gd 10 true (some 12) (.ld 12 false 1 (.t 11)),.gd 10 true (some 13) (.mv 13 (.t 1)),.gd 10 true (some 14) (.bin 14 .eql (.t 12) (.t 13)),.pick 15 (.t 10) (.t 14) (.c (B false)),.mv 16 (.t 15),.gd 16 true (some 17) (.fa 17 (.t 3) 3),.gd 16 true (some 18) (.ld 18 false 1 (.t 17)),.gd 16 true (some 19) (.len 19 (.t 18)),.gd 16 true (some 20) (.mv 20 (.t 2)),.gd 16 true (some 21) (.bin 21 .eql (.t 19) (.t 20)),.pick 22 (.t 16) (.t 21) (.c (B false)),.mv 6 (.t 22)]) (.keep [6] .ret)))
def Xk:AF where
 nargs:=1
 ntmps:=13
 res:=[.tmp 2]
 body:=(.seq (.reg [.new 1 (.t 0),.mv 2 (.c (B false))]) (.seq (.reg [.ld 4 true 4 (.t 1),.call (some 5) (.c (Fc qhj)) [(.t 4)] (.ro false),.mv 3 (.t 5)]) (.seq (.reg [.mv 6 (.t 3),.bin 7 .neq (.t 6) (.c (S [])),.mv 8 (.t 7),.gd 8 true (some 9) (.mv 9 (.t 3)),.gd 8 true (some 10) (.call (some 10) (.c (Fc qhg)) [(.t 9)] (.ro false)),.gd 8 true (some 11) (.un 11 .not (.t 10)),.pick 12 (.t 8) (.t 11) (.c (B false)),.mv 2 (.t 12)]) (.keep [2] .ret))))
def qkQ:AC:=(.seq (.seq (.reg [.mv 6 (.t 5),.mv 7 (.t 0),.len 8 (.t 7),.bin 9 .lss (.t 6) (.t 8)]) (.keep [0,1,5,9] (.cond (.t 9) .skip (.keep [] (.exit 0))))) (.keep [0,1,5] (.seq (.block 1 (.seq (.reg [.mv 12 (.t 0),.mv 13 (.t 5),.ia 14 1 (.t 12) (.t 13),.ld 15 false 1 (.t 14),.mv 16 (.t 1),.bin 17 .eql (.t 15) (.t 16)]) (.keep [0,1,5,17] (.cond (.t 17) (.seq (.reg [.mv 18 (.t 5),.mv 4 (.t 18)]) (.keep [4] .ret)) .skip)))) (.keep [0,1,5] (.reg [.mv 10 (.t 5),.bin 11 .add (.t 10) (.c (I 1)),.mv 5 (.t 11)])))))
def qe4:Lp:=⟨[0,1,5],[(2,0)],qkQ⟩
@[go_sem] theorem qHB:qe4.ls=[0,1,5]:=rfl
@[go_sem] theorem qHA:qe4.ks=[(2,0)]:=rfl
@[go_sem] theorem qHz:qe4.body=qkQ:=rfl
def qdW:AF where
 nargs:=2
 ntmps:=19
 res:=[.tmp 4]
 body:=(.seq (.reg [.mv 4 (.c (I 0))]) (.seq (.seq (.reg [.mv 5 (.c (I 0))]) (.block 0 (lpC qe4))) (.keep [] (.seq (.reg [.mv 4 (.c (I (-1)))]) (.keep [4] .ret)))))
def qkS:AC:=(.seq (.seq (.reg [.mv 21 (.t 5),.fa 22 (.t 2) 3,.ld 23 false 1 (.t 22),.len 24 (.t 23),.bin 25 .lss (.t 21) (.t 24)]) (.keep [1,2,5,25] (.cond (.t 25) .skip (.keep [1] (.exit 0))))) (.keep [1,2,5] (.seq (.block 1 (.reg [.fa 28 (.t 2) 3,.ld 29 false 1 (.t 28),.mv 30 (.t 5),.ia 31 4 (.t 29) (.t 30),.ld 32 true 4 (.t 31),.mv 33 (.t 1),.call (some 34) (.c (Fc qkw)) [(.t 32),(.t 33)] (.io false),.mv 1 (.t 34)])) (.keep [1,2,5] (.reg [.mv 26 (.t 5),.bin 27 .add (.t 26) (.c (I 1)),.mv 5 (.t 27)])))))
def qe6:Lp:=⟨[1,2,5],[(0,0)],qkS⟩
@[go_sem] theorem qHT:qe6.ls=[1,2,5]:=rfl
@[go_sem] theorem qHS:qe6.ks=[(0,0)]:=rfl
@[go_sem] theorem qHR:qe6.body=qkS:=rfl
def qdZ:AF where
 nargs:=2
 ntmps:=36
 res:=[.tmp 4]
 body:=(.seq (.reg [.new 2 (.t 0),.mv 4 (.c (.n 1))]) (.seq (.seq (.reg [.fa 6 (.t 2) 0,.ld 7 false 1 (.t 6),.bin 8 .eql (.t 7) (.c (I 1)),.mv 9 (.t 8),.gd 9 true (some 10) (.mv 10 (.t 1)),.gd 9 true (some 11) (.fa 11 (.t 2) 2),.gd 9 true (some 12) (.ld 12 false 1 (.t 11)),.gd 9 true (some 13) (.call (some 13) (.c (Fc qqP)) [(.t 10),(.t 12)] (.ro true)),.gd 9 true (some 14) (.un 14 .not (.t 13)),.pick 15 (.t 9) (.t 14) (.c (B false))]) (.keep [1,2,15] (.cond (.t 15) (.reg [.mv 16 (.t 1),.fa 17 (.t 2) 2,.ld 18 false 1 (.t 17),.mks 19 1 [(.t 18)],.app 20 1 8 (.t 16) (.t 19),.mv 1 (.t 20)]) .skip))) (.keep [1,2] (.seq (.seq (.reg [.mv 5 (.c (I 0))]) (.block 0 (lpC qe6))) (.keep [1] (.seq (.reg [.mv 35 (.t 1),.mv 4 (.t 35)]) (.keep [4] .ret)))))))
def Xf:AF where
 nargs:=3
 ntmps:=12
 res:=[.cell 6 true 4]
 body:=(.seq (.reg [.new 4 (.t 1),.new 5 (.t 2),.new 6 (.c (.a [(I 0),(S []),(I 0),(.n 4)]))]) (.seq (.reg [.mv 7 (.t 0),.ld 8 true 4 (.t 4),.ld 9 true 4 (.t 5),.mks 10 4 [(.t 8),(.t 9)],.build 11 (.a [(I 0),(S []),(I 0),(.n 4)]) [(0,1,(.c (I 4))),(1,1,(.t 7)),(3,1,(.t 10))],.st 4 (.t 6) (.t 11)]) (.keep [6] .ret)))
def qfp:AC:=(.seq (.seq (.reg [.mv 6 (.t 4),.mv 7 (.t 0),.len 8 (.t 7),.bin 9 .lss (.t 6) (.t 8)]) (.keep [0,3,4,9] (.cond (.t 9) .skip (.keep [3] (.exit 0))))) (.keep [0,3,4] (.seq (.block 1 (.reg [.mv 12 (.t 3),.mv 13 (.t 0),.mv 14 (.t 4),.ia 15 4 (.t 13) (.t 14),.ld 16 true 4 (.t 15),.call (some 17) (.c (Fc Yr)) [(.t 16)] (.ro false),.mks 18 4 [(.t 17)],.app 19 4 56 (.t 12) (.t 18),.mv 3 (.t 19)])) (.keep [0,3,4] (.reg [.mv 10 (.t 4),.bin 11 .add (.t 10) (.c (I 1)),.mv 4 (.t 11)])))))
def qb6:Lp:=⟨[0,3,4],[(1,0)],qfp⟩
@[go_sem] theorem qIO:qb6.ls=[0,3,4]:=rfl
@[go_sem] theorem qIN:qb6.ks=[(1,0)]:=rfl
@[go_sem] theorem qIM:qb6.body=qfp:=rfl
def Jf:AF where
 nargs:=1
 ntmps:=21
 res:=[.tmp 2]
 body:=(.seq (.reg [.mv 2 (.c (.n 4))]) (.seq (.reg [.mks 5 4 [],.mv 3 (.t 5)]) (.seq (.seq (.reg [.mv 4 (.c (I 0))]) (.block 0 (lpC qb6))) (.keep [3] (.seq (.reg [.mv 20 (.t 3),.mv 2 (.t 20)]) (.keep [2] .ret))))))
def qck:AC:=(.seq (.seq (.reg [.mv 8 (.t 5),.fa 9 (.t 2) 3,.ld 10 false 1 (.t 9),.len 11 (.t 10),.bin 12 .lss (.t 8) (.t 11),.mv 13 (.t 12),.gd 13 true (some 14) (.mv 14 (.t 1)),.gd 13 true (some 15) (.bin 15 .geq (.t 14) (.c (I 0))),.pick 16 (.t 13) (.t 15) (.c (B false))]) (.keep [1,2,5,16] (.cond (.t 16) .skip (.keep [1] (.exit 0))))) (.keep [1,2,5] (.seq (.block 1 (.reg [.fa 19 (.t 2) 3,.ld 20 false 1 (.t 19),.mv 21 (.t 5),.ia 22 4 (.t 20) (.t 21),.ld 23 true 4 (.t 22),.mv 24 (.t 1),.call (some 25) (.c (Fc qbp)) [(.t 23),(.t 24)] (.ro false),.mv 1 (.t 25)])) (.keep [1,2,5] (.reg [.mv 17 (.t 5),.bin 18 .add (.t 17) (.c (I 1)),.mv 5 (.t 18)])))))
def JB:Lp:=⟨[1,2,5],[(2,0)],qck⟩
@[go_sem] theorem qHE:JB.ls=[1,2,5]:=rfl
@[go_sem] theorem qHD:JB.ks=[(2,0)]:=rfl
@[go_sem] theorem qHC:JB.body=qck:=rfl
def KX:AF where
 nargs:=2
 ntmps:=27
 res:=[.tmp 4]
 body:=(.seq (.reg [.new 2 (.t 0),.mv 4 (.c (I 0))]) (.seq (.reg [.mv 6 (.t 1),.bin 7 .sub (.t 6) (.c (I 1)),.mv 1 (.t 7)]) (.seq (.seq (.reg [.mv 5 (.c (I 0))]) (.block 0 (lpC JB))) (.keep [1] (.seq (.reg [.mv 26 (.t 1),.mv 4 (.t 26)]) (.keep [4] .ret))))))
def qcm:AC:=(.seq (.seq (.reg [.mv 13 (.t 5),.fa 14 (.t 2) 3,.ld 15 false 1 (.t 14),.len 16 (.t 15),.bin 17 .lss (.t 13) (.t 16)]) (.keep [1,2,5,17] (.cond (.t 17) .skip (.keep [] (.exit 0))))) (.keep [1,2,5] (.seq (.block 1 (.seq (.reg [.fa 20 (.t 2) 3,.ld 21 false 1 (.t 20),.mv 22 (.t 5),.ia 23 4 (.t 21) (.t 22),.ld 24 true 4 (.t 23),.mv 25 (.t 1),.bin 26 .add (.t 25) (.c (I 1)),.call (some 27) (.c (Fc qbt)) [(.t 24),(.t 26)] (.ro true),.un 28 .not (.t 27)]) (.keep [1,2,5,28] (.cond (.t 28) (.seq (.reg [.mv 4 (.c (B false))]) (.keep [4] .ret)) .skip)))) (.keep [1,2,5] (.reg [.mv 18 (.t 5),.bin 19 .add (.t 18) (.c (I 1)),.mv 5 (.t 19)])))))
def JD:Lp:=⟨[1,2,5],[(2,0)],qcm⟩
@[go_sem] theorem qHQ:JD.ls=[1,2,5]:=rfl
@[go_sem] theorem qHP:JD.ks=[(2,0)]:=rfl
@[go_sem] theorem qHO:JD.body=qcm:=rfl
def Zu:AF where
 nargs:=2
 ntmps:=29
 res:=[.tmp 4]
 body:=(.seq (.reg [.new 2 (.t 0),.mv 4 (.c (B false))]) (.seq (.seq (.reg [.mv 6 (.t 1),.bin 7 .gtr (.t 6) (.c (I 40)),.mv 8 (.t 7),.gd 8 false (some 9) (.ld 9 true 4 (.t 2)),.gd 8 false (some 10) (.call (some 10) (.c (Fc qhn)) [(.t 9)] (.ro true)),.gd 8 false (some 11) (.un 11 .not (.t 10)),.pick 12 (.t 8) (.c (B true)) (.t 11)]) (.keep [1,2,12] (.cond (.t 12) (.seq (.reg [.mv 4 (.c (B false))]) (.keep [4] .ret)) .skip))) (.keep [1,2] (.seq (.seq (.reg [.mv 5 (.c (I 0))]) (.block 0 (lpC JD))) (.keep [] (.seq (.reg [.mv 4 (.c (B true))]) (.keep [4] .ret)))))))
def JI:AC:=(.seq (.seq (.reg [.mv 10 (.t 0),.bin 11 .neq (.t 10) (.c (I 0))]) (.cond (.t 11) .skip (.keep [3,4] (.exit 0)))) (.keep [0,3,4] (.block 1 (.seq (.reg [.mv 12 (.t 0),.bin 13 .rem (.t 12) (.c (I 10)),.mv 5 (.t 13)]) (.seq (.seq (.reg [.mv 14 (.t 5),.bin 15 .lss (.t 14) (.c (I 0))]) (.cond (.t 15) (.reg [.mv 16 (.t 5),.un 17 .neg (.t 16),.mv 5 (.t 17)]) .skip)) (.keep [0,3,4,5] (.seq (.reg [.mv 18 (.t 5),.call (some 19) (.c (Fc qhk)) [(.t 18)] (.ro false),.mks 20 1 [(.t 19)],.str 21 (.t 20),.mv 22 (.t 4),.bin 23 .add (.t 21) (.t 22),.mv 4 (.t 23)]) (.keep [0,3,4] (.reg [.mv 24 (.t 0),.bin 25 .quo (.t 24) (.c (I 10)),.mv 0 (.t 25)])))))))))
def qbR:Lp:=⟨[0,3,4],[(1,0)],JI⟩
@[go_sem] theorem qHg:qbR.ls=[0,3,4]:=rfl
@[go_sem] theorem qHf:qbR.ks=[(1,0)]:=rfl
@[go_sem] theorem qHe:qbR.body=JI:=rfl
def Yc:AF where
 nargs:=1
 ntmps:=30
 res:=[.tmp 2]
 body:=(.seq (.reg [.mv 2 (.c (S []))]) (.seq (.seq (.reg [.mv 6 (.t 0),.bin 7 .eql (.t 6) (.c (I 0))]) (.cond (.t 7) (.seq (.reg [.mv 2 (.c (S [48]))]) (.keep [2] .ret)) .skip)) (.keep [0] (.seq (.reg [.mv 8 (.t 0),.bin 9 .lss (.t 8) (.c (I 0)),.mv 3 (.t 9)]) (.seq (.reg [.mv 4 (.c (S []))]) (.seq (.block 0 (lpC qbR)) (.keep [3,4] (.seq (.seq (.reg [.mv 26 (.t 3)]) (.cond (.t 26) (.seq (.reg [.mv 27 (.t 4),.bin 28 .add (.c (S [45])) (.t 27),.mv 2 (.t 28)]) (.keep [2] .ret)) .skip)) (.keep [4] (.seq (.reg [.mv 29 (.t 4),.mv 2 (.t 29)]) (.keep [2] .ret)))))))))))
def qd0:AF where
 nargs:=1
 ntmps:=21
 res:=[.tmp 2]
 body:=(.seq (.reg [.mv 2 (.c (B false))]) (.seq (.reg [.mv 8 (.t 0),.call (some 9) (.c (Fc Yo)) [(.t 8)] (.ro false),.mv 7 (.t 9),.ext 10 (.t 7) 0,.ext 11 (.t 7) 1,.new 3 (.c (.a [(S []),(I 0),(I 0),(I 0)])),.st 4 (.t 3) (.t 10),.mv 4 (.t 11)]) (.keep [0,4] (.seq (.reg [.mv 13 (.t 0),.call (some 14) (.c (Fc qeB)) [(.t 13)] (.ro false),.mv 12 (.t 14),.ext 15 (.t 12) 0,.ext 16 (.t 12) 1,.new 5 (.c (.a [(S []),(I 0),(I 0),(I 0)])),.st 4 (.t 5) (.t 15),.mv 6 (.t 16)]) (.keep [4,6] (.seq (.reg [.mv 17 (.t 4),.mv 18 (.t 17),.gd 18 false (some 19) (.mv 19 (.t 6)),.pick 20 (.t 18) (.c (B true)) (.t 19),.mv 2 (.t 20)]) (.keep [2] .ret)))))))
def qdR:AF where
 nargs:=1
 ntmps:=32
 res:=[.tmp 2]
 body:=(.seq (.reg [.mv 2 (.c (S []))]) (.seq (.reg [.mv 6 (.t 0),.call (some 7) (.c (Fc qeD)) [(.t 6)] (.ro true),.mv 5 (.t 7),.ext 8 (.t 5) 0,.ext 9 (.t 5) 1,.mv 3 (.t 8),.mv 4 (.t 9)]) (.keep [0,3] (.seq (.seq (.reg [.mv 10 (.t 3),.len 11 (.t 10),.bin 12 .eql (.t 11) (.c (I 1)),.mv 13 (.t 12),.gd 13 true (some 14) (.mv 14 (.t 3)),.gd 13 true (some 15) (.ia 15 5 (.t 14) (.c (I 0))),.gd 13 true (some 16) (.fa 16 (.t 15) 0),.gd 13 true (some 17) (.ld 17 false 1 (.t 16)),.gd 13 true (some 18) (.bin 18 .eql (.t 17) (.c (I 1))),.pick 19 (.t 13) (.t 18) (.c (B false)),.mv 20 (.t 19),.gd 20 true (some 21) (.mv 21 (.t 3)),.gd 20 true (some 22) (.ia 22 5 (.t 21) (.c (I 0))),.gd 20 true (some 23) (.fa 23 (.t 22) 1),.gd 20 true (some 24) (.ld 24 false 1 (.t 23)),.gd 20 true (some 25) (.mv 25 (.t 0)),.gd 20 true (some 26) (.bin 26 .eql (.t 24) (.t 25)),.pick 27 (.t 20) (.t 26) (.c (B false))]) (.keep [0,27] (.cond (.t 27) (.seq (.reg [.mv 28 (.t 0),.mv 2 (.t 28)]) (.keep [2] .ret)) .skip))) (.keep [0] (.seq (.reg [.mv 29 (.t 0),.bin 30 .add (.c (S [39])) (.t 29),.bin 31 .add (.t 30) (.c (S [39])),.mv 2 (.t 31)]) (.keep [2] .ret)))))))
def qkT:AC:=(.seq (.seq (.reg [.fa 11 (.t 1) 3,.ld 12 false 1 (.t 11),.ia 13 4 (.t 12) (.c (I 1)),.ld 14 true 4 (.t 13),.call (some 15) (.c (Fc qbq)) [(.t 14),(.c (S [46])),(.c (I 2))] (.ro true)]) (.keep [1,3,15] (.cond (.t 15) .skip (.keep [1,3] (.exit 0))))) (.keep [1,3] (.block 1 (.seq (.reg [.fa 16 (.t 1) 3,.ld 17 false 1 (.t 16),.ia 18 4 (.t 17) (.c (I 1)),.ld 19 true 4 (.t 18),.st 4 (.t 1) (.t 19)]) (.keep [1,3] (.reg [.mv 20 (.t 3),.bin 21 .add (.t 20) (.c (S [44])),.fa 22 (.t 1) 3,.ld 23 false 1 (.t 22),.ia 24 4 (.t 23) (.c (I 0)),.ld 25 true 4 (.t 24),.call (some 26) (.c (Fc Xu)) [(.t 25)] (.ro false),.bin 27 .add (.t 21) (.t 26),.mv 3 (.t 27)]))))))
def qe7:Lp:=⟨[1,3],[(1,0)],qkT⟩
@[go_sem] theorem qIq:qe7.ls=[1,3]:=rfl
@[go_sem] theorem qIp:qe7.ks=[(1,0)]:=rfl
@[go_sem] theorem qIo:qe7.body=qkT:=rfl
def qd1:AF where
 nargs:=1
 ntmps:=48
 res:=[.tmp 2]
 body:=(.seq (.reg [.new 1 (.t 0),.mv 2 (.c (S []))]) (.seq (.reg [.fa 5 (.t 1) 3,.ld 6 false 1 (.t 5),.ia 7 4 (.t 6) (.c (I 0)),.ld 8 true 4 (.t 7),.call (some 9) (.c (Fc Xu)) [(.t 8)] (.ro false),.bin 10 .add (.c (S [91])) (.t 9),.mv 3 (.t 10)]) (.keep [1,3] (.seq (.block 0 (lpC qe7)) (.keep [1,3] (.seq (.reg [.fa 28 (.t 1) 3,.ld 29 false 1 (.t 28),.ia 30 4 (.t 29) (.c (I 1)),.ld 31 true 4 (.t 30),.new 4 (.c (.a [(I 0),(S []),(I 0),(.n 4)])),.st 4 (.t 4) (.t 31)]) (.keep [3,4] (.seq (.seq (.reg [.fa 32 (.t 4) 0,.ld 33 false 1 (.t 32),.bin 34 .eql (.t 33) (.c (I 2)),.mv 35 (.t 34),.gd 35 true (some 36) (.fa 36 (.t 4) 1),.gd 35 true (some 37) (.ld 37 false 1 (.t 36)),.gd 35 true (some 38) (.bin 38 .eql (.t 37) (.c (S [91,93]))),.pick 39 (.t 35) (.t 38) (.c (B false))]) (.keep [3,4,39] (.cond (.t 39) (.seq (.reg [.mv 40 (.t 3),.bin 41 .add (.t 40) (.c (S [93])),.mv 2 (.t 41)]) (.keep [2] .ret)) .skip))) (.keep [3,4] (.seq (.reg [.mv 42 (.t 3),.bin 43 .add (.t 42) (.c (S [124])),.ld 44 true 4 (.t 4),.call (some 45) (.c (Fc Xu)) [(.t 44)] (.ro false),.bin 46 .add (.t 43) (.t 45),.bin 47 .add (.t 46) (.c (S [93])),.mv 2 (.t 47)]) (.keep [2] .ret)))))))))))
def Xl:AF where
 nargs:=1
 ntmps:=9
 res:=[.cell 2 true 2]
 body:=(.seq (.reg [.new 2 (.c (.a [(.n 9),(.n 1)]))]) (.seq (.seq (.reg [.mv 3 (.t 0),.call (some 4) (.c (Fc Js)) [(.t 3),(.c (I 5))] (.io true)]) (.cond (.t 4) (.seq (.reg [.mv 5 (.t 0),.call (some 6) (.c (Fc qhx)) [(.t 5)] (.io false),.st 2 (.t 2) (.t 6)]) (.keep [0,2] .ret)) .skip)) (.keep [0,2] (.seq (.reg [.mv 7 (.t 0),.call (some 8) (.c (Fc qhE)) [(.t 7)] (.io false),.st 2 (.t 2) (.t 8)]) (.keep [0,2] .ret)))))
def qb8:AC:=(.seq (.reg [.bin 11 .lss (.t 10) (.t 9)]) (.seq (.cond (.t 11) .skip (.keep [5] (.exit 0))) (.keep [3,5,8,9,10] (.seq (.block 1 (.seq (.reg [.ia 12 9 (.t 8) (.t 10),.ld 13 true 9 (.t 12),.new 7 (.c (.a [(I 0),(S []),(I 0),(.n 4),(I 0),(S []),(I 0),(.n 4),(S [])])),.st 9 (.t 7) (.t 13)]) (.keep [3,5,7,8,9,10] (.seq (.reg [.ld 14 true 9 (.t 7),.ld 15 true 9 (.t 3),.call (some 16) (.c (Fc qbe)) [(.t 14),(.t 15)] (.ro true)]) (.cond (.t 16) (.reg [.mv 17 (.t 5),.bin 18 .add (.t 17) (.c (I 1)),.mv 5 (.t 18)]) .skip))))) (.keep [3,5,8,9,10] (.reg [.bin 19 .add (.t 10) (.c (I 1)),.mv 10 (.t 19)]))))))
def qbH:Lp:=⟨[3,5,8,9,10],[(2,0)],qb8⟩
@[go_sem] theorem qFU:qbH.ls=[3,5,8,9,10]:=rfl
@[go_sem] theorem qFT:qbH.ks=[(2,0)]:=rfl
@[go_sem] theorem qFS:qbH.body=qb8:=rfl
def Ky:AF where
 nargs:=2
 ntmps:=21
 res:=[.tmp 4]
 body:=(.seq (.reg [.new 3 (.t 1),.mv 4 (.c (I 0))]) (.seq (.reg [.mv 5 (.c (I 0))]) (.seq (.seq (.reg [.mv 8 (.t 0),.len 9 (.t 8),.mv 10 (.c (I 0))]) (.block 0 (lpC qbH))) (.keep [5] (.seq (.reg [.mv 20 (.t 5),.mv 4 (.t 20)]) (.keep [4] .ret))))))
def KB:AF where
 nargs:=2
 ntmps:=10
 res:=[.tmp 4]
 body:=(.seq (.reg [.new 2 (.t 0),.new 3 (.t 1),.mv 4 (.c (B false))]) (.seq (.dreg [⟨0,[(2,0)]⟩,⟨2,[(0,0),(0,1),(0,2),(0,3),(5,0)]⟩,⟨0,[(3,0)]⟩,⟨2,[(1,0),(1,1),(1,2),(1,3),(7,0)]⟩,⟨2,[(0,0),(0,1),(0,2),(0,3),(1,0),(1,1),(1,2),(1,3),(5,0),(6,0),(6,1),(6,2),(6,3),(7,0),(8,0),(8,1),(8,2),(8,3)]⟩,⟨0,[]⟩] [.ldq 5 true 9 (.t 2),.call (some 6) (.c (Fc Yk)) [(.t 5)] (.ro false),.ldq 7 true 9 (.t 3),.call (some 8) (.c (Fc Yk)) [(.t 7)] (.ro false),.call (some 9) (.c (Fc qeg)) [(.t 6),(.t 8)] (.ro false),.mv 4 (.t 9)]) (.keep [4] .ret)))
def qhK:AC:=(.seq (.seq (.reg [.mv 11 (.t 5),.mv 12 (.t 0),.len 13 (.t 12),.bin 14 .lss (.t 11) (.t 13)]) (.keep [0,1,5,14] (.cond (.t 14) .skip (.keep [] (.exit 0))))) (.keep [0,1,5] (.seq (.block 1 (.seq (.dreg [⟨0,[]⟩,⟨0,[]⟩,⟨0,[(0,0),(0,1),(0,2),(0,3),(100000,0),(100000,1),(100000,2),(100000,3),(100000,4),(100000,5)]⟩,⟨0,[(0,0),(0,1),(0,2),(0,3),(100000,0),(100000,1),(100000,2),(100000,3),(100000,4),(100000,5)]⟩,⟨0,[]⟩,⟨0,[]⟩,⟨0,[(1,0),(1,1),(1,2),(1,3),(100000,0),(100000,1),(100000,2),(100000,3),(100000,4),(100000,5)]⟩,⟨0,[(1,0),(1,1),(1,2),(1,3),(100000,0),(100000,1),(100000,2),(100000,3),(100000,4),(100000,5)]⟩,⟨0,[]⟩] [.mv 17 (.t 0),.mv 18 (.t 5),.ia 19 1 (.t 17) (.t 18),.ldq 20 false 1 (.t 19),.mv 21 (.t 1),.mv 22 (.t 5),.ia 23 1 (.t 21) (.t 22),.ldq 24 false 1 (.t 23),.bin 25 .neq (.t 20) (.t 24)]) (.keep [0,1,5,25] (.cond (.t 25) (.seq (.reg [.mv 4 (.c (B false))]) (.keep [4] .ret)) .skip)))) (.keep [0,1,5] (.reg [.mv 15 (.t 5),.bin 16 .add (.t 15) (.c (I 1)),.mv 5 (.t 16)])))))
def qbP:Lp:=⟨[0,1,5],[(2,0)],qhK⟩
@[go_sem] theorem qGG:qbP.ls=[0,1,5]:=rfl
@[go_sem] theorem qGF:qbP.ks=[(2,0)]:=rfl
@[go_sem] theorem qGE:qbP.body=qhK:=rfl
def KJ:AF where
 nargs:=2
 ntmps:=26
 res:=[.tmp 4]
 body:=(.seq (.reg [.mv 4 (.c (B false))]) (.seq (.seq (.reg [.mv 6 (.t 0),.len 7 (.t 6),.mv 8 (.t 1),.len 9 (.t 8),.bin 10 .neq (.t 7) (.t 9)]) (.keep [0,1,10] (.cond (.t 10) (.seq (.reg [.mv 4 (.c (B false))]) (.keep [4] .ret)) .skip))) (.keep [0,1] (.seq (.seq (.reg [.mv 5 (.c (I 0))]) (.block 0 (lpC qbP))) (.keep [] (.seq (.reg [.mv 4 (.c (B true))]) (.keep [4] .ret)))))))
def qcg:AC:=(.seq (.seq (.reg [.mv 34 (.t 5),.fa 35 (.t 2) 3,.ld 36 false 1 (.t 35),.len 37 (.t 36),.bin 38 .lss (.t 34) (.t 37)]) (.keep [2,3,5,38] (.cond (.t 38) .skip (.keep [] (.exit 0))))) (.keep [2,3,5] (.seq (.block 1 (.seq (.dreg [⟨0,[]⟩,⟨0,[(2,0),(100000,0),(100000,1),(100000,2),(100000,3),(100000,4),(100000,5)]⟩,⟨0,[]⟩,⟨0,[(0,0),(0,1),(0,2),(0,3),(42,0),(100000,0),(100000,1),(100000,2),(100000,3),(100000,4),(100000,5)]⟩,⟨0,[(0,0),(0,1),(0,2),(0,3),(2,0),(42,0),(100000,0),(100000,1),(100000,2),(100000,3),(100000,4),(100000,5)]⟩,⟨0,[]⟩,⟨0,[(3,0),(100000,0),(100000,1),(100000,2),(100000,3),(100000,4),(100000,5)]⟩,⟨0,[]⟩,⟨0,[(1,0),(1,1),(1,2),(1,3),(47,0),(100000,0),(100000,1),(100000,2),(100000,3),(100000,4),(100000,5)]⟩,⟨0,[(1,0),(1,1),(1,2),(1,3),(3,0),(47,0),(100000,0),(100000,1),(100000,2),(100000,3),(100000,4),(100000,5)]⟩,⟨2,[(0,0),(0,1),(0,2),(0,3),(1,0),(1,1),(1,2),(1,3),(42,0),(45,0),(47,0),(50,0),(100000,0),(100000,1),(100000,2),(100000,3),(100000,4),(100000,5)]⟩,⟨0,[]⟩] [.fa 41 (.t 2) 3,.ldq 42 false 1 (.t 41),.mv 43 (.t 5),.ia 44 4 (.t 42) (.t 43),.ldq 45 true 4 (.t 44),.fa 46 (.t 3) 3,.ldq 47 false 1 (.t 46),.mv 48 (.t 5),.ia 49 4 (.t 47) (.t 48),.ldq 50 true 4 (.t 49),.call (some 51) (.c (Fc qbn)) [(.t 45),(.t 50)] (.ro true),.un 52 .not (.t 51)]) (.keep [2,3,5,52] (.cond (.t 52) (.seq (.reg [.mv 4 (.c (B false))]) (.keep [4] .ret)) .skip)))) (.keep [2,3,5] (.reg [.mv 39 (.t 5),.bin 40 .add (.t 39) (.c (I 1)),.mv 5 (.t 40)])))))
def qbS:Lp:=⟨[2,3,5],[(2,0)],qcg⟩
@[go_sem] theorem qHj:qbS.ls=[2,3,5]:=rfl
@[go_sem] theorem qHi:qbS.ks=[(2,0)]:=rfl
@[go_sem] theorem qHh:qbS.body=qcg:=rfl
def Qa:AF where
 nargs:=2
 ntmps:=53
 res:=[.tmp 4]
 body:=(.seq (.reg [.new 2 (.t 0),.new 3 (.t 1),.mv 4 (.c (B false))]) (.seq (.seq (.reg [.fa 6 (.t 2) 0,.ld 7 false 1 (.t 6),.fa 8 (.t 3) 0,.ld 9 false 1 (.t 8),.bin 10 .neq (.t 7) (.t 9),.mv 11 (.t 10),.gd 11 false (some 12) (.fa 12 (.t 2) 1),.gd 11 false (some 13) (.ld 13 false 1 (.t 12)),.gd 11 false (some 14) (.fa 14 (.t 3) 1),.gd 11 false (some 15) (.ld 15 false 1 (.t 14)),.gd 11 false (some 16) (.bin 16 .neq (.t 13) (.t 15)),.pick 17 (.t 11) (.c (B true)) (.t 16),.mv 18 (.t 17),.gd 18 false (some 19) (.fa 19 (.t 2) 2),.gd 18 false (some 20) (.ld 20 false 1 (.t 19)),.gd 18 false (some 21) (.fa 21 (.t 3) 2),.gd 18 false (some 22) (.ld 22 false 1 (.t 21)),.gd 18 false (some 23) (.bin 23 .neq (.t 20) (.t 22)),.pick 24 (.t 18) (.c (B true)) (.t 23),.mv 25 (.t 24),.gd 25 false (some 26) (.fa 26 (.t 2) 3),.gd 25 false (some 27) (.ld 27 false 1 (.t 26)),.gd 25 false (some 28) (.len 28 (.t 27)),.gd 25 false (some 29) (.fa 29 (.t 3) 3),.gd 25 false (some 30) (.ld 30 false 1 (.t 29)),.gd 25 false (some 31) (.len 31 (.t 30)),.gd 25 false (some 32) (.bin 32 .neq (.t 28) (.t 31)),.pick 33 (.t 25) (.c (B true)) (.t 32)]) (.keep [2,3,33] (.cond (.t 33) (.seq (.reg [.mv 4 (.c (B false))]) (.keep [4] .ret)) .skip))) (.keep [2,3] (.seq (.seq (.reg [.mv 5 (.c (I 0))]) (.block 0 (lpC qbS))) (.keep [] (.seq (.reg [.mv 4 (.c (B true))]) (.keep [4] .ret)))))))
def KE:AF where
 nargs:=1
 ntmps:=5
 res:=[.tmp 2]
 body:=(.seq (.reg [.new 1 (.t 0),.mv 2 (.c (S []))]) (.seq (.reg [.ld 3 true 4 (.t 1),.call (some 4) (.c (Fc qev)) [(.t 3),(.c (Fc Yn)),(.c (Fc qew))] (.ro false),.mv 2 (.t 4)]) (.keep [2] .ret)))
def Kr:AF where
 nargs:=1
 ntmps:=5
 res:=[.cell 2 true 4]
 body:=(.seq (.reg [.new 1 (.t 0),.new 2 (.c (.a [(I 0),(S []),(I 0),(.n 4)]))]) (.seq (.reg [.ld 3 true 4 (.t 1),.call (some 4) (.c (Fc Ym)) [(.t 3),(.c (Fc qbh))] (.ro false),.st 4 (.t 2) (.t 4)]) (.keep [2] .ret)))
def qdJ:AF where
 nargs:=2
 ntmps:=19
 res:=[.tmp 4]
 body:=(.seq (.reg [.new 2 (.t 0),.mv 4 (.c (I 0))]) (.seq (.reg [.mv 5 (.t 1),.fa 6 (.t 2) 1,.ld 7 false 1 (.t 6),.slen 8 (.t 7),.bin 9 .sub (.t 5) (.t 8),.mv 1 (.t 9)]) (.keep [1,2] (.seq (.seq (.reg [.mv 10 (.t 1),.bin 11 .lss (.t 10) (.c (I 0))]) (.cond (.t 11) (.seq (.reg [.mv 4 (.c (I (-1)))]) (.keep [4] .ret)) .skip)) (.keep [1,2] (.seq (.reg [.fa 12 (.t 2) 3,.ld 13 false 1 (.t 12),.mv 14 (.t 1),.call (some 15) (.c (Fc qqI)) [(.t 13),(.t 14)] (.ro false),.mv 1 (.t 15)]) (.keep [1] (.seq (.seq (.reg [.mv 16 (.t 1),.bin 17 .lss (.t 16) (.c (I 0))]) (.cond (.t 17) (.seq (.reg [.mv 4 (.c (I (-1)))]) (.keep [4] .ret)) .skip)) (.keep [1] (.seq (.reg [.mv 18 (.t 1),.mv 4 (.t 18)]) (.keep [4] .ret)))))))))))
def qdP:AF where
 nargs:=1
 ntmps:=18
 res:=[.cell 2 true 4]
 body:=(.seq (.reg [.new 1 (.t 0),.new 2 (.c (.a [(I 0),(S []),(I 0),(.n 4)]))]) (.seq (.reg [.new 3 (.c (.a [(I 0),(S []),(I 0),(.n 4)]))]) (.seq (.reg [.fa 4 (.t 1) 0,.ld 5 false 1 (.t 4),.fa 6 (.t 3) 0,.st 1 (.t 6) (.t 5)]) (.keep [1,2,3] (.seq (.reg [.fa 7 (.t 1) 1,.ld 8 false 1 (.t 7),.fa 9 (.t 3) 1,.st 1 (.t 9) (.t 8)]) (.keep [1,2,3] (.seq (.reg [.fa 10 (.t 1) 2,.ld 11 false 1 (.t 10),.fa 12 (.t 3) 2,.st 1 (.t 12) (.t 11)]) (.keep [1,2,3] (.seq (.reg [.fa 13 (.t 1) 3,.ld 14 false 1 (.t 13),.call (some 15) (.c (Fc qqM)) [(.t 14)] (.ro false),.fa 16 (.t 3) 3,.st 1 (.t 16) (.t 15)]) (.keep [2,3] (.seq (.reg [.ld 17 true 4 (.t 3),.st 4 (.t 2) (.t 17)]) (.keep [2] .ret))))))))))))
def qdB:AF where
 nargs:=2
 ntmps:=26
 res:=[.tmp 4]
 body:=(.seq (.reg [.new 2 (.t 0),.new 3 (.t 1),.mv 4 (.c (B false))]) (.seq (.seq (.reg [.fa 5 (.t 2) 0,.ld 6 false 1 (.t 5),.fa 7 (.t 3) 0,.ld 8 false 1 (.t 7),.bin 9 .neq (.t 6) (.t 8)]) (.keep [2,3,9] (.cond (.t 9) (.seq (.reg [.mv 4 (.c (B false))]) (.keep [4] .ret)) .skip))) (.keep [2,3] (.seq (.seq (.reg [.fa 10 (.t 2) 1,.ld 11 false 1 (.t 10),.fa 12 (.t 3) 1,.ld 13 false 1 (.t 12),.bin 14 .neq (.t 11) (.t 13)]) (.keep [2,3,14] (.cond (.t 14) (.seq (.reg [.mv 4 (.c (B false))]) (.keep [4] .ret)) .skip))) (.keep [2,3] (.seq (.seq (.reg [.fa 15 (.t 2) 2,.ld 16 false 1 (.t 15),.fa 17 (.t 3) 2,.ld 18 false 1 (.t 17),.bin 19 .neq (.t 16) (.t 18)]) (.keep [2,3,19] (.cond (.t 19) (.seq (.reg [.mv 4 (.c (B false))]) (.keep [4] .ret)) .skip))) (.keep [2,3] (.seq (.seq (.reg [.fa 20 (.t 2) 3,.ld 21 false 1 (.t 20),.fa 22 (.t 3) 3,.ld 23 false 1 (.t 22),.call (some 24) (.c (Fc qqC)) [(.t 21),(.t 23)] (.ro true),.un 25 .not (.t 24)]) (.keep [25] (.cond (.t 25) (.seq (.reg [.mv 4 (.c (B false))]) (.keep [4] .ret)) .skip))) (.keep [] (.seq (.reg [.mv 4 (.c (B true))]) (.keep [4] .ret)))))))))))
def qd4:AF where
 nargs:=1
 ntmps:=11
 res:=[.tmp 2]
 body:=(.seq (.reg [.new 1 (.t 0),.mv 2 (.c (B false))]) (.seq (.reg [.fa 3 (.t 1) 0,.ld 4 false 1 (.t 3),.bin 5 .eql (.t 4) (.c (I 2)),.mv 6 (.t 5),.gd 6 true (some 7) (.fa 7 (.t 1) 1),.gd 6 true (some 8) (.ld 8 false 1 (.t 7)),.gd 6 true (some 9) (.bin 9 .eql (.t 8) (.c (S [116,114,117,101]))),.pick 10 (.t 6) (.t 9) (.c (B false)),.mv 2 (.t 10)]) (.keep [2] .ret)))
def qdS:AF where
 nargs:=1
 ntmps:=20
 res:=[.cell 2 true 9]
 body:=(.seq (.reg [.new 1 (.t 0),.new 2 (.c (.a [(I 0),(S []),(I 0),(.n 4),(I 0),(S []),(I 0),(.n 4),(S [])]))]) (.seq (.reg [.ld 5 true 9 (.t 1),.call (some 6) (.c (Fc qbl)) [(.t 5)] (.ro false),.new 3 (.c (.a [(I 0),(S []),(I 0),(.n 4)])),.st 4 (.t 3) (.t 6)]) (.keep [1,2,3] (.seq (.reg [.ld 7 true 4 (.t 3),.call (some 8) (.c (Fc qqN)) [(.t 7)] (.ro false),.mv 4 (.t 8)]) (.seq (.dreg [⟨0,[]⟩,⟨0,[(1,0)]⟩,⟨0,[]⟩,⟨2,[(0,0),(0,1),(0,2),(0,3),(5,0),(6,0),(6,1),(6,2),(6,3),(7,0),(8,0),(8,1),(8,2),(8,3),(10,0)]⟩,⟨0,[]⟩,⟨0,[(1,0)]⟩,⟨0,[]⟩,⟨2,[(0,0),(0,1),(0,2),(0,3),(5,0),(6,0),(6,1),(6,2),(6,3),(7,0),(8,0),(8,1),(8,2),(8,3),(14,0)]⟩,⟨0,[]⟩,⟨0,[(1,0)]⟩,⟨0,[]⟩,⟨1,[(2,0)]⟩] [.fa 9 (.t 1) 0,.ldq 10 true 4 (.t 9),.mv 11 (.t 4),.call (some 12) (.c (Fc qhD)) [(.t 10),(.t 11),(.c (I 0))] (.ro false),.fa 13 (.t 1) 4,.ldq 14 true 4 (.t 13),.mv 15 (.t 4),.call (some 16) (.c (Fc qhD)) [(.t 14),(.t 15),(.c (I 0))] (.ro false),.fa 17 (.t 1) 8,.ldq 18 false 1 (.t 17),.build 19 (.a [(I 0),(S []),(I 0),(.n 4),(I 0),(S []),(I 0),(.n 4),(S [])]) [(0,4,(.t 12)),(4,4,(.t 16)),(8,1,(.t 18))],.st 9 (.t 2) (.t 19)]) (.keep [2] .ret))))))
def Kg:AF where
 nargs:=1
 ntmps:=8
 res:=[.tmp 2]
 body:=(.seq (.reg [.mv 2 (.c (B false))]) (.seq (.reg [.mks 4 1 [(.c (S [116,114,117,101,47,48])),(.c (S [102,97,105,108,47,48])),(.c (S [33,47,48])),(.c (S [44,47,50])),(.c (S [59,47,50])),(.c (S [45,62,47,50])),(.c (S [92,43,47,49])),(.c (S [99,97,108,108,47,49])),(.c (S [99,97,108,108,47,50])),(.c (S [99,97,108,108,47,51])),(.c (S [99,97,116,99,104,47,51])),(.c (S [116,104,114,111,119,47,49])),(.c (S [61,47,50])),(.c (S [92,61,47,50])),(.c (S [61,61,47,50])),(.c (S [105,115,47,50])),(.c (S [60,47,50])),(.c (S [61,58,61,47,50])),(.c (S [118,97,114,47,49])),(.c (S [97,116,111,109,47,49])),(.c (S [119,114,105,116,101,47,49])),(.c (S [97,115,115,101,114,116,122,47,49])),(.c (S [114,101,116,114,97,99,116,47,49])),(.c (S [58,45,47,50])),(.c (S [58,45,47,49])),(.c (S [45,45,62,47,50]))],.mv 3 (.t 4)]) (.seq (.reg [.mv 5 (.t 3),.mv 6 (.t 0),.call (some 7) (.c (Fc qhb)) [(.t 5),(.t 6)] (.ro false),.mv 2 (.t 7)]) (.keep [2] .ret))))
def qdq:AF where
 nargs:=1
 ntmps:=5
 res:=[.cell 2 true 4]
 body:=(.seq (.reg [.new 2 (.c (.a [(I 0),(S []),(I 0),(.n 4)]))]) (.seq (.reg [.mv 3 (.t 0),.build 4 (.a [(I 0),(S []),(I 0),(.n 4)]) [(0,1,(.c (I 2))),(1,1,(.t 3))],.st 4 (.t 2) (.t 4)]) (.keep [2] .ret)))
def Kn:AF where
 nargs:=1
 ntmps:=5
 res:=[.tmp 2]
 body:=(.seq (.reg [.new 1 (.t 0),.mv 2 (.c (.n 1))]) (.seq (.reg [.ld 3 true 4 (.t 1),.call (some 4) (.c (Fc qbd)) [(.c (.n 1)),(.t 3)] (.io false),.mv 2 (.t 4)]) (.keep [2] .ret)))
def qfg:AC:=(.seq (.reg [.bin 22 .lss (.t 21) (.t 20)]) (.seq (.cond (.t 22) .skip (.keep [4,5] (.exit 0))) (.keep [1,4,5,19,20,21] (.seq (.block 1 (.seq (.reg [.ia 23 4 (.t 19) (.t 21),.ld 24 true 4 (.t 23),.new 7 (.c (.a [(I 0),(S []),(I 0),(.n 4)])),.st 4 (.t 7) (.t 24)]) (.keep [1,4,5,7,19,20,21] (.dreg [⟨0,[]⟩,⟨0,[(5,0),(100000,0),(100000,1),(100000,2),(100000,3),(100000,4),(100000,5)]⟩,⟨0,[(7,0)]⟩,⟨0,[]⟩,⟨2,[(0,0),(0,1),(0,2),(0,3),(1,0),(1,1),(1,2),(1,3),(19,0),(24,0),(27,0),(100000,0),(100000,1),(100000,2),(100000,3),(100000,4),(100000,5)]⟩,⟨1,[]⟩,⟨1,[(0,0),(0,1),(0,2),(0,3),(1,0),(1,1),(1,2),(1,3),(19,0),(24,0),(27,0),(29,0),(29,1),(29,2),(29,3),(30,0),(500000,0),(100000,0),(100000,1),(100000,2),(100000,3),(100000,4),(100000,5)]⟩,⟨0,[]⟩,⟨1,[(5,0),(100000,0),(100000,1),(100000,2),(100000,3),(100000,4),(100000,5)]⟩] [.fa 25 (.t 5) 3,.ldq 26 false 1 (.t 25),.ldq 27 true 4 (.t 7),.mv 28 (.t 1),.call (some 29) (.c (Fc Ym)) [(.t 27),(.t 28)] (.ro false),.mks 30 4 [(.t 29)],.app 31 4 56 (.t 26) (.t 30),.fa 32 (.t 5) 3,.st 1 (.t 32) (.t 31)])))) (.keep [1,4,5,19,20,21] (.reg [.bin 33 .add (.t 21) (.c (I 1)),.mv 21 (.t 33)]))))))
def Jv:Lp:=⟨[1,4,5,19,20,21],[(2,0)],qfg⟩
@[go_sem] theorem qF3:Jv.ls=[1,4,5,19,20,21]:=rfl
@[go_sem] theorem qF2:Jv.ks=[(2,0)]:=rfl
@[go_sem] theorem qF1:Jv.body=qfg:=rfl
def Y2:AF where
 nargs:=2
 ntmps:=35
 res:=[.cell 4 true 4]
 body:=(.seq (.reg [.new 2 (.t 0),.new 4 (.c (.a [(I 0),(S []),(I 0),(.n 4)]))]) (.seq (.reg [.ld 8 true 4 (.t 2),.new 5 (.c (.a [(I 0),(S []),(I 0),(.n 4)])),.st 4 (.t 5) (.t 8)]) (.seq (.reg [.fa 9 (.t 5) 3,.st 1 (.t 9) (.c (.n 4))]) (.seq (.seq (.reg [.fa 10 (.t 2) 0,.ld 11 false 1 (.t 10),.bin 12 .eql (.t 11) (.c (I 1))]) (.cond (.t 12) (.reg [.mv 13 (.t 1),.fa 14 (.t 2) 2,.ld 15 false 1 (.t 14),.call (some 16) (.t 13) [(.t 15)] (.ro false),.fa 17 (.t 5) 2,.st 1 (.t 17) (.t 16)]) .skip)) (.keep [1,2,4,5] (.seq (.seq (.reg [.fa 18 (.t 2) 3,.ld 19 false 1 (.t 18),.len 20 (.t 19),.mv 21 (.c (I 0))]) (.keep [1,4,5,19,20,21] (.block 0 (lpC Jv)))) (.keep [4,5] (.seq (.reg [.ld 34 true 4 (.t 5),.st 4 (.t 4) (.t 34)]) (.keep [4] .ret)))))))))
def qds:AF where
 nargs:=2
 ntmps:=11
 res:=[.cell 4 true 4]
 body:=(.seq (.reg [.new 2 (.t 0),.new 3 (.t 1),.new 4 (.c (.a [(I 0),(S []),(I 0),(.n 4)]))]) (.seq (.reg [.ld 6 true 4 (.t 2),.call (some 7) (.c (Fc qbc)) [(.t 6)] (.ro false),.new 5 (.c (.n 1)),.st 1 (.t 5) (.t 7)]) (.keep [2,3,4,5] (.seq (.reg [.ld 8 true 4 (.t 2),.fun 9 (.func qqw) [] [(.t 3),(.t 5)],.call (some 10) (.c (Fc Ym)) [(.t 8),(.t 9)] (.ro false),.st 4 (.t 4) (.t 10)]) (.keep [4] .ret)))))
def K0:AF where
 nargs:=1
 ntmps:=5
 res:=[.cell 2 true 4]
 body:=(.seq (.reg [.new 2 (.c (.a [(I 0),(S []),(I 0),(.n 4)]))]) (.seq (.reg [.mv 3 (.t 0),.build 4 (.a [(I 0),(S []),(I 0),(.n 4)]) [(0,1,(.c (I 1))),(2,1,(.t 3))],.st 4 (.t 2) (.t 4)]) (.keep [2] .ret)))
def KU:AF where
 nargs:=2
 ntmps:=12
 res:=[.tmp 4]
 body:=(.seq (.reg [.mv 4 (.c (S []))]) (.seq (.reg [.mv 5 (.t 1),.mv 6 (.t 0),.mv 7 (.t 1),.len 8 (.t 7),.call (some 9) (.c (Fc kK)) [(.t 6),(.t 8)] (.io false),.ia 10 1 (.t 5) (.t 9),.ld 11 false 1 (.t 10),.mv 4 (.t 11)]) (.keep [0,4] .ret)))
def KZ:AF where
 nargs:=1
 ntmps:=5
 res:=[.cell 2 true 4]
 body:=(.seq (.reg [.new 2 (.c (.a [(I 0),(S []),(I 0),(.n 4)]))]) (.seq (.reg [.mv 3 (.t 0),.build 4 (.a [(I 0),(S []),(I 0),(.n 4)]) [(0,1,(.c (I 3))),(2,1,(.t 3))],.st 4 (.t 2) (.t 4)]) (.keep [2] .ret)))
def KV:AF where
 nargs:=2
 ntmps:=12
 res:=[.tmp 4]
 body:=(.seq (.reg [.mv 4 (.c (I 0))]) (.seq (.reg [.mv 5 (.t 1),.mv 6 (.t 0),.mv 7 (.t 1),.len 8 (.t 7),.call (some 9) (.c (Fc kK)) [(.t 6),(.t 8)] (.io false),.ia 10 1 (.t 5) (.t 9),.ld 11 false 1 (.t 10),.mv 4 (.t 11)]) (.keep [0,4] .ret)))
def Ys:AC:=(.seq (.seq (.reg [.mv 4 (.t 3),.mv 5 (.t 0),.slen 6 (.t 5),.bin 7 .lss (.t 4) (.t 6)]) (.keep [0,3,7] (.cond (.t 7) .skip (.keep [0] (.exit 0))))) (.keep [0,3] (.seq (.block 1 (.seq (.reg [.mv 10 (.t 0),.mv 11 (.t 3),.ix 12 (.t 10) (.t 11),.int 13 .i64 (.t 12),.call (some 14) (.c (Fc ZC)) [(.t 13),(.c (I 33)),(.c (I 126))] (.ro true),.un 15 .not (.t 14),.mv 16 (.t 15),.gd 16 false (some 17) (.mv 17 (.t 0)),.gd 16 false (some 18) (.mv 18 (.t 3)),.gd 16 false (some 19) (.ix 19 (.t 17) (.t 18)),.gd 16 false (some 20) (.bin 20 .eql (.t 19) (.c (U8 39))),.pick 21 (.t 16) (.c (B true)) (.t 20),.mv 22 (.t 21),.gd 22 false (some 23) (.mv 23 (.t 0)),.gd 22 false (some 24) (.mv 24 (.t 3)),.gd 22 false (some 25) (.ix 25 (.t 23) (.t 24)),.gd 22 false (some 26) (.bin 26 .eql (.t 25) (.c (U8 34))),.pick 27 (.t 22) (.c (B true)) (.t 26)]) (.keep [0,3,27] (.cond (.t 27) (.seq (.reg [.mv 2 (.c (B false))]) (.keep [2] .ret)) .skip)))) (.keep [0,3] (.reg [.mv 8 (.t 3),.bin 9 .add (.t 8) (.c (I 1)),.mv 3 (.t 9)])))))
def Ju:Lp:=⟨[0,3],[(1,0)],Ys⟩
@[go_sem] theorem qFX:Ju.ls=[0,3]:=rfl
@[go_sem] theorem qFW:Ju.ks=[(1,0)]:=rfl
@[go_sem] theorem qFV:Ju.body=Ys:=rfl
def Y1:AF where
 nargs:=1
 ntmps:=31
 res:=[.tmp 2]
 body:=(.seq (.reg [.mv 2 (.c (B false))]) (.seq (.seq (.reg [.mv 3 (.c (I 0))]) (.block 0 (lpC Ju))) (.keep [0] (.seq (.reg [.mv 28 (.t 0),.slen 29 (.t 28),.call (some 30) (.c (Fc ZC)) [(.t 29),(.c (I 1)),(.c (I 20))] (.ro false),.mv 2 (.t 30)]) (.keep [2] .ret)))))
def Ku:AF where
 nargs:=1
 ntmps:=21
 res:=[.tmp 2]
 body:=(.seq (.reg [.mv 2 (.c (B false))]) (.seq (.reg [.mv 8 (.t 0),.call (some 9) (.c (Fc Jl)) [(.t 8)] (.ro false),.mv 7 (.t 9),.ext 10 (.t 7) 0,.ext 11 (.t 7) 1,.new 3 (.c (.a [(S []),(I 0),(I 0),(I 0)])),.st 4 (.t 3) (.t 10),.mv 4 (.t 11)]) (.keep [0,4] (.seq (.reg [.mv 13 (.t 0),.call (some 14) (.c (Fc qgU)) [(.t 13)] (.ro false),.mv 12 (.t 14),.ext 15 (.t 12) 0,.ext 16 (.t 12) 1,.new 5 (.c (.a [(S []),(I 0),(I 0),(I 0)])),.st 4 (.t 5) (.t 15),.mv 6 (.t 16)]) (.keep [4,6] (.seq (.reg [.mv 17 (.t 4),.mv 18 (.t 17),.gd 18 false (some 19) (.mv 19 (.t 6)),.pick 20 (.t 18) (.c (B true)) (.t 19),.mv 2 (.t 20)]) (.keep [2] .ret)))))))
def QF:AF where
 nargs:=1
 ntmps:=35
 res:=[.tmp 2]
 body:=(.seq (.reg [.mv 2 (.c (S []))]) (.seq (.reg [.mv 6 (.t 0),.call (some 7) (.c (Fc qgV)) [(.t 6)] (.ro true),.mv 5 (.t 7),.ext 8 (.t 5) 0,.ext 9 (.t 5) 1,.mv 3 (.t 8),.mv 4 (.t 9)]) (.keep [0,3,4] (.seq (.seq (.reg [.mv 10 (.t 4),.mv 11 (.t 10),.gd 11 true (some 12) (.mv 12 (.t 3)),.gd 11 true (some 13) (.len 13 (.t 12)),.gd 11 true (some 14) (.bin 14 .eql (.t 13) (.c (I 1))),.pick 15 (.t 11) (.t 14) (.c (B false)),.mv 16 (.t 15),.gd 16 true (some 17) (.mv 17 (.t 3)),.gd 16 true (some 18) (.ia 18 5 (.t 17) (.c (I 0))),.gd 16 true (some 19) (.fa 19 (.t 18) 0),.gd 16 true (some 20) (.ld 20 false 1 (.t 19)),.gd 16 true (some 21) (.bin 21 .eql (.t 20) (.c (I 1))),.pick 22 (.t 16) (.t 21) (.c (B false)),.mv 23 (.t 22),.gd 23 true (some 24) (.mv 24 (.t 3)),.gd 23 true (some 25) (.ia 25 5 (.t 24) (.c (I 0))),.gd 23 true (some 26) (.fa 26 (.t 25) 1),.gd 23 true (some 27) (.ld 27 false 1 (.t 26)),.gd 23 true (some 28) (.mv 28 (.t 0)),.gd 23 true (some 29) (.bin 29 .eql (.t 27) (.t 28)),.pick 30 (.t 23) (.t 29) (.c (B false))]) (.keep [0,30] (.cond (.t 30) (.seq (.reg [.mv 31 (.t 0),.mv 2 (.t 31)]) (.keep [2] .ret)) .skip))) (.keep [0] (.seq (.reg [.mv 32 (.t 0),.bin 33 .add (.c (S [39])) (.t 32),.bin 34 .add (.t 33) (.c (S [39])),.mv 2 (.t 34)]) (.keep [2] .ret)))))))
def Kv:AF where
 nargs:=1
 ntmps:=5
 res:=[.tmp 2]
 body:=(.seq (.reg [.new 1 (.t 0),.mv 2 (.c (B false))]) (.seq (.reg [.ld 3 true 4 (.t 1),.call (some 4) (.c (Fc qen)) [(.t 3),(.c (S [46])),(.c (I 2))] (.ro false),.mv 2 (.t 4)]) (.keep [2] .ret)))
def Yg:AF where
 nargs:=1
 ntmps:=9
 res:=[.tmp 2]
 body:=(.seq (.reg [.mv 2 (.c (B false))]) (.seq (.reg [.mv 3 (.t 0),.bin 4 .geq (.t 3) (.c (U8 97)),.mv 5 (.t 4),.gd 5 true (some 6) (.mv 6 (.t 0)),.gd 5 true (some 7) (.bin 7 .leq (.t 6) (.c (U8 122))),.pick 8 (.t 5) (.t 7) (.c (B false)),.mv 2 (.t 8)]) (.keep [2] .ret)))
def K2:AF where
 nargs:=1
 ntmps:=13
 res:=[.tmp 2]
 body:=(.seq (.reg [.mv 2 (.c (B false))]) (.seq (.reg [.mv 3 (.t 0),.bin 4 .geq (.t 3) (.c (U8 65)),.mv 5 (.t 4),.gd 5 true (some 6) (.mv 6 (.t 0)),.gd 5 true (some 7) (.bin 7 .leq (.t 6) (.c (U8 90))),.pick 8 (.t 5) (.t 7) (.c (B false)),.mv 9 (.t 8),.gd 9 false (some 10) (.mv 10 (.t 0)),.gd 9 false (some 11) (.bin 11 .eql (.t 10) (.c (U8 95))),.pick 12 (.t 9) (.c (B true)) (.t 11),.mv 2 (.t 12)]) (.keep [2] .ret)))
def qcn:AC:=(.seq (.seq (.reg [.mv 5 (.t 1),.mv 6 (.t 0),.slen 7 (.t 6),.bin 8 .lss (.t 5) (.t 7),.mv 9 (.t 8),.gd 9 true (some 10) (.mv 10 (.t 0)),.gd 9 true (some 11) (.mv 11 (.t 1)),.gd 9 true (some 12) (.ix 12 (.t 10) (.t 11)),.gd 9 true (some 13) (.call (some 13) (.c (Fc qhs)) [(.t 12)] (.ro true)),.pick 14 (.t 9) (.t 13) (.c (B false))]) (.keep [0,1,14] (.cond (.t 14) .skip (.keep [1] (.exit 0))))) (.keep [0,1] (.block 1 (.reg [.mv 15 (.t 1),.bin 16 .add (.t 15) (.c (I 1)),.mv 1 (.t 16)]))))
def qbZ:Lp:=⟨[0,1],[(2,0)],qcn⟩
@[go_sem] theorem qHZ:qbZ.ls=[0,1]:=rfl
@[go_sem] theorem qHY:qbZ.ks=[(2,0)]:=rfl
@[go_sem] theorem qHX:qbZ.body=qcn:=rfl
def K3:AF where
 nargs:=2
 ntmps:=18
 res:=[.tmp 4]
 body:=(.seq (.reg [.mv 4 (.c (I 0))]) (.seq (.block 0 (lpC qbZ)) (.keep [1] (.seq (.reg [.mv 17 (.t 1),.mv 4 (.t 17)]) (.keep [4] .ret)))))
def Ye:AF where
 nargs:=1
 ntmps:=9
 res:=[.tmp 2]
 body:=(.seq (.reg [.mv 2 (.c (B false))]) (.seq (.reg [.mv 3 (.t 0),.bin 4 .geq (.t 3) (.c (U8 48)),.mv 5 (.t 4),.gd 5 true (some 6) (.mv 6 (.t 0)),.gd 5 true (some 7) (.bin 7 .leq (.t 6) (.c (U8 57))),.pick 8 (.t 5) (.t 7) (.c (B false)),.mv 2 (.t 8)]) (.keep [2] .ret)))
def Xy:AC:=(.seq (.seq (.reg [.mv 8 (.t 5),.mv 9 (.t 0),.slen 10 (.t 9),.bin 11 .lss (.t 8) (.t 10)]) (.keep [0,1,5,11] (.cond (.t 11) .skip (.keep [] (.exit 0))))) (.keep [0,1,5] (.seq (.block 1 (.seq (.reg [.mv 14 (.t 0),.mv 15 (.t 5),.ix 16 (.t 14) (.t 15),.bin 17 .eql (.t 16) (.c (U8 39))]) (.keep [0,1,5,17] (.cond (.t 17) (.seq (.seq (.reg [.mv 18 (.t 0),.mv 19 (.t 1),.bin 20 .add (.t 19) (.c (I 1)),.mv 21 (.t 5),.ssl 22 (.t 18) (some (.t 20)) (some (.t 21)),.call (some 23) (.c (Fc qbr)) [(.t 22)] (.ro true)]) (.keep [5,23] (.cond (.t 23) (.seq (.reg [.mv 24 (.t 5),.bin 25 .add (.t 24) (.c (I 1)),.mv 4 (.t 25)]) (.keep [4] .ret)) .skip))) (.keep [] (.seq (.reg [.mv 4 (.c (I 0))]) (.keep [4] .ret)))) .skip)))) (.keep [0,1,5] (.reg [.mv 12 (.t 5),.bin 13 .add (.t 12) (.c (I 1)),.mv 5 (.t 13)])))))
def qbY:Lp:=⟨[0,1,5],[(2,0)],Xy⟩
@[go_sem] theorem qHW:qbY.ls=[0,1,5]:=rfl
@[go_sem] theorem qHV:qbY.ks=[(2,0)]:=rfl
@[go_sem] theorem qHU:qbY.body=Xy:=rfl
def Yf:AF where
 nargs:=2
 ntmps:=26
 res:=[.tmp 4]
 body:=(.seq (.reg [.mv 4 (.c (I 0))]) (.seq (.seq (.reg [.mv 6 (.t 1),.bin 7 .add (.t 6) (.c (I 1)),.mv 5 (.t 7)]) (.block 0 (lpC qbY))) (.keep [] (.seq (.reg [.mv 4 (.c (I 0))]) (.keep [4] .ret)))))
def je:AF where
 nargs:=2
 ntmps:=42
 res:=[.tmp 4]
 body:=(.seq (.reg [.mv 4 (.c (B false))]) (.seq (.reg [.mv 5 (.t 0),.mv 6 (.t 1),.ix 7 (.t 5) (.t 6),.bin 8 .eql (.t 7) (.c (U8 46)),.mv 9 (.t 8),.gd 9 true (some 10) (.mv 10 (.t 1)),.gd 9 true (some 11) (.bin 11 .eql (.t 10) (.c (I 0))),.gd 9 true (some 12) (.mv 12 (.t 11)),.gd 12 false (some 13) (.mv 13 (.t 0)),.gd 12 false (some 14) (.mv 14 (.t 1)),.gd 12 false (some 15) (.bin 15 .sub (.t 14) (.c (I 1))),.gd 12 false (some 16) (.ix 16 (.t 13) (.t 15)),.gd 12 false (some 17) (.call (some 17) (.c (Fc qbo)) [(.t 16)] (.ro false)),.gd 12 false (some 18) (.un 18 .not (.t 17)),.gd 9 true (some 19) (.pick 19 (.t 12) (.c (B true)) (.t 18)),.pick 20 (.t 9) (.t 19) (.c (B false)),.mv 21 (.t 20),.gd 21 true (some 22) (.mv 22 (.t 1)),.gd 21 true (some 23) (.bin 23 .add (.t 22) (.c (I 1))),.gd 21 true (some 24) (.mv 24 (.t 0)),.gd 21 true (some 25) (.slen 25 (.t 24)),.gd 21 true (some 26) (.bin 26 .eql (.t 23) (.t 25)),.gd 21 true (some 27) (.mv 27 (.t 26)),.gd 27 false (some 28) (.mv 28 (.t 0)),.gd 27 false (some 29) (.mv 29 (.t 1)),.gd 27 false (some 30) (.bin 30 .add (.t 29) (.c (I 1))),.gd 27 false (some 31) (.ix 31 (.t 28) (.t 30)),.gd 27 false (some 32) (.call (some 32) (.c (Fc qeF)) [(.t 31)] (.ro false)),.gd 21 true (some 33) (.pick 33 (.t 27) (.c (B true)) (.t 32)),.gd 21 true (some 34) (.mv 34 (.t 33)),.gd 34 false (some 35) (.mv 35 (.t 0)),.gd 34 false (some 36) (.mv 36 (.t 1)),.gd 34 false (some 37) (.bin 37 .add (.t 36) (.c (I 1))),.gd 34 false (some 38) (.ix 38 (.t 35) (.t 37)),.gd 34 false (some 39) (.bin 39 .eql (.t 38) (.c (U8 37))),.gd 21 true (some 40) (.pick 40 (.t 34) (.c (B true)) (.t 39)),.pick 41 (.t 21) (.t 40) (.c (B false)),.mv 4 (.t 41)]) (.keep [4] .ret)))
def qci:AC:=(.seq (.seq (.reg [.mv 5 (.t 4),.mv 6 (.t 3),.slen 7 (.t 6),.bin 8 .lss (.t 5) (.t 7)]) (.keep [0,3,4,8] (.cond (.t 8) .skip (.keep [] (.exit 0))))) (.keep [0,3,4] (.seq (.block 1 (.seq (.reg [.mv 11 (.t 3),.mv 12 (.t 4),.ix 13 (.t 11) (.t 12),.mv 14 (.t 0),.bin 15 .eql (.t 13) (.t 14)]) (.keep [0,3,4,15] (.cond (.t 15) (.seq (.reg [.mv 2 (.c (B true))]) (.keep [2] .ret)) .skip)))) (.keep [0,3,4] (.reg [.mv 9 (.t 4),.bin 10 .add (.t 9) (.c (I 1)),.mv 4 (.t 10)])))))
def JA:Lp:=⟨[0,3,4],[(1,0)],qci⟩
@[go_sem] theorem qHs:JA.ls=[0,3,4]:=rfl
@[go_sem] theorem qHr:JA.ks=[(1,0)]:=rfl
@[go_sem] theorem qHq:JA.body=qci:=rfl
def Xb:AF where
 nargs:=1
 ntmps:=16
 res:=[.tmp 2]
 body:=(.seq (.reg [.mv 2 (.c (B false))]) (.seq (.reg [.mv 3 (.c (S [43,45,42,47,92,94,60,62,61,126,58,46,63,64,35,38,36]))]) (.seq (.seq (.reg [.mv 4 (.c (I 0))]) (.block 0 (lpC JA))) (.keep [] (.seq (.reg [.mv 2 (.c (B false))]) (.keep [2] .ret))))))
def Qb:AF where
 nargs:=2
 ntmps:=77
 res:=[.cell 4 true 4,.tmp 5]
 body:=(.seq (.reg [.new 4 (.c (.a [(I 0),(S []),(I 0),(.n 4)])),.mv 5 (.c (I 0))]) (.seq (.block 0 (.seq (.reg [.mv 7 (.t 0),.call (some 8) (.c (Fc QN)) [(.t 7),(.c (I 1)),(.c (S []))] (.ro true),.mv 6 (.t 8)]) (.cond (.t 6) (.seq (.reg [.mv 9 (.t 0),.mv 10 (.t 1),.call (some 11) (.c (Fc ZF)) [(.t 9),(.t 10)] (.io false),.ext 12 (.t 11) 0,.ext 13 (.t 11) 1,.st 4 (.t 4) (.t 12),.mv 5 (.t 13)]) (.keep [0,4,5] .ret)) (.seq (.reg [.mv 15 (.t 0),.call (some 16) (.c (Fc QO)) [(.t 15),(.c (S [40]))] (.io true),.mv 14 (.t 16)]) (.cond (.t 14) (.seq (.reg [.mv 17 (.t 0),.call (some 18) (.c (Fc Xt)) [(.t 17)] (.io false),.st 4 (.t 4) (.t 18),.mv 5 (.c (I 0))]) (.keep [0,4,5] .ret)) (.seq (.reg [.mv 20 (.t 0),.call (some 21) (.c (Fc QO)) [(.t 20),(.c (S [91]))] (.io true),.mv 19 (.t 21)]) (.cond (.t 19) (.seq (.reg [.mv 22 (.t 0),.call (some 23) (.c (Fc qbx)) [(.t 22)] (.io false),.st 4 (.t 4) (.t 23),.mv 5 (.c (I 0))]) (.keep [0,4,5] .ret)) (.seq (.reg [.mv 25 (.t 0),.call (some 26) (.c (Fc QN)) [(.t 25),(.c (I 3)),(.c (S []))] (.ro true),.mv 24 (.t 26)]) (.cond (.t 24) (.seq (.reg [.mv 27 (.t 0),.mv 28 (.t 0),.nilc 29 (.t 28),.fa 30 (.t 29) 1,.ld 31 false 1 (.t 30),.bin 32 .add (.t 31) (.c (I 1)),.nilc 33 (.t 27),.fa 34 (.t 33) 1,.st 1 (.t 34) (.t 32)]) (.keep [0,4] (.seq (.dreg [⟨0,[]⟩,⟨0,[]⟩,⟨0,[]⟩,⟨0,[(0,0),(0,1),(0,2),(0,3),(31,0),(55,0)]⟩,⟨0,[]⟩,⟨0,[]⟩,⟨0,[]⟩,⟨0,[(0,0),(0,1),(0,2),(0,3),(31,0),(55,0)]⟩,⟨0,[]⟩,⟨0,[(0,0),(0,1),(0,2),(0,3),(31,0),(38,0),(42,0),(55,0)]⟩,⟨0,[]⟩,⟨0,[(0,0),(0,1),(0,2),(0,3),(31,0),(38,0),(42,0),(55,0)]⟩,⟨2,[(0,0),(0,1),(0,2),(0,3),(31,0),(38,0),(42,0),(46,0),(55,0)]⟩,⟨1,[(4,0)]⟩,⟨0,[]⟩] [.mv 35 (.t 0),.nilc 36 (.t 35),.fa 37 (.t 36) 0,.ldq 38 false 1 (.t 37),.mv 39 (.t 0),.nilc 40 (.t 39),.fa 41 (.t 40) 1,.ldq 42 false 1 (.t 41),.bin 43 .sub (.t 42) (.c (I 1)),.ia 44 5 (.t 38) (.t 43),.fa 45 (.t 44) 2,.ldq 46 false 1 (.t 45),.call (some 47) (.c (Fc qbs)) [(.t 46)] (.ro false),.st 4 (.t 4) (.t 47),.mv 5 (.c (I 0))]) (.keep [0,4,5] .ret)))) (.seq (.reg [.mv 49 (.t 0),.call (some 50) (.c (Fc QN)) [(.t 49),(.c (I 2)),(.c (S []))] (.ro true),.mv 48 (.t 50)]) (.cond (.t 48) (.seq (.reg [.mv 51 (.t 0),.mv 52 (.t 0),.nilc 53 (.t 52),.fa 54 (.t 53) 1,.ld 55 false 1 (.t 54),.bin 56 .add (.t 55) (.c (I 1)),.nilc 57 (.t 51),.fa 58 (.t 57) 1,.st 1 (.t 58) (.t 56)]) (.keep [0,4] (.seq (.dreg [⟨0,[]⟩,⟨0,[]⟩,⟨0,[]⟩,⟨0,[]⟩,⟨0,[(0,0),(0,1),(0,2),(0,3),(31,0),(55,0)]⟩,⟨0,[]⟩,⟨0,[]⟩,⟨0,[]⟩,⟨0,[(0,0),(0,1),(0,2),(0,3),(31,0),(55,0)]⟩,⟨0,[]⟩,⟨0,[(0,0),(0,1),(0,2),(0,3),(31,0),(55,0),(63,0),(67,0)]⟩,⟨0,[]⟩,⟨0,[(0,0),(0,1),(0,2),(0,3),(31,0),(55,0),(63,0),(67,0)]⟩,⟨1,[(0,0),(0,1),(0,2),(0,3),(31,0),(55,0),(63,0),(67,0),(71,0)]⟩,⟨1,[(4,0)]⟩,⟨0,[]⟩] [.mv 59 (.t 0),.mv 60 (.t 0),.nilc 61 (.t 60),.fa 62 (.t 61) 0,.ldq 63 false 1 (.t 62),.mv 64 (.t 0),.nilc 65 (.t 64),.fa 66 (.t 65) 1,.ldq 67 false 1 (.t 66),.bin 68 .sub (.t 67) (.c (I 1)),.ia 69 5 (.t 63) (.t 68),.fa 70 (.t 69) 1,.ldq 71 false 1 (.t 70),.call (some 72) (.c (Fc qhv)) [(.t 59),(.t 71)] (.io false),.st 4 (.t 4) (.t 72),.mv 5 (.c (I 0))]) (.keep [0,4,5] .ret)))) .skip))))))))))) (.keep [0,4] (.seq (.reg [.mv 73 (.t 0),.nilc 74 (.t 73),.fa 75 (.t 74) 2,.st 1 (.t 75) (.c (B true))]) (.keep [0,4] (.seq (.reg [.build 76 (.a [(I 0),(S []),(I 0),(.n 4)]) [],.st 4 (.t 4) (.t 76),.mv 5 (.c (I 0))]) (.keep [0,4,5] .ret)))))))
def Zw:AF where
 nargs:=1
 ntmps:=40
 res:=[.cell 2 true 4,.tmp 3]
 body:=(.seq (.reg [.new 2 (.c (.a [(S []),(I 0),(I 0),(I 0)])),.mv 3 (.c (B false))]) (.seq (.seq (.reg [.mv 4 (.t 0),.call (some 5) (.c (Fc QN)) [(.t 4),(.c (I 4)),(.c (S [44]))] (.ro true)]) (.cond (.t 5) (.seq (.reg [.call (some 6) (.c (Fc Yo)) [(.c (S [44]))] (.ro false),.ext 7 (.t 6) 0,.ext 8 (.t 6) 1,.st 4 (.t 2) (.t 7),.mv 3 (.t 8)]) (.keep [2,3] .ret)) .skip)) (.keep [0,2] (.seq (.seq (.dreg [⟨0,[]⟩,⟨2,[(0,0),(0,1),(0,2),(0,3)]⟩,⟨0,[]⟩,⟨0,[]⟩,⟨0,[]⟩,⟨0,[]⟩,⟨0,[(0,0),(0,1),(0,2),(0,3)]⟩,⟨0,[]⟩,⟨0,[]⟩,⟨0,[]⟩,⟨0,[(0,0),(0,1),(0,2),(0,3)]⟩,⟨0,[(0,0),(0,1),(0,2),(0,3),(15,0),(19,0)]⟩,⟨0,[]⟩,⟨0,[(0,0),(0,1),(0,2),(0,3),(15,0),(19,0)]⟩,⟨0,[]⟩,⟨0,[]⟩] [.mv 9 (.t 0),.call (some 10) (.c (Fc QN)) [(.t 9),(.c (I 1)),(.c (S []))] (.ro true),.mv 11 (.t 10),.gd 11 true (some 12) (.mv 12 (.t 0)),.gd 11 true (some 13) (.nilc 13 (.t 12)),.gd 11 true (some 14) (.fa 14 (.t 13) 0),.gd 11 true (some 15) (.ldq 15 false 1 (.t 14)),.gd 11 true (some 16) (.mv 16 (.t 0)),.gd 11 true (some 17) (.nilc 17 (.t 16)),.gd 11 true (some 18) (.fa 18 (.t 17) 1),.gd 11 true (some 19) (.ldq 19 false 1 (.t 18)),.gd 11 true (some 20) (.ia 20 5 (.t 15) (.t 19)),.gd 11 true (some 21) (.fa 21 (.t 20) 4),.gd 11 true (some 22) (.ldq 22 false 1 (.t 21)),.gd 11 true (some 23) (.un 23 .not (.t 22)),.pick 24 (.t 11) (.t 23) (.c (B false))]) (.keep [0,2,24] (.cond (.t 24) (.seq (.dreg [⟨0,[]⟩,⟨0,[]⟩,⟨0,[]⟩,⟨0,[(0,0),(0,1),(0,2),(0,3)]⟩,⟨0,[]⟩,⟨0,[]⟩,⟨0,[]⟩,⟨0,[(0,0),(0,1),(0,2),(0,3)]⟩,⟨0,[(0,0),(0,1),(0,2),(0,3),(28,0),(32,0)]⟩,⟨0,[]⟩,⟨0,[(0,0),(0,1),(0,2),(0,3),(28,0),(32,0)]⟩,⟨2,[(0,0),(0,1),(0,2),(0,3),(28,0),(32,0),(35,0)]⟩,⟨0,[]⟩,⟨0,[]⟩,⟨1,[(2,0)]⟩,⟨0,[]⟩] [.mv 25 (.t 0),.nilc 26 (.t 25),.fa 27 (.t 26) 0,.ldq 28 false 1 (.t 27),.mv 29 (.t 0),.nilc 30 (.t 29),.fa 31 (.t 30) 1,.ldq 32 false 1 (.t 31),.ia 33 5 (.t 28) (.t 32),.fa 34 (.t 33) 1,.ldq 35 false 1 (.t 34),.call (some 36) (.c (Fc Yo)) [(.t 35)] (.ro false),.ext 37 (.t 36) 0,.ext 38 (.t 36) 1,.st 4 (.t 2) (.t 37),.mv 3 (.t 38)]) (.keep [2,3] .ret)) .skip))) (.keep [2] (.seq (.reg [.build 39 (.a [(S []),(I 0),(I 0),(I 0)]) [],.st 4 (.t 2) (.t 39),.mv 3 (.c (B false))]) (.keep [2,3] .ret)))))))
def Xd:AF where
 nargs:=1
 ntmps:=58
 res:=[.tmp 2]
 body:=(.seq (.reg [.mv 2 (.c (I 0))]) (.seq (.reg [.mv 4 (.t 0),.mv 5 (.t 0),.nilc 6 (.t 5),.fa 7 (.t 6) 2,.ld 8 false 1 (.t 7),.bin 9 .mul (.t 8) (.c (I 6364136223846793005)),.bin 10 .add (.t 9) (.c (I 1442695040888963407)),.nilc 11 (.t 4),.fa 12 (.t 11) 2,.st 1 (.t 12) (.t 10)]) (.keep [0] (.seq (.dreg [⟨0,[]⟩,⟨0,[]⟩,⟨0,[]⟩,⟨0,[(0,0),(0,1),(0,2),(0,3),(8,0),(53,0)]⟩,⟨0,[]⟩,⟨0,[]⟩,⟨0,[]⟩,⟨0,[]⟩,⟨0,[(0,0),(0,1),(0,2),(0,3),(8,0),(53,0)]⟩,⟨0,[]⟩,⟨0,[]⟩,⟨0,[]⟩,⟨0,[]⟩] [.mv 13 (.t 0),.nilc 14 (.t 13),.fa 15 (.t 14) 2,.ldq 16 false 1 (.t 15),.bin 17 .shr (.t 16) (.c (.v (.int .u64 33))),.mv 18 (.t 0),.nilc 19 (.t 18),.fa 20 (.t 19) 2,.ldq 21 false 1 (.t 20),.bin 22 .shr (.t 21) (.c (.v (.int .u64 45))),.bin 23 .xor (.t 17) (.t 22),.bin 24 .and (.t 23) (.c (I 255)),.mv 3 (.t 24)]) (.keep [0,3] (.seq (.seq (.dreg [⟨0,[]⟩,⟨0,[]⟩,⟨0,[]⟩,⟨0,[(0,0),(0,1),(0,2),(0,3),(8,0),(53,0)]⟩,⟨0,[]⟩,⟨0,[]⟩,⟨0,[]⟩,⟨0,[(0,0),(0,1),(0,2),(0,3),(8,0),(53,0)]⟩,⟨0,[(0,0),(0,1),(0,2),(0,3),(8,0),(32,0),(53,0)]⟩,⟨0,[]⟩] [.mv 25 (.t 0),.nilc 26 (.t 25),.fa 27 (.t 26) 1,.ldq 28 false 1 (.t 27),.mv 29 (.t 0),.nilc 30 (.t 29),.fa 31 (.t 30) 0,.ldq 32 false 1 (.t 31),.len 33 (.t 32),.bin 34 .lss (.t 28) (.t 33)]) (.keep [0,3,34] (.cond (.t 34) (.seq (.dreg [⟨0,[]⟩,⟨0,[]⟩,⟨0,[]⟩,⟨0,[]⟩,⟨0,[(0,0),(0,1),(0,2),(0,3),(8,0),(53,0)]⟩,⟨0,[]⟩,⟨0,[]⟩,⟨0,[]⟩,⟨0,[(0,0),(0,1),(0,2),(0,3),(8,0),(53,0)]⟩,⟨0,[(0,0),(0,1),(0,2),(0,3),(8,0),(39,0),(43,0),(53,0)]⟩,⟨0,[(0,0),(0,1),(0,2),(0,3),(8,0),(39,0),(43,0),(53,0)]⟩,⟨0,[]⟩,⟨0,[]⟩,⟨0,[]⟩,⟨0,[]⟩] [.mv 35 (.t 3),.mv 36 (.t 0),.nilc 37 (.t 36),.fa 38 (.t 37) 0,.ldq 39 false 1 (.t 38),.mv 40 (.t 0),.nilc 41 (.t 40),.fa 42 (.t 41) 1,.ldq 43 false 1 (.t 42),.ia 44 1 (.t 39) (.t 43),.ldq 45 false 1 (.t 44),.int 46 .i64 (.t 45),.bin 47 .add (.t 35) (.t 46),.bin 48 .and (.t 47) (.c (I 255)),.mv 3 (.t 48)]) (.keep [0,3] (.reg [.mv 49 (.t 0),.mv 50 (.t 0),.nilc 51 (.t 50),.fa 52 (.t 51) 1,.ld 53 false 1 (.t 52),.bin 54 .add (.t 53) (.c (I 1)),.nilc 55 (.t 49),.fa 56 (.t 55) 1,.st 1 (.t 56) (.t 54)]))) .skip))) (.keep [0,3] (.seq (.reg [.mv 57 (.t 3),.mv 2 (.t 57)]) (.keep [0,2] .ret)))))))))
def Xi:AF where
 nargs:=2
 ntmps:=21
 res:=[.cell 4 true 2,.tmp 5]
 body:=(.seq (.reg [.new 2 (.t 0),.new 3 (.t 1),.new 4 (.c (.a [(.n 9),(.n 1)])),.mv 5 (.c (B false))]) (.keep [2,3,4] (.seq (.reg [.ld 7 true 2 (.t 2),.call (some 8) (.c (Fc Xv)) [(.t 7)] (.ro false),.new 6 (.c (.a [(.n 9),(.n 1)])),.st 2 (.t 6) (.t 8)]) (.keep [2,3,4,6] (.seq (.reg [.fa 9 (.t 6) 0,.ld 10 false 1 (.t 9),.ld 11 true 9 (.t 3),.mks 12 9 [(.t 11)],.app 13 9 128 (.t 10) (.t 12),.fa 14 (.t 6) 0,.st 1 (.t 14) (.t 13)]) (.keep [2,4,6] (.seq (.seq (.reg [.ld 15 true 2 (.t 6),.call (some 16) (.c (Fc qbm)) [(.t 15)] (.ro true),.un 17 .not (.t 16)]) (.cond (.t 17) (.seq (.reg [.ld 18 true 2 (.t 2),.call (some 19) (.c (Fc Xv)) [(.t 18)] (.ro false),.st 2 (.t 4) (.t 19),.mv 5 (.c (B false))]) (.keep [4,5] .ret)) .skip)) (.keep [4,6] (.seq (.reg [.ld 20 true 2 (.t 6),.st 2 (.t 4) (.t 20),.mv 5 (.c (B true))]) (.keep [4,5] .ret))))))))))
def qhL:AC:=(.seq (.seq (.reg [.mv 9 (.t 6),.fa 10 (.t 2) 1,.ld 11 false 1 (.t 10),.len 12 (.t 11),.bin 13 .lss (.t 9) (.t 12)]) (.keep [1,2,4,5,6,13] (.cond (.t 13) .skip (.keep [1,4,5] (.exit 0))))) (.keep [1,2,4,5,6] (.seq (.block 1 (.seq (.reg [.fa 16 (.t 2) 1,.ld 17 false 1 (.t 16),.mv 18 (.t 6),.ia 19 1 (.t 17) (.t 18),.ld 20 false 1 (.t 19),.mv 21 (.t 1),.bin 22 .eql (.t 20) (.t 21)]) (.keep [1,2,4,5,6,22] (.cond (.t 22) (.seq (.reg [.ld 23 true 2 (.t 5),.st 2 (.t 4) (.t 23)]) (.keep [4] .ret)) .skip)))) (.keep [1,2,4,5,6] (.reg [.mv 14 (.t 6),.bin 15 .add (.t 14) (.c (I 1)),.mv 6 (.t 15)])))))
def qb4:Lp:=⟨[1,2,4,5,6],[(2,0)],qhL⟩
@[go_sem] theorem qIC:qb4.ls=[1,2,4,5,6]:=rfl
@[go_sem] theorem qIB:qb4.ks=[(2,0)]:=rfl
@[go_sem] theorem qIA:qb4.body=qhL:=rfl
def K8:AF where
 nargs:=2
 ntmps:=35
 res:=[.cell 4 true 2]
 body:=(.seq (.reg [.new 2 (.t 0),.new 4 (.c (.a [(.n 9),(.n 1)]))]) (.seq (.reg [.ld 7 true 2 (.t 2),.call (some 8) (.c (Fc Xv)) [(.t 7)] (.ro false),.new 5 (.c (.a [(.n 9),(.n 1)])),.st 2 (.t 5) (.t 8)]) (.keep [1,2,4,5] (.seq (.seq (.reg [.mv 6 (.c (I 0))]) (.block 0 (lpC qb4))) (.keep [1,4,5] (.seq (.seq (.reg [.fa 24 (.t 5) 1,.ld 25 false 1 (.t 24),.len 26 (.t 25),.bin 27 .lss (.t 26) (.c (I 40))]) (.keep [1,4,5,27] (.cond (.t 27) (.reg [.fa 28 (.t 5) 1,.ld 29 false 1 (.t 28),.mv 30 (.t 1),.mks 31 1 [(.t 30)],.app 32 1 16 (.t 29) (.t 31),.fa 33 (.t 5) 1,.st 1 (.t 33) (.t 32)]) .skip))) (.keep [4,5] (.seq (.reg [.ld 34 true 2 (.t 5),.st 2 (.t 4) (.t 34)]) (.keep [4] .ret)))))))))
def zK:AF where
 nargs:=1
 ntmps:=32
 res:=[.tmp 2]
 body:=(.seq (.reg [.mv 2 (.c (B false))]) (.seq (.seq (.reg [.mv 3 (.t 0)]) (.block 0 (.seq (.seq (.reg [.bin 5 .eql (.t 3) (.c (S [116,114,117,101,47,48])),.mv 4 (.t 5)]) (.cond (.t 4) .skip (.seq (.reg [.bin 6 .eql (.t 3) (.c (S [102,97,105,108,47,48])),.mv 4 (.t 6)]) (.cond (.t 4) .skip (.seq (.reg [.bin 7 .eql (.t 3) (.c (S [33,47,48])),.mv 4 (.t 7)]) (.cond (.t 4) .skip (.seq (.reg [.bin 8 .eql (.t 3) (.c (S [44,47,50])),.mv 4 (.t 8)]) (.cond (.t 4) .skip (.seq (.reg [.bin 9 .eql (.t 3) (.c (S [59,47,50])),.mv 4 (.t 9)]) (.cond (.t 4) .skip (.seq (.reg [.bin 10 .eql (.t 3) (.c (S [45,62,47,50])),.mv 4 (.t 10)]) (.cond (.t 4) .skip (.seq (.reg [.bin 11 .eql (.t 3) (.c (S [92,43,47,49])),.mv 4 (.t 11)]) (.cond (.t 4) .skip (.seq (.reg [.bin 12 .eql (.t 3) (.c (S [99,97,108,108,47,49])),.mv 4 (.t 12)]) (.cond (.t 4) .skip (.seq (.reg [.bin 13 .eql (.t 3) (.c (S [99,97,108,108,47,50])),.mv 4 (.t 13)]) (.cond (.t 4) .skip (.seq (.reg [.bin 14 .eql (.t 3) (.c (S [99,97,108,108,47,51])),.mv 4 (.t 14)]) (.cond (.t 4) .skip (.seq (.reg [.bin 15 .eql (.t 3) (.c (S [99,97,116,99,104,47,51])),.mv 4 (.t 15)]) (.cond (.t 4) .skip (.reg [.bin 16 .eql (.t 3) (.c (S [116,104,114,111,119,47,49])),.mv 4 (.t 16)]))))))))))))))))))))))) (.keep [3,4] (.cond (.t 4) (.seq (.reg [.mv 2 (.c (B true))]) (.keep [2] .ret)) (.seq (.seq (.reg [.bin 18 .eql (.t 3) (.c (S [61,47,50])),.mv 17 (.t 18)]) (.cond (.t 17) .skip (.seq (.reg [.bin 19 .eql (.t 3) (.c (S [92,61,47,50])),.mv 17 (.t 19)]) (.cond (.t 17) .skip (.seq (.reg [.bin 20 .eql (.t 3) (.c (S [61,61,47,50])),.mv 17 (.t 20)]) (.cond (.t 17) .skip (.seq (.reg [.bin 21 .eql (.t 3) (.c (S [105,115,47,50])),.mv 17 (.t 21)]) (.cond (.t 17) .skip (.seq (.reg [.bin 22 .eql (.t 3) (.c (S [60,47,50])),.mv 17 (.t 22)]) (.cond (.t 17) .skip (.seq (.reg [.bin 23 .eql (.t 3) (.c (S [61,58,61,47,50])),.mv 17 (.t 23)]) (.cond (.t 17) .skip (.seq (.reg [.bin 24 .eql (.t 3) (.c (S [118,97,114,47,49])),.mv 17 (.t 24)]) (.cond (.t 17) .skip (.seq (.reg [.bin 25 .eql (.t 3) (.c (S [97,116,111,109,47,49])),.mv 17 (.t 25)]) (.cond (.t 17) .skip (.seq (.reg [.bin 26 .eql (.t 3) (.c (S [119,114,105,116,101,47,49])),.mv 17 (.t 26)]) (.cond (.t 17) .skip (.seq (.reg [.bin 27 .eql (.t 3) (.c (S [97,115,115,101,114,116,122,47,49])),.mv 17 (.t 27)]) (.cond (.t 17) .skip (.seq (.reg [.bin 28 .eql (.t 3) (.c (S [114,101,116,114,97,99,116,47,49])),.mv 17 (.t 28)]) (.cond (.t 17) .skip (.seq (.reg [.bin 29 .eql (.t 3) (.c (S [58,45,47,50])),.mv 17 (.t 29)]) (.cond (.t 17) .skip (.seq (.reg [.bin 30 .eql (.t 3) (.c (S [58,45,47,49])),.mv 17 (.t 30)]) (.cond (.t 17) .skip (.reg [.bin 31 .eql (.t 3) (.c (S [45,45,62,47,50])),.mv 17 (.t 31)]))))))))))))))))))))))))))) (.keep [17] (.cond (.t 17) (.seq (.reg [.mv 2 (.c (B true))]) (.keep [2] .ret)) .skip)))))))) (.keep [] (.seq (.reg [.mv 2 (.c (B false))]) (.keep [2] .ret)))))
def qkR:AC:=(.seq (.seq (.reg [.mv 6 (.t 5),.mv 7 (.t 0),.len 8 (.t 7),.bin 9 .lss (.t 6) (.t 8)]) (.keep [0,1,5,9] (.cond (.t 9) .skip (.keep [] (.exit 0))))) (.keep [0,1,5] (.seq (.block 1 (.seq (.reg [.mv 12 (.t 0),.mv 13 (.t 5),.ia 14 1 (.t 12) (.t 13),.ld 15 false 1 (.t 14),.mv 16 (.t 1),.bin 17 .eql (.t 15) (.t 16)]) (.keep [0,1,5,17] (.cond (.t 17) (.seq (.reg [.mv 4 (.c (B true))]) (.keep [4] .ret)) .skip)))) (.keep [0,1,5] (.reg [.mv 10 (.t 5),.bin 11 .add (.t 10) (.c (I 1)),.mv 5 (.t 11)])))))
def qe5:Lp:=⟨[0,1,5],[(2,0)],qkR⟩
@[go_sem] theorem qHH:qe5.ls=[0,1,5]:=rfl
@[go_sem] theorem qHG:qe5.ks=[(2,0)]:=rfl
@[go_sem] theorem qHF:qe5.body=qkR:=rfl
def qdX:AF where
 nargs:=2
 ntmps:=18
 res:=[.tmp 4]
 body:=(.seq (.reg [.mv 4 (.c (B false))]) (.seq (.seq (.reg [.mv 5 (.c (I 0))]) (.block 0 (lpC qe5))) (.keep [] (.seq (.reg [.mv 4 (.c (B false))]) (.keep [4] .ret)))))
def xk:AF where
 nargs:=1
 ntmps:=69
 res:=[.tmp 2]
 body:=(.seq (.reg [.new 1 (.t 0),.mv 2 (.c (B false))]) (.seq (.seq (.reg [.fa 3 (.t 1) 0,.ld 4 false 1 (.t 3)]) (.block 0 (.seq (.reg [.bin 6 .eql (.t 4) (.c (I 1)),.mv 5 (.t 6)]) (.cond (.t 5) (.seq (.reg [.fa 7 (.t 1) 2,.ld 8 false 1 (.t 7),.call (some 9) (.c (Fc Xs)) [(.t 8),(.c (I 0)),(.c (I 99999))] (.ro false),.mv 10 (.t 9),.gd 10 true (some 11) (.fa 11 (.t 1) 1),.gd 10 true (some 12) (.ld 12 false 1 (.t 11)),.gd 10 true (some 13) (.bin 13 .eql (.t 12) (.c (S []))),.pick 14 (.t 10) (.t 13) (.c (B false)),.mv 15 (.t 14),.gd 15 true (some 16) (.fa 16 (.t 1) 3),.gd 15 true (some 17) (.ld 17 false 1 (.t 16)),.gd 15 true (some 18) (.len 18 (.t 17)),.gd 15 true (some 19) (.bin 19 .eql (.t 18) (.c (I 0))),.pick 20 (.t 15) (.t 19) (.c (B false)),.mv 2 (.t 20)]) (.keep [2] .ret)) (.seq (.reg [.bin 22 .eql (.t 4) (.c (I 2)),.mv 21 (.t 22)]) (.cond (.t 21) (.seq (.reg [.fa 23 (.t 1) 1,.ld 24 false 1 (.t 23),.call (some 25) (.c (Fc qbr)) [(.t 24)] (.ro false),.mv 26 (.t 25),.gd 26 true (some 27) (.fa 27 (.t 1) 2),.gd 26 true (some 28) (.ld 28 false 1 (.t 27)),.gd 26 true (some 29) (.bin 29 .eql (.t 28) (.c (I 0))),.pick 30 (.t 26) (.t 29) (.c (B false)),.mv 31 (.t 30),.gd 31 true (some 32) (.fa 32 (.t 1) 3),.gd 31 true (some 33) (.ld 33 false 1 (.t 32)),.gd 31 true (some 34) (.len 34 (.t 33)),.gd 31 true (some 35) (.bin 35 .eql (.t 34) (.c (I 0))),.pick 36 (.t 31) (.t 35) (.c (B false)),.mv 2 (.t 36)]) (.keep [2] .ret)) (.seq (.reg [.bin 38 .eql (.t 4) (.c (I 3)),.mv 37 (.t 38)]) (.cond (.t 37) (.seq (.reg [.fa 39 (.t 1) 2,.ld 40 false 1 (.t 39),.call (some 41) (.c (Fc Xs)) [(.t 40),(.c (I (-999999999))),(.c (I 999999999))] (.ro false),.mv 42 (.t 41),.gd 42 true (some 43) (.fa 43 (.t 1) 1),.gd 42 true (some 44) (.ld 44 false 1 (.t 43)),.gd 42 true (some 45) (.bin 45 .eql (.t 44) (.c (S []))),.pick 46 (.t 42) (.t 45) (.c (B false)),.mv 47 (.t 46),.gd 47 true (some 48) (.fa 48 (.t 1) 3),.gd 47 true (some 49) (.ld 49 false 1 (.t 48)),.gd 47 true (some 50) (.len 50 (.t 49)),.gd 47 true (some 51) (.bin 51 .eql (.t 50) (.c (I 0))),.pick 52 (.t 47) (.t 51) (.c (B false)),.mv 2 (.t 52)]) (.keep [2] .ret)) (.seq (.reg [.bin 54 .eql (.t 4) (.c (I 4)),.mv 53 (.t 54)]) (.cond (.t 53) (.seq (.reg [.fa 55 (.t 1) 1,.ld 56 false 1 (.t 55),.call (some 57) (.c (Fc qbr)) [(.t 56)] (.ro false),.mv 58 (.t 57),.gd 58 true (some 59) (.fa 59 (.t 1) 2),.gd 58 true (some 60) (.ld 60 false 1 (.t 59)),.gd 58 true (some 61) (.bin 61 .eql (.t 60) (.c (I 0))),.pick 62 (.t 58) (.t 61) (.c (B false)),.mv 63 (.t 62),.gd 63 true (some 64) (.fa 64 (.t 1) 3),.gd 63 true (some 65) (.ld 65 false 1 (.t 64)),.gd 63 true (some 66) (.len 66 (.t 65)),.gd 63 true (some 67) (.call (some 67) (.c (Fc Xs)) [(.t 66),(.c (I 1)),(.c (I 5))] (.ro false)),.pick 68 (.t 63) (.t 67) (.c (B false)),.mv 2 (.t 68)]) (.keep [2] .ret)) .skip)))))))))) (.keep [] (.seq (.reg [.mv 2 (.c (B false))]) (.keep [2] .ret)))))
def KQ:AF where
 nargs:=1
 ntmps:=12
 res:=[.tmp 2]
 body:=(.seq (.reg [.mv 2 (.c (U8 0))]) (.seq (.seq (.reg [.mv 3 (.t 0),.bin 4 .lss (.t 3) (.c (I 10))]) (.cond (.t 4) (.seq (.reg [.mv 5 (.t 0),.bin 6 .add (.c (I 48)) (.t 5),.int 7 .u8 (.t 6),.mv 2 (.t 7)]) (.keep [2] .ret)) .skip)) (.keep [0] (.seq (.reg [.mv 8 (.t 0),.bin 9 .add (.c (I 97)) (.t 8),.bin 10 .sub (.t 9) (.c (I 10)),.int 11 .u8 (.t 10),.mv 2 (.t 11)]) (.keep [2] .ret)))))
def Zs:AF where
 nargs:=1
 ntmps:=18
 res:=[.cell 2 true 4,.tmp 3]
 body:=(.seq (.reg [.new 2 (.c (.a [(S []),(I 0),(I 0),(I 0)])),.mv 3 (.c (B false))]) (.seq (.seq (.reg [.mv 4 (.t 0)]) (.block 0 (.seq (.reg [.bin 6 .eql (.t 4) (.c (S [58,45])),.mv 5 (.t 6)]) (.cond (.t 5) (.seq (.reg [.mv 7 (.t 0),.build 8 (.a [(S []),(I 0),(I 0),(I 0)]) [(0,1,(.t 7)),(1,1,(.c (I 1200))),(3,1,(.c (I 1199)))],.st 4 (.t 2) (.t 8),.mv 3 (.c (B true))]) (.keep [2,3] .ret)) (.seq (.reg [.bin 10 .eql (.t 4) (.c (S [92,43])),.mv 9 (.t 10)]) (.cond (.t 9) (.seq (.reg [.mv 11 (.t 0),.build 12 (.a [(S []),(I 0),(I 0),(I 0)]) [(0,1,(.t 11)),(1,1,(.c (I 900))),(3,1,(.c (I 900)))],.st 4 (.t 2) (.t 12),.mv 3 (.c (B true))]) (.keep [2,3] .ret)) (.seq (.reg [.bin 14 .eql (.t 4) (.c (S [45])),.mv 13 (.t 14)]) (.cond (.t 13) (.seq (.reg [.mv 15 (.t 0),.build 16 (.a [(S []),(I 0),(I 0),(I 0)]) [(0,1,(.t 15)),(1,1,(.c (I 200))),(3,1,(.c (I 200)))],.st 4 (.t 2) (.t 16),.mv 3 (.c (B true))]) (.keep [2,3] .ret)) .skip)))))))) (.keep [2] (.seq (.reg [.build 17 (.a [(S []),(I 0),(I 0),(I 0)]) [],.st 4 (.t 2) (.t 17),.mv 3 (.c (B false))]) (.keep [2,3] .ret)))))
def qfn:AC:=(.seq (.seq (.reg [.mv 26 (.t 5),.bin 27 .lss (.t 26) (.c (I 120))]) (.cond (.t 27) .skip (.keep [0,2,4] (.exit 1)))) (.keep [0,2,4,5] (.seq (.block 2 (.dreg [⟨0,[]⟩,⟨0,[(4,0),(100000,0),(100000,1),(100000,2),(100000,3),(100000,4),(100000,5)]⟩,⟨0,[]⟩,⟨0,[(4,0),(100000,0),(100000,1),(100000,2),(100000,3),(100000,4),(100000,5)]⟩,⟨0,[(0,0),(0,1),(0,2),(0,3),(9,0),(9,1),(9,2),(9,3),(10,0),(10,1),(10,2),(10,3),(15,0),(17,0),(17,1),(17,2),(17,3),(19,0),(19,1),(19,2),(19,3),(21,0),(22,0),(31,0),(33,0),(35,0),(41,0),(100000,0),(100000,1),(100000,2),(100000,3),(100000,4),(100000,5)]⟩,⟨0,[(0,0),(0,1),(0,2),(0,3),(4,0),(9,0),(9,1),(9,2),(9,3),(10,0),(10,1),(10,2),(10,3),(15,0),(17,0),(17,1),(17,2),(17,3),(19,0),(19,1),(19,2),(19,3),(21,0),(22,0),(31,0),(33,0),(41,0),(100000,0),(100000,1),(100000,2),(100000,3),(100000,4),(100000,5)]⟩,⟨1,[]⟩,⟨1,[(0,0),(0,1),(0,2),(0,3),(9,0),(9,1),(9,2),(9,3),(10,0),(10,1),(10,2),(10,3),(15,0),(17,0),(17,1),(17,2),(17,3),(19,0),(19,1),(19,2),(19,3),(21,0),(22,0),(31,0),(33,0),(35,0),(36,0),(41,0),(500000,0),(100000,0),(100000,1),(100000,2),(100000,3),(100000,4),(100000,5)]⟩,⟨0,[]⟩,⟨1,[(4,0),(100000,0),(100000,1),(100000,2),(100000,3),(100000,4),(100000,5)]⟩] [.fa 30 (.t 4) 0,.ldq 31 false 1 (.t 30),.fa 32 (.t 4) 0,.ldq 33 false 1 (.t 32),.ia 34 9 (.t 33) (.c (I 0)),.ldq 35 true 9 (.t 34),.mks 36 9 [(.t 35)],.app 37 9 128 (.t 31) (.t 36),.fa 38 (.t 4) 0,.st 1 (.t 38) (.t 37)])) (.keep [0,2,4,5] (.reg [.mv 28 (.t 5),.bin 29 .add (.t 28) (.c (I 1)),.mv 5 (.t 29)])))))
def qb3:Lp:=⟨[0,2,4,5],[(1,0)],qfn⟩
@[go_sem] theorem qIw:qb3.ls=[0,2,4,5]:=rfl
@[go_sem] theorem qIv:qb3.ks=[(1,0)]:=rfl
@[go_sem] theorem qIu:qb3.body=qfn:=rfl
def Zy:AF where
 nargs:=1
 ntmps:=44
 res:=[.cell 2 true 2]
 body:=(.seq (.reg [.new 2 (.c (.a [(.n 9),(.n 1)]))]) (.seq (.reg [.mv 6 (.t 0),.call (some 7) (.c (Fc kK)) [(.t 6),(.c (I 10))] (.io true),.mv 3 (.t 7)]) (.seq (.reg [.mv 8 (.t 0),.call (some 9) (.c (Fc qhB)) [(.t 8)] (.io true),.call (some 10) (.c (Fc Xv)) [(.t 9)] (.ro false),.new 4 (.c (.a [(.n 9),(.n 1)])),.st 2 (.t 4) (.t 10)]) (.keep [0,2,3,4] (.seq (.seq (.reg [.mv 11 (.t 3)]) (.block 0 (.seq (.reg [.bin 13 .eql (.t 11) (.c (I 0)),.mv 12 (.t 13)]) (.cond (.t 12) (.dreg [⟨0,[]⟩,⟨0,[(4,0)]⟩,⟨0,[]⟩,⟨1,[(0,0),(0,1),(0,2),(0,3),(100000,0),(100000,1),(100000,2),(100000,3),(100000,4),(100000,5)]⟩,⟨0,[]⟩,⟨1,[(0,0),(0,1),(0,2),(0,3),(100000,0),(100000,1),(100000,2),(100000,3),(100000,4),(100000,5)]⟩,⟨0,[]⟩,⟨1,[]⟩,⟨1,[(10,0),(21,0)]⟩,⟨0,[]⟩,⟨1,[(4,0)]⟩] [.fa 14 (.t 4) 0,.ldq 15 false 1 (.t 14),.mv 16 (.t 0),.call (some 17) (.c (Fc qeE)) [(.t 16)] (.io true),.mv 18 (.t 0),.call (some 19) (.c (Fc qeE)) [(.t 18)] (.io true),.build 20 (.a [(I 0),(S []),(I 0),(.n 4),(I 0),(S []),(I 0),(.n 4),(S [])]) [(0,4,(.t 17)),(4,4,(.t 19))],.mks 21 9 [(.t 20)],.app 22 9 128 (.t 15) (.t 21),.fa 23 (.t 4) 0,.st 1 (.t 23) (.t 22)]) (.seq (.reg [.bin 25 .eql (.t 11) (.c (I 1)),.mv 24 (.t 25)]) (.cond (.t 24) (.seq (.reg [.mv 5 (.c (I 0))]) (.block 1 (lpC qb3))) (.seq (.reg [.bin 40 .eql (.t 11) (.c (I 2)),.mv 39 (.t 40)]) (.cond (.t 39) (.reg [.mk 41 1 (S []) 16 (.c (I 41)) (.c (I 41)),.fa 42 (.t 4) 1,.st 1 (.t 42) (.t 41)]) .skip)))))))) (.keep [0,2,4] (.seq (.reg [.ld 43 true 2 (.t 4),.st 2 (.t 2) (.t 43)]) (.keep [0,2] .ret))))))))
def JM:AC:=(.seq (.seq (.reg [.mv 16 (.t 5),.mv 17 (.t 0),.call (some 18) (.c (Fc kK)) [(.t 17),(.c (I 10))] (.io true),.bin 19 .add (.c (I 2)) (.t 18),.bin 20 .lss (.t 16) (.t 19)]) (.keep [0,2,3,4,5,20] (.cond (.t 20) .skip (.keep [0,2,3] (.exit 0))))) (.keep [0,2,3,4,5] (.seq (.block 1 (.seq (.reg [.mv 24 (.t 0),.mv 25 (.t 4),.call (some 26) (.c (Fc Jt)) [(.t 24),(.t 25)] (.io false),.bin 27 .add (.t 26) (.c (S [32,46])),.call (some 28) (.c (Fc qeC)) [(.t 27)] (.ro true),.mv 23 (.t 28),.ext 29 (.t 23) 0,.ext 30 (.t 23) 1,.ext 31 (.t 23) 2,.new 6 (.c (.a [(I 0),(S []),(I 0),(.n 4)])),.st 4 (.t 6) (.t 29),.mv 7 (.t 30),.mv 8 (.t 31)]) (.keep [0,2,3,4,5,6,8] (.seq (.reg [.ld 33 true 4 (.t 6),.call (some 34) (.c (Fc qeA)) [(.t 33),(.c (S [111,110,101]))] (.ro true),.mv 32 (.t 34),.ext 35 (.t 32) 0,.ext 36 (.t 32) 1,.new 9 (.c (.a [(I 0),(S []),(I 0),(.n 4),(I 0),(S []),(I 0),(.n 4),(S [])])),.st 9 (.t 9) (.t 35),.mv 10 (.t 36)]) (.keep [0,2,3,4,5,8,9,10] (.seq (.reg [.mv 37 (.t 8),.mv 38 (.t 37),.gd 38 true (some 39) (.mv 39 (.t 10)),.pick 40 (.t 38) (.t 39) (.c (B false))]) (.keep [0,2,3,4,5,9,40] (.cond (.t 40) (.reg [.ld 42 true 2 (.t 3),.ld 43 true 9 (.t 9),.call (some 44) (.c (Fc Xq)) [(.t 42),(.t 43)] (.ro true),.mv 41 (.t 44),.ext 45 (.t 41) 0,.ext 46 (.t 41) 1,.st 2 (.t 3) (.t 45)]) .skip)))))))) (.keep [0,2,3,4,5] (.reg [.mv 21 (.t 5),.bin 22 .add (.t 21) (.c (I 1)),.mv 5 (.t 22)])))))
def Xw:Lp:=⟨[0,2,3,4,5],[(1,0)],JM⟩
@[go_sem] theorem qII:Xw.ls=[0,2,3,4,5]:=rfl
@[go_sem] theorem qIH:Xw.ks=[(1,0)]:=rfl
@[go_sem] theorem qIG:Xw.body=JM:=rfl
def Xm:AF where
 nargs:=1
 ntmps:=48
 res:=[.cell 2 true 2]
 body:=(.seq (.reg [.new 2 (.c (.a [(.n 9),(.n 1)]))]) (.seq (.reg [.build 11 (.a [(.n 9),(.n 1)]) [],.new 3 (.c (.a [(.n 9),(.n 1)])),.st 2 (.t 3) (.t 11)]) (.seq (.reg [.call (some 12) (.c (Fc qhF)) [] (.ro false),.mv 4 (.t 12)]) (.seq (.seq (.reg [.mv 13 (.t 0),.call (some 14) (.c (Fc Js)) [(.t 13),(.c (I 2))] (.io true)]) (.cond (.t 14) (.reg [.call (some 15) (.c (Fc qeK)) [] (.ro false),.mv 4 (.t 15)]) .skip)) (.keep [0,2,3,4] (.seq (.seq (.reg [.mv 5 (.c (I 0))]) (.block 0 (lpC Xw))) (.keep [0,2,3] (.seq (.reg [.ld 47 true 2 (.t 3),.st 2 (.t 2) (.t 47)]) (.keep [0,2] .ret)))))))))
def qfd:AC:=(.seq (.reg [.bin 23 .lss (.t 22) (.t 21)]) (.seq (.cond (.t 23) .skip (.keep [2,3,7] (.exit 0))) (.keep [2,3,6,7,20,21,22] (.seq (.block 1 (.seq (.reg [.mv 24 (.t 22),.ia 25 1 (.t 20) (.t 22),.ld 26 false 1 (.t 25),.mv 8 (.t 24),.mv 9 (.t 26)]) (.keep [2,3,6,7,8,9,20,21,22] (.dreg [⟨0,[(7,0),(100000,0),(100000,1),(100000,2),(100000,3),(100000,4),(100000,5)]⟩,⟨0,[]⟩,⟨0,[]⟩,⟨0,[]⟩,⟨0,[(1,0),(1,1),(1,2),(1,3),(12,0),(13,0),(13,1),(13,2),(13,3),(100000,0),(100000,1),(100000,2),(100000,3),(100000,4),(100000,5)]⟩,⟨0,[(1,0),(1,1),(1,2),(1,3),(3,0),(12,0),(13,0),(13,1),(13,2),(13,3),(100000,0),(100000,1),(100000,2),(100000,3),(100000,4),(100000,5)]⟩,⟨1,[(0,0),(0,1),(0,2),(0,3),(1,0),(1,1),(1,2),(1,3),(7,0),(10,0),(11,0),(11,1),(11,2),(11,3),(12,0),(13,0),(13,1),(13,2),(13,3),(19,0),(26,0),(27,0),(32,0),(100000,0),(100000,1),(100000,2),(100000,3),(100000,4),(100000,5)]⟩] [.ldq 27 false 1 (.t 7),.mv 28 (.t 9),.mv 29 (.t 6),.mv 30 (.t 8),.ia 31 1 (.t 29) (.t 30),.ldq 32 false 1 (.t 31),.mset (.t 27) (.t 28) (.t 32)])))) (.keep [2,3,6,7,20,21,22] (.reg [.bin 33 .add (.t 22) (.c (I 1)),.mv 22 (.t 33)]))))))
def qbD:Lp:=⟨[2,3,6,7,20,21,22],[(2,0)],qfd⟩
@[go_sem] theorem qFI:qbD.ls=[2,3,6,7,20,21,22]:=rfl
@[go_sem] theorem qFH:qbD.ks=[(2,0)]:=rfl
@[go_sem] theorem qFG:qbD.body=qfd:=rfl
def YX:AF where
 nargs:=2
 ntmps:=39
 res:=[.tmp 4]
 body:=(.seq (.reg [.new 2 (.t 0),.new 3 (.t 1),.mv 4 (.c (B false))]) (.seq (.dreg [⟨0,[(2,0)]⟩,⟨2,[(0,0),(0,1),(0,2),(0,3),(10,0),(100000,0),(100000,1),(100000,2),(100000,3),(100000,4),(100000,5)]⟩,⟨0,[(3,0)]⟩,⟨2,[(1,0),(1,1),(1,2),(1,3),(12,0),(100000,0),(100000,1),(100000,2),(100000,3),(100000,4),(100000,5)]⟩,⟨0,[]⟩,⟨0,[]⟩] [.ldq 10 true 4 (.t 2),.call (some 11) (.c (Fc qbc)) [(.t 10)] (.ro true),.ldq 12 true 4 (.t 3),.call (some 13) (.c (Fc qbc)) [(.t 12)] (.ro true),.mv 5 (.t 11),.mv 6 (.t 13)]) (.keep [2,3,5,6] (.seq (.seq (.reg [.mv 14 (.t 5),.len 15 (.t 14),.mv 16 (.t 6),.len 17 (.t 16),.bin 18 .neq (.t 15) (.t 17)]) (.keep [2,3,5,6,18] (.cond (.t 18) (.seq (.reg [.mv 4 (.c (B false))]) (.keep [4] .ret)) .skip))) (.keep [2,3,5,6] (.seq (.reg [.mkm 19,.new 7 (.c (.v (.map none))),.st 1 (.t 7) (.t 19)]) (.seq (.seq (.reg [.mv 20 (.t 5),.len 21 (.t 20),.mv 22 (.c (I 0))]) (.block 0 (lpC qbD))) (.keep [2,3,7] (.seq (.dreg [⟨0,[(2,0),(100000,0),(100000,1),(100000,2),(100000,3),(100000,4),(100000,5)]⟩,⟨0,[]⟩,⟨2,[(0,0),(0,1),(0,2),(0,3),(7,0),(19,0),(34,0),(100000,0),(100000,1),(100000,2),(100000,3),(100000,4),(100000,5)]⟩,⟨0,[(3,0),(100000,0),(100000,1),(100000,2),(100000,3),(100000,4),(100000,5)]⟩,⟨2,[(0,0),(0,1),(0,2),(0,3),(1,0),(1,1),(1,2),(1,3),(7,0),(19,0),(34,0),(36,0),(36,1),(36,2),(36,3),(37,0),(100000,0),(100000,1),(100000,2),(100000,3),(100000,4),(100000,5)]⟩,⟨0,[]⟩] [.ldq 34 true 4 (.t 2),.fun 35 (.func qeh) [] [(.t 7)],.call (some 36) (.c (Fc Ym)) [(.t 34),(.t 35)] (.ro false),.ldq 37 true 4 (.t 3),.call (some 38) (.c (Fc ZB)) [(.t 36),(.t 37)] (.ro false),.mv 4 (.t 38)]) (.keep [4] .ret))))))))))
def KF:AF where
 nargs:=1
 ntmps:=22
 res:=[.tmp 2]
 body:=(.seq (.reg [.new 1 (.t 0),.mv 2 (.c (S []))]) (.seq (.dreg [⟨0,[]⟩,⟨0,[(1,0)]⟩,⟨0,[(0,0),(0,1),(0,2),(0,3),(4,0)]⟩,⟨0,[(0,0),(0,1),(0,2),(0,3),(1,0),(4,0)]⟩,⟨2,[(0,0),(0,1),(0,2),(0,3),(4,0),(6,0)]⟩,⟨0,[]⟩,⟨0,[]⟩,⟨0,[]⟩,⟨0,[(1,0)]⟩,⟨2,[(0,0),(0,1),(0,2),(0,3),(11,0)]⟩,⟨0,[]⟩,⟨0,[]⟩,⟨0,[]⟩,⟨0,[(1,0)]⟩,⟨0,[(0,0),(0,1),(0,2),(0,3),(16,0)]⟩,⟨0,[(0,0),(0,1),(0,2),(0,3),(1,0),(16,0)]⟩,⟨2,[(0,0),(0,1),(0,2),(0,3),(16,0),(18,0)]⟩,⟨0,[]⟩,⟨0,[]⟩,⟨0,[]⟩] [.fa 3 (.t 1) 3,.ldq 4 false 1 (.t 3),.ia 5 4 (.t 4) (.c (I 0)),.ldq 6 true 4 (.t 5),.call (some 7) (.c (Fc Yn)) [(.t 6)] (.ro false),.bin 8 .add (.c (S [40])) (.t 7),.bin 9 .add (.t 8) (.c (S [32])),.fa 10 (.t 1) 1,.ldq 11 false 1 (.t 10),.call (some 12) (.c (Fc qes)) [(.t 11)] (.ro false),.bin 13 .add (.t 9) (.t 12),.bin 14 .add (.t 13) (.c (S [32])),.fa 15 (.t 1) 3,.ldq 16 false 1 (.t 15),.ia 17 4 (.t 16) (.c (I 1)),.ldq 18 true 4 (.t 17),.call (some 19) (.c (Fc Yn)) [(.t 18)] (.ro false),.bin 20 .add (.t 14) (.t 19),.bin 21 .add (.t 20) (.c (S [41])),.mv 2 (.t 21)]) (.keep [2] .ret)))
def Ks:AF where
 nargs:=1
 ntmps:=4
 res:=[.tmp 2]
 body:=(.seq (.reg [.mv 2 (.c (I 0))]) (.seq (.reg [.mv 3 (.t 0),.mv 2 (.t 3)]) (.keep [2] .ret)))
def qkM:AC:=(.seq (.seq (.reg [.mv 12 (.t 5),.mv 13 (.t 0),.len 14 (.t 13),.bin 15 .lss (.t 12) (.t 14)]) (.keep [0,1,5,15] (.cond (.t 15) .skip (.keep [1] (.exit 0))))) (.keep [0,1,5] (.seq (.block 1 (.seq (.reg [.mv 18 (.t 0),.mv 19 (.t 5),.ia 20 4 (.t 18) (.t 19),.ld 21 true 4 (.t 20),.mv 22 (.t 1),.call (some 23) (.c (Fc qg8)) [(.t 21),(.t 22)] (.ro false),.mv 1 (.t 23)]) (.keep [0,1,5] (.seq (.reg [.mv 24 (.t 1),.bin 25 .lss (.t 24) (.c (I 0))]) (.cond (.t 25) (.seq (.reg [.mv 4 (.c (I (-1)))]) (.keep [4] .ret)) .skip))))) (.keep [0,1,5] (.reg [.mv 16 (.t 5),.bin 17 .add (.t 16) (.c (I 1)),.mv 5 (.t 17)])))))
def qe0:Lp:=⟨[0,1,5],[(2,0)],qkM⟩
@[go_sem] theorem qGP:qe0.ls=[0,1,5]:=rfl
@[go_sem] theorem qGO:qe0.ks=[(2,0)]:=rfl
@[go_sem] theorem qGN:qe0.body=qkM:=rfl
def qdK:AF where
 nargs:=2
 ntmps:=27
 res:=[.tmp 4]
 body:=(.seq (.reg [.mv 4 (.c (I 0))]) (.seq (.reg [.mv 6 (.t 1),.mv 7 (.t 0),.len 8 (.t 7),.bin 9 .sub (.t 6) (.t 8),.mv 1 (.t 9)]) (.keep [0,1] (.seq (.seq (.reg [.mv 10 (.t 1),.bin 11 .lss (.t 10) (.c (I 0))]) (.cond (.t 11) (.seq (.reg [.mv 4 (.c (I (-1)))]) (.keep [4] .ret)) .skip)) (.keep [0,1] (.seq (.seq (.reg [.mv 5 (.c (I 0))]) (.block 0 (lpC qe0))) (.keep [1] (.seq (.reg [.mv 26 (.t 1),.mv 4 (.t 26)]) (.keep [4] .ret)))))))))
def qkP:AC:=(.seq (.seq (.reg [.mv 8 (.t 4),.mv 9 (.t 0),.len 10 (.t 9),.bin 11 .lss (.t 8) (.t 10)]) (.keep [0,3,4,11] (.cond (.t 11) .skip (.keep [3] (.exit 0))))) (.keep [0,3,4] (.seq (.block 1 (.reg [.mv 14 (.t 3),.mv 15 (.t 4),.mv 16 (.t 0),.mv 17 (.t 4),.ia 18 4 (.t 16) (.t 17),.ld 19 true 4 (.t 18),.call (some 20) (.c (Fc qg9)) [(.t 19)] (.ro false),.ia 21 4 (.t 14) (.t 15),.st 4 (.t 21) (.t 20)])) (.keep [0,3,4] (.reg [.mv 12 (.t 4),.bin 13 .add (.t 12) (.c (I 1)),.mv 4 (.t 13)])))))
def qe3:Lp:=⟨[0,3,4],[(1,0)],qkP⟩
@[go_sem] theorem qGY:qe3.ls=[0,3,4]:=rfl
@[go_sem] theorem qGX:qe3.ks=[(1,0)]:=rfl
@[go_sem] theorem qGW:qe3.body=qkP:=rfl
def qdQ:AF where
 nargs:=1
 ntmps:=23
 res:=[.tmp 2]
 body:=(.seq (.reg [.mv 2 (.c (.n 4))]) (.seq (.reg [.mv 5 (.t 0),.len 6 (.t 5),.mk 7 4 (.a [(I 0),(S []),(I 0),(.n 4)]) 56 (.t 6) (.t 6),.mv 3 (.t 7)]) (.keep [0,3] (.seq (.seq (.reg [.mv 4 (.c (I 0))]) (.block 0 (lpC qe3))) (.keep [3] (.seq (.reg [.mv 22 (.t 3),.mv 2 (.t 22)]) (.keep [2] .ret)))))))
def qkH:AC:=(.seq (.seq (.reg [.mv 11 (.t 5),.mv 12 (.t 0),.len 13 (.t 12),.bin 14 .lss (.t 11) (.t 13)]) (.keep [0,1,5,14] (.cond (.t 14) .skip (.keep [] (.exit 0))))) (.keep [0,1,5] (.seq (.block 1 (.seq (.dreg [⟨0,[]⟩,⟨0,[]⟩,⟨0,[(0,0),(0,1),(0,2),(0,3),(100000,0),(100000,1),(100000,2),(100000,3),(100000,4),(100000,5)]⟩,⟨0,[(0,0),(0,1),(0,2),(0,3),(100000,0),(100000,1),(100000,2),(100000,3),(100000,4),(100000,5)]⟩,⟨0,[]⟩,⟨0,[]⟩,⟨0,[(1,0),(1,1),(1,2),(1,3),(100000,0),(100000,1),(100000,2),(100000,3),(100000,4),(100000,5)]⟩,⟨0,[(1,0),(1,1),(1,2),(1,3),(100000,0),(100000,1),(100000,2),(100000,3),(100000,4),(100000,5)]⟩,⟨2,[(0,0),(0,1),(0,2),(0,3),(1,0),(1,1),(1,2),(1,3),(20,0),(24,0),(100000,0),(100000,1),(100000,2),(100000,3),(100000,4),(100000,5)]⟩,⟨0,[]⟩] [.mv 17 (.t 0),.mv 18 (.t 5),.ia 19 4 (.t 17) (.t 18),.ldq 20 true 4 (.t 19),.mv 21 (.t 1),.mv 22 (.t 5),.ia 23 4 (.t 21) (.t 22),.ldq 24 true 4 (.t 23),.call (some 25) (.c (Fc qg5)) [(.t 20),(.t 24)] (.ro true),.un 26 .not (.t 25)]) (.keep [0,1,5,26] (.cond (.t 26) (.seq (.reg [.mv 4 (.c (B false))]) (.keep [4] .ret)) .skip)))) (.keep [0,1,5] (.reg [.mv 15 (.t 5),.bin 16 .add (.t 15) (.c (I 1)),.mv 5 (.t 16)])))))
def qeV:Lp:=⟨[0,1,5],[(2,0)],qkH⟩
@[go_sem] theorem qGr:qeV.ls=[0,1,5]:=rfl
@[go_sem] theorem qGq:qeV.ks=[(2,0)]:=rfl
@[go_sem] theorem qGp:qeV.body=qkH:=rfl
def qdC:AF where
 nargs:=2
 ntmps:=27
 res:=[.tmp 4]
 body:=(.seq (.reg [.mv 4 (.c (B false))]) (.seq (.seq (.reg [.mv 6 (.t 0),.len 7 (.t 6),.mv 8 (.t 1),.len 9 (.t 8),.bin 10 .neq (.t 7) (.t 9)]) (.keep [0,1,10] (.cond (.t 10) (.seq (.reg [.mv 4 (.c (B false))]) (.keep [4] .ret)) .skip))) (.keep [0,1] (.seq (.seq (.reg [.mv 5 (.c (I 0))]) (.block 0 (lpC qeV))) (.keep [] (.seq (.reg [.mv 4 (.c (B true))]) (.keep [4] .ret)))))))
def qkV:AC:=(.seq (.seq (.reg [.mv 22 (.t 8),.fa 23 (.t 3) 3,.ld 24 false 1 (.t 23),.len 25 (.t 24),.bin 26 .lss (.t 22) (.t 25)]) (.keep [1,2,3,6,7,8,26] (.cond (.t 26) .skip (.keep [6,7] (.exit 0))))) (.keep [1,2,3,6,7,8] (.seq (.block 1 (.dreg [⟨0,[]⟩,⟨0,[(7,0),(100000,0),(100000,1),(100000,2),(100000,3),(100000,4),(100000,5)]⟩,⟨0,[]⟩,⟨0,[(3,0),(100000,0),(100000,1),(100000,2),(100000,3),(100000,4),(100000,5)]⟩,⟨0,[]⟩,⟨0,[(0,0),(0,1),(0,2),(0,3),(32,0),(100000,0),(100000,1),(100000,2),(100000,3),(100000,4),(100000,5)]⟩,⟨0,[(0,0),(0,1),(0,2),(0,3),(3,0),(32,0),(100000,0),(100000,1),(100000,2),(100000,3),(100000,4),(100000,5)]⟩,⟨0,[]⟩,⟨0,[]⟩,⟨2,[(0,0),(0,1),(0,2),(0,3),(1,0),(1,1),(1,2),(1,3),(2,0),(2,1),(2,2),(2,3),(32,0),(35,0),(100000,0),(100000,1),(100000,2),(100000,3),(100000,4),(100000,5)]⟩,⟨1,[]⟩,⟨1,[(0,0),(0,1),(0,2),(0,3),(1,0),(1,1),(1,2),(1,3),(2,0),(2,1),(2,2),(2,3),(32,0),(35,0),(38,0),(38,1),(38,2),(38,3),(39,0),(500000,0),(100000,0),(100000,1),(100000,2),(100000,3),(100000,4),(100000,5)]⟩,⟨0,[]⟩,⟨1,[(7,0),(100000,0),(100000,1),(100000,2),(100000,3),(100000,4),(100000,5)]⟩] [.fa 29 (.t 7) 3,.ldq 30 false 1 (.t 29),.fa 31 (.t 3) 3,.ldq 32 false 1 (.t 31),.mv 33 (.t 8),.ia 34 4 (.t 32) (.t 33),.ldq 35 true 4 (.t 34),.mv 36 (.t 1),.mv 37 (.t 2),.call (some 38) (.c (Fc qhD)) [(.t 35),(.t 36),(.t 37)] (.ro false),.mks 39 4 [(.t 38)],.app 40 4 56 (.t 30) (.t 39),.fa 41 (.t 7) 3,.st 1 (.t 41) (.t 40)])) (.keep [1,2,3,6,7,8] (.reg [.mv 27 (.t 8),.bin 28 .add (.t 27) (.c (I 1)),.mv 8 (.t 28)])))))
def qe9:Lp:=⟨[1,2,3,6,7,8],[(3,0)],qkV⟩
@[go_sem] theorem qIF:qe9.ls=[1,2,3,6,7,8]:=rfl
@[go_sem] theorem qIE:qe9.ks=[(3,0)]:=rfl
@[go_sem] theorem qID:qe9.body=qkV:=rfl
def qd3:AF where
 nargs:=3
 ntmps:=43
 res:=[.cell 6 true 4]
 body:=(.seq (.reg [.new 3 (.t 0),.new 6 (.c (.a [(I 0),(S []),(I 0),(.n 4)]))]) (.seq (.reg [.ld 9 true 4 (.t 3),.new 7 (.c (.a [(I 0),(S []),(I 0),(.n 4)])),.st 4 (.t 7) (.t 9)]) (.seq (.seq (.reg [.fa 10 (.t 3) 0,.ld 11 false 1 (.t 10),.bin 12 .eql (.t 11) (.c (I 1))]) (.cond (.t 12) (.reg [.mv 13 (.t 2),.mv 14 (.t 1),.fa 15 (.t 3) 2,.ld 16 false 1 (.t 15),.call (some 17) (.c (Fc qqO)) [(.t 14),(.t 16)] (.ro false),.bin 18 .add (.t 13) (.t 17),.fa 19 (.t 7) 2,.st 1 (.t 19) (.t 18)]) .skip)) (.keep [1,2,3,6,7] (.seq (.reg [.mks 20 4 [],.fa 21 (.t 7) 3,.st 1 (.t 21) (.t 20)]) (.seq (.seq (.reg [.mv 8 (.c (I 0))]) (.block 0 (lpC qe9))) (.keep [6,7] (.seq (.reg [.ld 42 true 4 (.t 7),.st 4 (.t 6) (.t 42)]) (.keep [6] .ret)))))))))
def KL:AF where
 nargs:=2
 ntmps:=9
 res:=[.tmp 4]
 body:=(.seq (.reg [.mv 4 (.c (B false))]) (.seq (.reg [.mv 5 (.t 0),.mv 6 (.t 1),.call (some 7) (.c (Fc qhf)) [(.t 5),(.t 6)] (.ro false),.bin 8 .geq (.t 7) (.c (I 0)),.mv 4 (.t 8)]) (.keep [4] .ret)))
def qfe:AC:=(.seq (.reg [.bin 26 .lss (.t 25) (.t 24)]) (.seq (.cond (.t 26) .skip (.keep [0] (.exit 0))) (.keep [0,23,24,25] (.seq (.block 1 (.seq (.reg [.ia 27 4 (.t 23) (.t 25),.ld 28 true 4 (.t 27),.new 6 (.c (.a [(I 0),(S []),(I 0),(.n 4)])),.st 4 (.t 6) (.t 28)]) (.keep [0,6,23,24,25] (.reg [.mv 29 (.t 0),.ld 30 true 4 (.t 6),.call (some 31) (.c (Fc qbd)) [(.t 29),(.t 30)] (.io false),.mv 0 (.t 31)])))) (.keep [0,23,24,25] (.reg [.bin 32 .add (.t 25) (.c (I 1)),.mv 25 (.t 32)]))))))
def qbE:Lp:=⟨[0,23,24,25],[(0,0)],qfe⟩
@[go_sem] theorem qFL:qbE.ls=[0,23,24,25]:=rfl
@[go_sem] theorem qFK:qbE.ks=[(0,0)]:=rfl
@[go_sem] theorem qFJ:qbE.body=qfe:=rfl
def Z6:AF where
 nargs:=2
 ntmps:=34
 res:=[.tmp 4]
 body:=(.seq (.reg [.new 3 (.t 1),.mv 4 (.c (.n 1))]) (.seq (.seq (.reg [.fa 7 (.t 3) 0,.ld 8 false 1 (.t 7),.bin 9 .eql (.t 8) (.c (I 1)),.mv 10 (.t 9),.gd 10 true (some 11) (.mv 11 (.t 0)),.gd 10 true (some 12) (.fa 12 (.t 3) 2),.gd 10 true (some 13) (.ld 13 false 1 (.t 12)),.gd 10 true (some 14) (.call (some 14) (.c (Fc qha)) [(.t 11),(.t 13)] (.ro true)),.gd 10 true (some 15) (.un 15 .not (.t 14)),.pick 16 (.t 10) (.t 15) (.c (B false))]) (.keep [0,3,16] (.cond (.t 16) (.reg [.mv 17 (.t 0),.fa 18 (.t 3) 2,.ld 19 false 1 (.t 18),.mks 20 1 [(.t 19)],.app 21 1 8 (.t 17) (.t 20),.mv 0 (.t 21)]) .skip))) (.keep [0,3] (.seq (.seq (.reg [.fa 22 (.t 3) 3,.ld 23 false 1 (.t 22),.len 24 (.t 23),.mv 25 (.c (I 0))]) (.keep [0,23,24,25] (.block 0 (lpC qbE)))) (.keep [0] (.seq (.reg [.mv 33 (.t 0),.mv 4 (.t 33)]) (.keep [4] .ret)))))))
def qdt:AF where
 nargs:=3
 ntmps:=10
 res:=[.tmp 4]
 body:=(.seq (.reg [.mv 4 (.c (I 0))]) (.seq (.dreg [⟨0,[(1,0),(1,1),(1,2),(1,3)]⟩,⟨0,[(2,0),(2,1),(2,2),(2,3)]⟩,⟨0,[]⟩,⟨2,[(0,0),(0,1),(0,2),(0,3),(2,0),(2,1),(2,2),(2,3),(6,0)]⟩,⟨0,[]⟩,⟨0,[]⟩] [.ldq 5 false 1 (.t 1),.ldq 6 false 1 (.t 2),.mv 7 (.t 0),.call (some 8) (.c (Fc qey)) [(.t 6),(.t 7)] (.ro false),.bin 9 .add (.t 5) (.t 8),.mv 4 (.t 9)]) (.keep [4] .ret)))
def qcd:AC:=(.seq (.reg [.bin 9 .lss (.t 8) (.t 7)]) (.seq (.cond (.t 9) .skip (.keep [] (.exit 0))) (.keep [0,1,7,8] (.seq (.block 1 (.seq (.reg [.mv 10 (.t 8),.mv 5 (.t 10)]) (.seq (.reg [.mv 11 (.t 1),.mv 12 (.t 0),.mv 13 (.t 5),.ia 14 1 (.t 12) (.t 13),.ld 15 false 1 (.t 14),.bin 16 .eql (.t 11) (.t 15)]) (.keep [0,1,5,7,8,16] (.cond (.t 16) (.seq (.reg [.mv 17 (.t 5),.mv 4 (.t 17)]) (.keep [4] .ret)) .skip))))) (.keep [0,1,7,8] (.reg [.bin 18 .add (.t 8) (.c (I 1)),.mv 8 (.t 18)]))))))
def Jy:Lp:=⟨[0,1,7,8],[(2,0)],qcd⟩
@[go_sem] theorem qG7:Jy.ls=[0,1,7,8]:=rfl
@[go_sem] theorem qG6:Jy.ks=[(2,0)]:=rfl
@[go_sem] theorem qG5:Jy.body=qcd:=rfl
def Y6:AF where
 nargs:=2
 ntmps:=19
 res:=[.tmp 4]
 body:=(.seq (.reg [.mv 4 (.c (I 0))]) (.seq (.seq (.reg [.mv 6 (.t 0),.len 7 (.t 6),.mv 8 (.c (I 0))]) (.block 0 (lpC Jy))) (.keep [] (.seq (.reg [.mv 4 (.c (I (-1)))]) (.keep [4] .ret)))))
def Zn:AF where
 nargs:=1
 ntmps:=18
 res:=[.cell 2 true 4,.tmp 3]
 body:=(.seq (.reg [.new 2 (.c (.a [(S []),(I 0),(I 0),(I 0)])),.mv 3 (.c (B false))]) (.seq (.seq (.reg [.mv 4 (.t 0)]) (.block 0 (.seq (.reg [.bin 6 .eql (.t 4) (.c (S [58,45])),.mv 5 (.t 6)]) (.cond (.t 5) (.seq (.reg [.mv 7 (.t 0),.build 8 (.a [(S []),(I 0),(I 0),(I 0)]) [(0,1,(.t 7)),(1,1,(.c (I 1200))),(3,1,(.c (I 1199)))],.st 4 (.t 2) (.t 8),.mv 3 (.c (B true))]) (.keep [2,3] .ret)) (.seq (.reg [.bin 10 .eql (.t 4) (.c (S [92,43])),.mv 9 (.t 10)]) (.cond (.t 9) (.seq (.reg [.mv 11 (.t 0),.build 12 (.a [(S []),(I 0),(I 0),(I 0)]) [(0,1,(.t 11)),(1,1,(.c (I 900))),(3,1,(.c (I 900)))],.st 4 (.t 2) (.t 12),.mv 3 (.c (B true))]) (.keep [2,3] .ret)) (.seq (.reg [.bin 14 .eql (.t 4) (.c (S [45])),.mv 13 (.t 14)]) (.cond (.t 13) (.seq (.reg [.mv 15 (.t 0),.build 16 (.a [(S []),(I 0),(I 0),(I 0)]) [(0,1,(.t 15)),(1,1,(.c (I 200))),(3,1,(.c (I 200)))],.st 4 (.t 2) (.t 16),.mv 3 (.c (B true))]) (.keep [2,3] .ret)) .skip)))))))) (.keep [2] (.seq (.reg [.build 17 (.a [(S []),(I 0),(I 0),(I 0)]) [],.st 4 (.t 2) (.t 17),.mv 3 (.c (B false))]) (.keep [2,3] .ret)))))
def QS:AC:=(.seq (.seq (.reg [.mv 11 (.t 5),.mv 12 (.t 0),.slen 13 (.t 12),.bin 14 .lss (.t 11) (.t 13)]) (.keep [0,4,5,14] (.cond (.t 14) .skip (.keep [4] (.exit 0))))) (.keep [0,4,5] (.block 1 (.seq (.seq (.reg [.mv 15 (.t 0),.mv 16 (.t 5),.ix 17 (.t 15) (.t 16)]) (.block 2 (.seq (.seq (.reg [.bin 19 .eql (.t 17) (.c (U8 32)),.mv 18 (.t 19)]) (.cond (.t 18) .skip (.seq (.reg [.bin 20 .eql (.t 17) (.c (U8 9)),.mv 18 (.t 20)]) (.cond (.t 18) .skip (.reg [.bin 21 .eql (.t 17) (.c (U8 10)),.mv 18 (.t 21)]))))) (.keep [0,4,5,17,18] (.cond (.t 18) (.seq (.reg [.mv 22 (.t 5),.bin 23 .add (.t 22) (.c (I 1)),.mv 5 (.t 23)]) (.keep [0,4,5] (.exit 1))) (.seq (.reg [.bin 25 .eql (.t 17) (.c (U8 37)),.mv 24 (.t 25)]) (.cond (.t 24) (.seq (.reg [.mv 26 (.t 0),.mv 27 (.t 5),.call (some 28) (.c (Fc Xp)) [(.t 26),(.t 27),(.c (Fc qef))] (.ro false),.mv 5 (.t 28)]) (.keep [0,4,5] (.exit 1))) .skip))))))) (.keep [0,4,5] (.seq (.reg [.mv 30 (.t 0),.mv 31 (.t 5),.call (some 32) (.c (Fc qgZ)) [(.t 30),(.t 31)] (.ro false),.mv 29 (.t 32),.ext 33 (.t 29) 0,.ext 34 (.t 29) 1,.new 6 (.c (.a [(I 0),(S []),(I 0),(I 0),(B false)])),.st 5 (.t 6) (.t 33),.mv 7 (.t 34)]) (.keep [0,4,6,7] (.seq (.reg [.mv 35 (.t 7),.mv 36 (.t 0),.slen 37 (.t 36),.bin 38 .lss (.t 35) (.t 37),.mv 39 (.t 38),.gd 39 true (some 40) (.mv 40 (.t 0)),.gd 39 true (some 41) (.mv 41 (.t 7)),.gd 39 true (some 42) (.ix 42 (.t 40) (.t 41)),.gd 39 true (some 43) (.bin 43 .eql (.t 42) (.c (U8 40))),.pick 44 (.t 39) (.t 43) (.c (B false)),.fa 45 (.t 6) 4,.st 1 (.t 45) (.t 44)]) (.keep [0,4,6,7] (.seq (.reg [.mv 46 (.t 4),.ld 47 true 5 (.t 6),.mks 48 5 [(.t 47)],.app 49 5 48 (.t 46) (.t 48),.mv 4 (.t 49)]) (.keep [0,4,7] (.reg [.mv 50 (.t 7),.mv 5 (.t 50)]))))))))))))
def qbC:Lp:=⟨[0,4,5],[(1,0)],QS⟩
@[go_sem] theorem qFF:qbC.ls=[0,4,5]:=rfl
@[go_sem] theorem qFE:qbC.ks=[(1,0)]:=rfl
@[go_sem] theorem qFD:qbC.body=QS:=rfl
def YV:AF where
 nargs:=1
 ntmps:=52
 res:=[.tmp 2,.tmp 3]
 body:=(.seq (.reg [.mv 2 (.c (.n 5)),.mv 3 (.c (B false))]) (.seq (.seq (.reg [.mv 8 (.t 0),.slen 9 (.t 8),.bin 10 .gtr (.t 9) (.c (I 3000))]) (.cond (.t 10) (.seq (.reg [.mv 2 (.c (.n 5)),.mv 3 (.c (B false))]) (.keep [2,3] .ret)) .skip)) (.keep [0] (.seq (.reg [.mv 4 (.c (.n 5))]) (.seq (.seq (.reg [.mv 5 (.c (I 0))]) (.block 0 (lpC qbC))) (.keep [4] (.seq (.reg [.mv 51 (.t 4),.mv 2 (.t 51),.mv 3 (.c (B true))]) (.keep [2,3] .ret))))))))
def K4:AF where
 nargs:=1
 ntmps:=13
 res:=[.tmp 2]
 body:=(.seq (.reg [.mv 2 (.c (B false))]) (.seq (.reg [.mv 3 (.t 0),.call (some 4) (.c (Fc qeG)) [(.t 3)] (.ro false),.mv 5 (.t 4),.gd 5 false (some 6) (.mv 6 (.t 0)),.gd 5 false (some 7) (.call (some 7) (.c (Fc qbw)) [(.t 6)] (.ro false)),.pick 8 (.t 5) (.c (B true)) (.t 7),.mv 9 (.t 8),.gd 9 false (some 10) (.mv 10 (.t 0)),.gd 9 false (some 11) (.call (some 11) (.c (Fc qbv)) [(.t 10)] (.ro false)),.pick 12 (.t 9) (.c (B true)) (.t 11),.mv 2 (.t 12)]) (.keep [2] .ret)))
def Yu:AC:=(.seq (.seq (.reg [.mv 4 (.t 3),.mv 5 (.t 0),.slen 6 (.t 5),.bin 7 .lss (.t 4) (.t 6)]) (.keep [0,3,7] (.cond (.t 7) .skip (.keep [0] (.exit 0))))) (.keep [0,3] (.seq (.block 1 (.seq (.reg [.mv 10 (.t 0),.mv 11 (.t 3),.ix 12 (.t 10) (.t 11),.bin 13 .lss (.t 12) (.c (U8 33)),.mv 14 (.t 13),.gd 14 false (some 15) (.mv 15 (.t 0)),.gd 14 false (some 16) (.mv 16 (.t 3)),.gd 14 false (some 17) (.ix 17 (.t 15) (.t 16)),.gd 14 false (some 18) (.bin 18 .gtr (.t 17) (.c (U8 126))),.pick 19 (.t 14) (.c (B true)) (.t 18),.mv 20 (.t 19),.gd 20 false (some 21) (.mv 21 (.t 0)),.gd 20 false (some 22) (.mv 22 (.t 3)),.gd 20 false (some 23) (.ix 23 (.t 21) (.t 22)),.gd 20 false (some 24) (.bin 24 .eql (.t 23) (.c (U8 39))),.pick 25 (.t 20) (.c (B true)) (.t 24),.mv 26 (.t 25),.gd 26 false (some 27) (.mv 27 (.t 0)),.gd 26 false (some 28) (.mv 28 (.t 3)),.gd 26 false (some 29) (.ix 29 (.t 27) (.t 28)),.gd 26 false (some 30) (.bin 30 .eql (.t 29) (.c (U8 34))),.pick 31 (.t 26) (.c (B true)) (.t 30)]) (.keep [0,3,31] (.cond (.t 31) (.seq (.reg [.mv 2 (.c (B false))]) (.keep [2] .ret)) .skip)))) (.keep [0,3] (.reg [.mv 8 (.t 3),.bin 9 .add (.t 8) (.c (I 1)),.mv 3 (.t 9)])))))
def JC:Lp:=⟨[0,3],[(1,0)],Yu⟩
@[go_sem] theorem qHN:JC.ls=[0,3]:=rfl
@[go_sem] theorem qHM:JC.ks=[(1,0)]:=rfl
@[go_sem] theorem qHL:JC.body=Yu:=rfl
def Xe:AF where
 nargs:=1
 ntmps:=35
 res:=[.tmp 2]
 body:=(.seq (.reg [.mv 2 (.c (B false))]) (.seq (.seq (.reg [.mv 3 (.c (I 0))]) (.block 0 (lpC JC))) (.keep [0] (.seq (.reg [.mv 32 (.t 0),.slen 33 (.t 32),.call (some 34) (.c (Fc Xs)) [(.t 33),(.c (I 1)),(.c (I 20))] (.ro false),.mv 2 (.t 34)]) (.keep [2] .ret)))))
def kh:AF where
 nargs:=2
 ntmps:=122
 res:=[.cell 4 true 4,.tmp 5]
 body:=(.seq (.reg [.new 4 (.c (.a [(I 0),(S []),(I 0),(.n 4)])),.mv 5 (.c (I 0))]) (.seq (.dreg [⟨0,[]⟩,⟨0,[]⟩,⟨0,[]⟩,⟨0,[(0,0),(0,1),(0,2),(0,3),(28,0),(47,0),(82,0),(115,0)]⟩,⟨0,[]⟩,⟨0,[]⟩,⟨0,[]⟩,⟨0,[(0,0),(0,1),(0,2),(0,3),(28,0),(47,0),(82,0),(115,0)]⟩,⟨0,[(0,0),(0,1),(0,2),(0,3),(15,0),(19,0),(28,0),(47,0),(82,0),(115,0)]⟩,⟨0,[(0,0),(0,1),(0,2),(0,3),(15,0),(19,0),(28,0),(47,0),(82,0),(115,0)]⟩,⟨1,[]⟩,⟨1,[(6,0)]⟩] [.mv 12 (.t 0),.nilc 13 (.t 12),.fa 14 (.t 13) 0,.ldq 15 false 1 (.t 14),.mv 16 (.t 0),.nilc 17 (.t 16),.fa 18 (.t 17) 1,.ldq 19 false 1 (.t 18),.ia 20 5 (.t 15) (.t 19),.ldq 21 true 5 (.t 20),.new 6 (.c (.a [(I 0),(S []),(I 0),(I 0),(B false)])),.st 5 (.t 6) (.t 21)]) (.keep [0,1,4,6] (.seq (.seq (.reg [.fa 22 (.t 6) 4,.ld 23 false 1 (.t 22)]) (.cond (.t 23) (.seq (.reg [.mv 24 (.t 0),.mv 25 (.t 0),.nilc 26 (.t 25),.fa 27 (.t 26) 1,.ld 28 false 1 (.t 27),.bin 29 .add (.t 28) (.c (I 2)),.nilc 30 (.t 24),.fa 31 (.t 30) 1,.st 1 (.t 31) (.t 29)]) (.keep [0,4,6] (.seq (.reg [.mv 32 (.t 0),.fa 33 (.t 6) 1,.ld 34 false 1 (.t 33),.call (some 35) (.c (Fc qeI)) [(.t 32),(.t 34)] (.io false),.st 4 (.t 4) (.t 35),.mv 5 (.c (I 0))]) (.keep [0,4,5] .ret)))) .skip)) (.keep [0,1,4,6] (.seq (.seq (.reg [.fa 36 (.t 6) 1,.ld 37 false 1 (.t 36),.bin 38 .eql (.t 37) (.c (S [45])),.mv 39 (.t 38),.gd 39 true (some 40) (.mv 40 (.t 0)),.gd 39 true (some 41) (.call (some 41) (.c (Fc qhu)) [(.t 40)] (.ro true)),.pick 42 (.t 39) (.t 41) (.c (B false))]) (.keep [0,1,4,6,42] (.cond (.t 42) (.seq (.reg [.mv 43 (.t 0),.mv 44 (.t 0),.nilc 45 (.t 44),.fa 46 (.t 45) 1,.ld 47 false 1 (.t 46),.bin 48 .add (.t 47) (.c (I 2)),.nilc 49 (.t 43),.fa 50 (.t 49) 1,.st 1 (.t 50) (.t 48)]) (.keep [0,4] (.seq (.dreg [⟨0,[]⟩,⟨0,[]⟩,⟨0,[]⟩,⟨0,[(0,0),(0,1),(0,2),(0,3),(28,0),(47,0),(82,0),(115,0)]⟩,⟨0,[]⟩,⟨0,[]⟩,⟨0,[]⟩,⟨0,[(0,0),(0,1),(0,2),(0,3),(28,0),(47,0),(82,0),(115,0)]⟩,⟨0,[]⟩,⟨0,[(0,0),(0,1),(0,2),(0,3),(28,0),(47,0),(54,0),(58,0),(82,0),(115,0)]⟩,⟨0,[]⟩,⟨0,[(0,0),(0,1),(0,2),(0,3),(28,0),(47,0),(54,0),(58,0),(82,0),(115,0)]⟩,⟨0,[]⟩,⟨2,[(0,0),(0,1),(0,2),(0,3),(28,0),(47,0),(54,0),(58,0),(62,0),(82,0),(115,0)]⟩,⟨1,[(4,0)]⟩,⟨0,[]⟩] [.mv 51 (.t 0),.nilc 52 (.t 51),.fa 53 (.t 52) 0,.ldq 54 false 1 (.t 53),.mv 55 (.t 0),.nilc 56 (.t 55),.fa 57 (.t 56) 1,.ldq 58 false 1 (.t 57),.bin 59 .sub (.t 58) (.c (I 1)),.ia 60 5 (.t 54) (.t 59),.fa 61 (.t 60) 2,.ldq 62 false 1 (.t 61),.un 63 .neg (.t 62),.call (some 64) (.c (Fc qbs)) [(.t 63)] (.ro false),.st 4 (.t 4) (.t 64),.mv 5 (.c (I 0))]) (.keep [0,4,5] .ret)))) .skip))) (.keep [0,1,4,6] (.seq (.reg [.fa 66 (.t 6) 1,.ld 67 false 1 (.t 66),.call (some 68) (.c (Fc qeB)) [(.t 67)] (.ro false),.mv 65 (.t 68),.ext 69 (.t 65) 0,.ext 70 (.t 65) 1,.new 7 (.c (.a [(S []),(I 0),(I 0),(I 0)])),.st 4 (.t 7) (.t 69),.mv 8 (.t 70)]) (.keep [0,1,4,6,7,8] (.seq (.seq (.reg [.mv 71 (.t 8),.mv 72 (.t 71),.gd 72 true (some 73) (.fa 73 (.t 7) 1),.gd 72 true (some 74) (.ld 74 false 1 (.t 73)),.gd 72 true (some 75) (.mv 75 (.t 1)),.gd 72 true (some 76) (.bin 76 .leq (.t 74) (.t 75)),.pick 77 (.t 72) (.t 76) (.c (B false))]) (.keep [0,4,6,7,8,77] (.cond (.t 77) (.seq (.reg [.mv 78 (.t 0),.mv 79 (.t 0),.nilc 80 (.t 79),.fa 81 (.t 80) 1,.ld 82 false 1 (.t 81),.bin 83 .add (.t 82) (.c (I 1)),.nilc 84 (.t 78),.fa 85 (.t 84) 1,.st 1 (.t 85) (.t 83)]) (.keep [0,4,6,7] (.seq (.reg [.mv 86 (.t 0),.fa 87 (.t 7) 3,.ld 88 false 1 (.t 87),.call (some 89) (.c (Fc yc)) [(.t 86),(.t 88)] (.io false),.new 9 (.c (.a [(I 0),(S []),(I 0),(.n 4)])),.st 4 (.t 9) (.t 89)]) (.keep [0,4,6,7,9] (.seq (.dreg [⟨0,[]⟩,⟨0,[(6,0)]⟩,⟨0,[(9,0)]⟩,⟨1,[]⟩,⟨0,[]⟩,⟨0,[]⟩,⟨0,[(7,0)]⟩,⟨1,[(4,0)]⟩,⟨0,[]⟩] [.fa 90 (.t 6) 1,.ldq 91 false 1 (.t 90),.ldq 92 true 4 (.t 9),.mks 93 4 [(.t 92)],.build 94 (.a [(I 0),(S []),(I 0),(.n 4)]) [(0,1,(.c (I 4))),(1,1,(.t 91)),(3,1,(.t 93))],.fa 95 (.t 7) 1,.ldq 96 false 1 (.t 95),.st 4 (.t 4) (.t 94),.mv 5 (.t 96)]) (.keep [0,4,5] .ret)))))) .skip))) (.keep [0,4,6,8] (.seq (.reg [.fa 98 (.t 6) 1,.ld 99 false 1 (.t 98),.call (some 100) (.c (Fc Yo)) [(.t 99)] (.ro true),.mv 97 (.t 100),.ext 101 (.t 97) 0,.ext 102 (.t 97) 1,.new 10 (.c (.a [(S []),(I 0),(I 0),(I 0)])),.st 4 (.t 10) (.t 101),.mv 11 (.t 102)]) (.keep [0,4,6,8,11] (.seq (.seq (.reg [.mv 103 (.t 8),.mv 104 (.t 103),.gd 104 false (some 105) (.mv 105 (.t 11)),.pick 106 (.t 104) (.c (B true)) (.t 105)]) (.keep [0,4,6,106] (.cond (.t 106) (.seq (.reg [.mv 107 (.t 0),.nilc 108 (.t 107),.fa 109 (.t 108) 2,.st 1 (.t 109) (.c (B true))]) (.keep [0,4] (.seq (.reg [.build 110 (.a [(I 0),(S []),(I 0),(.n 4)]) [],.st 4 (.t 4) (.t 110),.mv 5 (.c (I 0))]) (.keep [0,4,5] .ret)))) .skip))) (.keep [0,4,6] (.seq (.reg [.mv 111 (.t 0),.mv 112 (.t 0),.nilc 113 (.t 112),.fa 114 (.t 113) 1,.ld 115 false 1 (.t 114),.bin 116 .add (.t 115) (.c (I 1)),.nilc 117 (.t 111),.fa 118 (.t 117) 1,.st 1 (.t 118) (.t 116)]) (.keep [0,4,6] (.seq (.reg [.fa 119 (.t 6) 1,.ld 120 false 1 (.t 119),.call (some 121) (.c (Fc ZE)) [(.t 120)] (.ro false),.st 4 (.t 4) (.t 121),.mv 5 (.c (I 0))]) (.keep [0,4,5] .ret)))))))))))))))))))
def Xg:AF where
 nargs:=2
 ntmps:=16
 res:=[.tmp 4]
 body:=(.seq (.reg [.mv 4 (.c (B false))]) (.seq (.seq (.reg [.mv 5 (.t 0),.mv 6 (.t 1),.call (some 7) (.c (Fc QN)) [(.t 5),(.c (I 4)),(.t 6)] (.ro true)]) (.cond (.t 7) (.seq (.reg [.mv 8 (.t 0),.mv 9 (.t 0),.nilc 10 (.t 9),.fa 11 (.t 10) 1,.ld 12 false 1 (.t 11),.bin 13 .add (.t 12) (.c (I 1)),.nilc 14 (.t 8),.fa 15 (.t 14) 1,.st 1 (.t 15) (.t 13)]) (.keep [0] (.seq (.reg [.mv 4 (.c (B true))]) (.keep [0,4] .ret)))) .skip)) (.keep [0] (.seq (.reg [.mv 4 (.c (B false))]) (.keep [0,4] .ret)))))
def QK:AF where
 nargs:=1
 ntmps:=75
 res:=[.cell 2 true 4]
 body:=(.seq (.reg [.new 2 (.c (.a [(I 0),(S []),(I 0),(.n 4)]))]) (.seq (.seq (.dreg [⟨0,[]⟩,⟨2,[(0,0),(0,1),(0,2),(0,3),(53,0)]⟩,⟨0,[]⟩,⟨0,[]⟩,⟨0,[]⟩,⟨0,[]⟩,⟨0,[(0,0),(0,1),(0,2),(0,3),(53,0)]⟩,⟨0,[]⟩,⟨0,[]⟩,⟨0,[]⟩,⟨0,[]⟩,⟨0,[(0,0),(0,1),(0,2),(0,3),(53,0)]⟩,⟨0,[(0,0),(0,1),(0,2),(0,3),(15,0),(53,0)]⟩,⟨0,[]⟩,⟨0,[]⟩,⟨0,[]⟩,⟨0,[]⟩,⟨0,[]⟩,⟨0,[]⟩,⟨0,[(0,0),(0,1),(0,2),(0,3),(53,0)]⟩,⟨0,[]⟩,⟨0,[]⟩,⟨0,[]⟩,⟨0,[(0,0),(0,1),(0,2),(0,3),(53,0)]⟩,⟨0,[]⟩,⟨0,[(0,0),(0,1),(0,2),(0,3),(23,0),(27,0),(53,0)]⟩,⟨0,[]⟩,⟨0,[(0,0),(0,1),(0,2),(0,3),(23,0),(27,0),(53,0)]⟩,⟨0,[]⟩,⟨0,[]⟩,⟨0,[]⟩,⟨0,[]⟩,⟨0,[]⟩,⟨0,[]⟩,⟨0,[(0,0),(0,1),(0,2),(0,3),(53,0)]⟩,⟨0,[]⟩,⟨0,[]⟩,⟨0,[]⟩,⟨0,[(0,0),(0,1),(0,2),(0,3),(53,0)]⟩,⟨0,[]⟩,⟨0,[(0,0),(0,1),(0,2),(0,3),(38,0),(42,0),(53,0)]⟩,⟨0,[]⟩,⟨0,[(0,0),(0,1),(0,2),(0,3),(38,0),(42,0),(53,0)]⟩,⟨0,[]⟩,⟨0,[]⟩] [.mv 4 (.t 0),.call (some 5) (.c (Fc QN)) [(.t 4),(.c (I 1)),(.c (S []))] (.ro true),.mv 6 (.t 5),.gd 6 true (some 7) (.mv 7 (.t 0)),.gd 6 true (some 8) (.nilc 8 (.t 7)),.gd 6 true (some 9) (.fa 9 (.t 8) 1),.gd 6 true (some 10) (.ldq 10 false 1 (.t 9)),.gd 6 true (some 11) (.bin 11 .add (.t 10) (.c (I 1))),.gd 6 true (some 12) (.mv 12 (.t 0)),.gd 6 true (some 13) (.nilc 13 (.t 12)),.gd 6 true (some 14) (.fa 14 (.t 13) 0),.gd 6 true (some 15) (.ldq 15 false 1 (.t 14)),.gd 6 true (some 16) (.len 16 (.t 15)),.gd 6 true (some 17) (.bin 17 .lss (.t 11) (.t 16)),.pick 18 (.t 6) (.t 17) (.c (B false)),.mv 19 (.t 18),.gd 19 true (some 20) (.mv 20 (.t 0)),.gd 19 true (some 21) (.nilc 21 (.t 20)),.gd 19 true (some 22) (.fa 22 (.t 21) 0),.gd 19 true (some 23) (.ldq 23 false 1 (.t 22)),.gd 19 true (some 24) (.mv 24 (.t 0)),.gd 19 true (some 25) (.nilc 25 (.t 24)),.gd 19 true (some 26) (.fa 26 (.t 25) 1),.gd 19 true (some 27) (.ldq 27 false 1 (.t 26)),.gd 19 true (some 28) (.bin 28 .add (.t 27) (.c (I 1))),.gd 19 true (some 29) (.ia 29 5 (.t 23) (.t 28)),.gd 19 true (some 30) (.fa 30 (.t 29) 0),.gd 19 true (some 31) (.ldq 31 false 1 (.t 30)),.gd 19 true (some 32) (.bin 32 .eql (.t 31) (.c (I 4))),.pick 33 (.t 19) (.t 32) (.c (B false)),.mv 34 (.t 33),.gd 34 true (some 35) (.mv 35 (.t 0)),.gd 34 true (some 36) (.nilc 36 (.t 35)),.gd 34 true (some 37) (.fa 37 (.t 36) 0),.gd 34 true (some 38) (.ldq 38 false 1 (.t 37)),.gd 34 true (some 39) (.mv 39 (.t 0)),.gd 34 true (some 40) (.nilc 40 (.t 39)),.gd 34 true (some 41) (.fa 41 (.t 40) 1),.gd 34 true (some 42) (.ldq 42 false 1 (.t 41)),.gd 34 true (some 43) (.bin 43 .add (.t 42) (.c (I 1))),.gd 34 true (some 44) (.ia 44 5 (.t 38) (.t 43)),.gd 34 true (some 45) (.fa 45 (.t 44) 1),.gd 34 true (some 46) (.ldq 46 false 1 (.t 45)),.gd 34 true (some 47) (.bin 47 .eql (.t 46) (.c (S [41]))),.pick 48 (.t 34) (.t 47) (.c (B false))]) (.keep [0,2,48] (.cond (.t 48) (.seq (.reg [.mv 49 (.t 0),.mv 50 (.t 0),.nilc 51 (.t 50),.fa 52 (.t 51) 1,.ld 53 false 1 (.t 52),.bin 54 .add (.t 53) (.c (I 2)),.nilc 55 (.t 49),.fa 56 (.t 55) 1,.st 1 (.t 56) (.t 54)]) (.keep [0,2] (.seq (.dreg [⟨0,[]⟩,⟨0,[]⟩,⟨0,[]⟩,⟨0,[(0,0),(0,1),(0,2),(0,3),(53,0)]⟩,⟨0,[]⟩,⟨0,[]⟩,⟨0,[]⟩,⟨0,[(0,0),(0,1),(0,2),(0,3),(53,0)]⟩,⟨0,[]⟩,⟨0,[(0,0),(0,1),(0,2),(0,3),(53,0),(60,0),(64,0)]⟩,⟨0,[]⟩,⟨0,[(0,0),(0,1),(0,2),(0,3),(53,0),(60,0),(64,0)]⟩,⟨2,[(0,0),(0,1),(0,2),(0,3),(53,0),(60,0),(64,0),(68,0)]⟩,⟨1,[(2,0)]⟩] [.mv 57 (.t 0),.nilc 58 (.t 57),.fa 59 (.t 58) 0,.ldq 60 false 1 (.t 59),.mv 61 (.t 0),.nilc 62 (.t 61),.fa 63 (.t 62) 1,.ldq 64 false 1 (.t 63),.bin 65 .sub (.t 64) (.c (I 2)),.ia 66 5 (.t 60) (.t 65),.fa 67 (.t 66) 1,.ldq 68 false 1 (.t 67),.call (some 69) (.c (Fc ZE)) [(.t 68)] (.ro false),.st 4 (.t 2) (.t 69)]) (.keep [0,2] .ret)))) .skip))) (.keep [0,2] (.seq (.reg [.mv 70 (.t 0),.call (some 71) (.c (Fc yc)) [(.t 70),(.c (I 1200))] (.io false),.new 3 (.c (.a [(I 0),(S []),(I 0),(.n 4)])),.st 4 (.t 3) (.t 71)]) (.keep [0,2,3] (.seq (.reg [.mv 72 (.t 0),.call (some 73) (.c (Fc Qh)) [(.t 72),(.c (S [41]))] (.io true)]) (.seq (.reg [.ld 74 true 4 (.t 3),.st 4 (.t 2) (.t 74)]) (.keep [0,2] .ret))))))))
def qfm:AC:=(.seq (.seq (.reg [.mv 34 (.t 5),.bin 35 .geq (.t 34) (.c (I 0))]) (.cond (.t 35) .skip (.keep [0,2,4] (.exit 2)))) (.keep [0,2,3,4,5] (.seq (.block 3 (.opd [(500000,3,some 5)] (.dreg [⟨0,[]⟩,⟨0,[]⟩,⟨0,[(0,0),(0,1),(0,2),(0,3),(9,0),(18,0),(18,1),(18,2),(18,3),(19,0),(20,0),(100000,0),(100000,1),(100000,2),(100000,3),(100000,4),(100000,5)]⟩,⟨0,[(0,0),(0,1),(0,2),(0,3),(9,0),(18,0),(18,1),(18,2),(18,3),(19,0),(20,0),(100000,0),(100000,1),(100000,2),(100000,3),(100000,4),(100000,5)]⟩,⟨0,[(4,0),(100000,0),(100000,1),(100000,2),(100000,3),(100000,4),(100000,5)]⟩,⟨1,[(0,0),(0,1),(0,2),(0,3),(9,0),(10,0),(10,1),(10,2),(10,3),(18,0),(18,1),(18,2),(18,3),(19,0),(20,0),(26,0),(26,1),(26,2),(26,3),(41,0),(42,0),(100000,0),(100000,1),(100000,2),(100000,3),(100000,4),(100000,5),(500000,0)]⟩,⟨1,[(4,0),(100000,0),(100000,1),(100000,2),(100000,3),(100000,4),(100000,5)]⟩] [.mv 38 (.t 3),.mv 39 (.t 5),.ia 40 4 (.t 38) (.t 39),.ldq 41 true 4 (.t 40),.ldq 42 true 4 (.t 4),.call (some 43) (.c (Fc Yq)) [(.c (S [46])),(.t 41),(.t 42)] (.io false),.st 4 (.t 4) (.t 43)]))) (.keep [0,2,3,4,5] (.reg [.mv 36 (.t 5),.bin 37 .sub (.t 36) (.c (I 1)),.mv 5 (.t 37)])))))
def qb2:Lp:=⟨[0,2,3,4,5],[(1,0)],qfm⟩
@[go_sem] theorem qIb:qb2.ls=[0,2,3,4,5]:=rfl
@[go_sem] theorem qIa:qb2.ks=[(1,0)]:=rfl
@[go_sem] theorem qH9:qb2.body=qfm:=rfl
def JL:AC:=(.seq (.seq (.reg [.mv 11 (.t 0),.nilc 12 (.t 11),.fa 13 (.t 12) 2,.ld 14 false 1 (.t 13),.un 15 .not (.t 14)]) (.keep [0,2,3,4,15] (.cond (.t 15) .skip (.keep [0,2,3,4] (.exit 0))))) (.keep [0,2,3,4] (.block 1 (.seq (.reg [.mv 16 (.t 3),.mv 17 (.t 0),.call (some 18) (.c (Fc yc)) [(.t 17),(.c (I 999))] (.io false),.mks 19 4 [(.t 18)],.app 20 4 56 (.t 16) (.t 19),.mv 3 (.t 20)]) (.keep [0,2,3,4] (.seq (.seq (.reg [.mv 21 (.t 0),.call (some 22) (.c (Fc QO)) [(.t 21),(.c (S [93]))] (.io true)]) (.cond (.t 22) (.keep [0,2,3,4] (.exit 0)) .skip)) (.keep [0,2,3,4] (.seq (.seq (.reg [.mv 23 (.t 0),.call (some 24) (.c (Fc QO)) [(.t 23),(.c (S [124]))] (.io true)]) (.cond (.t 24) (.seq (.reg [.mv 25 (.t 0),.call (some 26) (.c (Fc yc)) [(.t 25),(.c (I 999))] (.io false),.st 4 (.t 4) (.t 26)]) (.seq (.reg [.mv 27 (.t 0),.call (some 28) (.c (Fc Qh)) [(.t 27),(.c (S [93]))] (.io true)]) (.keep [0,2,3,4] (.exit 0)))) .skip)) (.keep [0,2,3,4] (.reg [.mv 29 (.t 0),.call (some 30) (.c (Fc Qh)) [(.t 29),(.c (S [44]))] (.io true)]))))))))))
def kL:Lp:=⟨[0,2,3,4],[(1,0)],JL⟩
@[go_sem] theorem qIe:kL.ls=[0,2,3,4]:=rfl
@[go_sem] theorem qId:kL.ks=[(1,0)]:=rfl
@[go_sem] theorem qIc:kL.body=JL:=rfl
def Zx:AF where
 nargs:=1
 ntmps:=45
 res:=[.cell 2 true 4]
 body:=(.seq (.reg [.new 2 (.c (.a [(I 0),(S []),(I 0),(.n 4)]))]) (.seq (.seq (.reg [.mv 6 (.t 0),.call (some 7) (.c (Fc QO)) [(.t 6),(.c (S [93]))] (.io true)]) (.cond (.t 7) (.seq (.reg [.call (some 8) (.c (Fc ZE)) [(.c (S [91,93]))] (.ro false),.st 4 (.t 2) (.t 8)]) (.keep [0,2] .ret)) .skip)) (.keep [0,2] (.seq (.reg [.mks 9 4 [],.mv 3 (.t 9)]) (.seq (.reg [.call (some 10) (.c (Fc ZE)) [(.c (S [91,93]))] (.ro false),.new 4 (.c (.a [(I 0),(S []),(I 0),(.n 4)])),.st 4 (.t 4) (.t 10)]) (.seq (.block 0 (lpC kL)) (.keep [0,2,3,4] (.seq (.seq (.reg [.mv 31 (.t 3),.len 32 (.t 31),.bin 33 .sub (.t 32) (.c (I 1)),.mv 5 (.t 33)]) (.keep [0,2,3,4,5] (.block 2 (lpC qb2)))) (.keep [0,2,4] (.seq (.reg [.ld 44 true 4 (.t 4),.st 4 (.t 2) (.t 44)]) (.keep [0,2] .ret)))))))))))
def Yw:AC:=(.seq (.seq (.reg [.mv 8 (.t 5),.mv 9 (.t 0),.nilc 10 (.t 9),.fa 11 (.t 10) 4,.ld 12 false 1 (.t 11),.len 13 (.t 12),.bin 14 .lss (.t 8) (.t 13)]) (.keep [0,1,4,5,14] (.cond (.t 14) .skip (.keep [0,1,4] (.exit 0))))) (.keep [0,1,4,5] (.seq (.block 1 (.seq (.reg [.mv 17 (.t 0),.nilc 18 (.t 17),.fa 19 (.t 18) 4,.ld 20 false 1 (.t 19),.mv 21 (.t 5),.ia 22 1 (.t 20) (.t 21),.ld 23 false 1 (.t 22),.mv 24 (.t 1),.bin 25 .eql (.t 23) (.t 24)]) (.keep [0,1,4,5,25] (.cond (.t 25) (.seq (.reg [.mv 26 (.t 5),.call (some 27) (.c (Fc qbu)) [(.t 26)] (.ro false),.st 4 (.t 4) (.t 27)]) (.keep [0,4] .ret)) .skip)))) (.keep [0,1,4,5] (.reg [.mv 15 (.t 5),.bin 16 .add (.t 15) (.c (I 1)),.mv 5 (.t 16)])))))
def jF:Lp:=⟨[0,1,4,5],[(2,0)],Yw⟩
@[go_sem] theorem qIn:jF.ls=[0,1,4,5]:=rfl
@[go_sem] theorem qIm:jF.ks=[(2,0)]:=rfl
@[go_sem] theorem qIl:jF.body=Yw:=rfl
def QL:AF where
 nargs:=2
 ntmps:=45
 res:=[.cell 4 true 4]
 body:=(.seq (.reg [.new 4 (.c (.a [(I 0),(S []),(I 0),(.n 4)]))]) (.seq (.seq (.reg [.mv 6 (.t 1),.bin 7 .neq (.t 6) (.c (S [95]))]) (.cond (.t 7) (.seq (.reg [.mv 5 (.c (I 0))]) (.block 0 (lpC jF))) .skip)) (.keep [0,1,4] (.seq (.reg [.mv 28 (.t 0),.mv 29 (.t 0),.nilc 30 (.t 29),.fa 31 (.t 30) 4,.ld 32 false 1 (.t 31),.mv 33 (.t 1),.mks 34 1 [(.t 33)],.app 35 1 16 (.t 32) (.t 34),.nilc 36 (.t 28),.fa 37 (.t 36) 4,.st 1 (.t 37) (.t 35)]) (.keep [0,4] (.seq (.reg [.mv 38 (.t 0),.nilc 39 (.t 38),.fa 40 (.t 39) 4,.ld 41 false 1 (.t 40),.len 42 (.t 41),.bin 43 .sub (.t 42) (.c (I 1)),.call (some 44) (.c (Fc qbu)) [(.t 43)] (.ro false),.st 4 (.t 4) (.t 44)]) (.keep [0,4] .ret)))))))
def qfl:AC:=(.seq (.seq (.reg [.mv 37 (.t 6),.mv 38 (.t 4),.bin 39 .rem (.t 38) (.c (I 4)),.bin 40 .add (.c (I 38)) (.t 39),.bin 41 .lss (.t 37) (.t 40)]) (.keep [0,2,4,5,6,41] (.cond (.t 41) .skip (.keep [0,2,5] (.exit 1))))) (.keep [0,2,4,5,6] (.seq (.block 2 (.reg [.ld 44 true 4 (.t 5),.mks 45 4 [(.t 44)],.build 46 (.a [(I 0),(S []),(I 0),(.n 4)]) [(0,1,(.c (I 4))),(1,1,(.c (S [115]))),(3,1,(.t 45))],.st 4 (.t 5) (.t 46)])) (.keep [0,2,4,5,6] (.reg [.mv 42 (.t 6),.bin 43 .add (.t 42) (.c (I 1)),.mv 6 (.t 43)])))))
def qbW:Lp:=⟨[0,2,4,5,6],[(1,0)],qfl⟩
@[go_sem] theorem qHy:qbW.ls=[0,2,4,5,6]:=rfl
@[go_sem] theorem qHx:qbW.ks=[(1,0)]:=rfl
@[go_sem] theorem qHw:qbW.body=qfl:=rfl
def QI:AF where
 nargs:=1
 ntmps:=48
 res:=[.cell 2 true 4]
 body:=(.seq (.reg [.new 2 (.c (.a [(I 0),(S []),(I 0),(.n 4)]))]) (.seq (.reg [.mv 7 (.t 0),.call (some 8) (.c (Fc kK)) [(.t 7),(.c (I 12))] (.io true),.mv 3 (.t 8)]) (.seq (.reg [.mv 9 (.t 0),.call (some 10) (.c (Fc kK)) [(.t 9),(.c (I 60))] (.io false),.mv 4 (.t 10)]) (.seq (.reg [.mv 11 (.t 0),.call (some 12) (.c (Fc Qf)) [(.t 11),(.c (I 3))] (.io false),.new 5 (.c (.a [(I 0),(S []),(I 0),(.n 4)])),.st 4 (.t 5) (.t 12)]) (.keep [0,2,3,4,5] (.seq (.seq (.reg [.mv 13 (.t 3)]) (.block 0 (.seq (.reg [.bin 15 .eql (.t 13) (.c (I 0)),.mv 14 (.t 15)]) (.cond (.t 14) (.reg [.mv 16 (.t 4),.bin 17 .rem (.t 16) (.c (I 6)),.fa 18 (.t 5) 0,.st 1 (.t 18) (.t 17)]) (.seq (.reg [.bin 20 .eql (.t 13) (.c (I 1)),.mv 19 (.t 20)]) (.cond (.t 19) (.reg [.mks 21 1 [(.c (S [])),(.c (S [97,32,98])),(.c (S [39])),(.c (S [97,97,97,97,97,97,97,97,97,97,97,97,97,97,97,97,97,97,97,97,97]))],.mv 22 (.t 4),.bin 23 .rem (.t 22) (.c (I 4)),.ia 24 1 (.t 21) (.t 23),.ld 25 false 1 (.t 24),.fa 26 (.t 5) 1,.st 1 (.t 26) (.t 25)]) (.seq (.reg [.bin 28 .eql (.t 13) (.c (I 2)),.mv 27 (.t 28)]) (.cond (.t 27) (.reg [.mks 29 1 [(.c (I (-1))),(.c (I 100000)),(.c (I 1000000000))],.mv 30 (.t 4),.bin 31 .rem (.t 30) (.c (I 3)),.ia 32 1 (.t 29) (.t 31),.ld 33 false 1 (.t 32),.fa 34 (.t 5) 2,.st 1 (.t 34) (.t 33)]) (.seq (.reg [.bin 36 .eql (.t 13) (.c (I 3)),.mv 35 (.t 36)]) (.cond (.t 35) (.seq (.reg [.mv 6 (.c (I 0))]) (.block 1 (lpC qbW))) .skip)))))))))) (.keep [0,2,5] (.seq (.reg [.ld 47 true 4 (.t 5),.st 4 (.t 2) (.t 47)]) (.keep [0,2] .ret)))))))))
def K9:AF where
 nargs:=0
 ntmps:=2
 res:=[.tmp 0]
 body:=(.seq (.reg [.mv 0 (.c (.n 1))]) (.seq (.reg [.mks 1 1 [(.c (S [97,32,58,45,32,98,44,32,92,43,32,99])),(.c (S [98,32,58,45,32,100,32,59,32,101])),(.c (S [99,32,58,45,32,99,97,108,108,40,100,41])),(.c (S [100])),(.c (S [101,32,58,45,32,40,102,32,45,62,32,103,32,59,32,104,41])),(.c (S [102,32,58,45,32,92,43,32,97])),(.c (S [103,32,58,45,32,99,97,116,99,104,40,120,44,32,95,44,32,121,41])),(.c (S [104,32,58,45,32,104])),(.c (S [107,40,88,41,32,58,45,32,112,40,88,41,44,32,92,43,32,107,40,88,41])),(.c (S [120])),(.c (S [121,32,58,45,32,88,44,32,99,97,108,108,40,88,41])),(.c (S [109,32,58,45,32,92,43,32,92,43,32,100,44,32,99]))],.mv 0 (.t 1)]) (.keep [0] .ret)))
def Zo:AF where
 nargs:=2
 ntmps:=31
 res:=[.tmp 4]
 body:=(.seq (.reg [.new 2 (.t 0),.new 3 (.t 1),.mv 4 (.c (B false))]) (.seq (.reg [.fa 5 (.t 2) 0,.ld 6 false 1 (.t 5),.fa 7 (.t 3) 0,.ld 8 false 1 (.t 7),.bin 9 .eql (.t 6) (.t 8),.mv 10 (.t 9),.gd 10 true (some 11) (.fa 11 (.t 2) 1),.gd 10 true (some 12) (.ld 12 false 1 (.t 11)),.gd 10 true (some 13) (.fa 13 (.t 3) 1),.gd 10 true (some 14) (.ld 14 false 1 (.t 13)),.gd 10 true (some 15) (.bin 15 .eql (.t 12) (.t 14)),.pick 16 (.t 10) (.t 15) (.c (B false)),.mv 17 (.t 16),.gd 17 true (some 18) (.fa 18 (.t 2) 2),.gd 17 true (some 19) (.ld 19 false 1 (.t 18)),.gd 17 true (some 20) (.fa 20 (.t 3) 2),.gd 17 true (some 21) (.ld 21 false 1 (.t 20)),.gd 17 true (some 22) (.bin 22 .eql (.t 19) (.t 21)),.pick 23 (.t 17) (.t 22) (.c (B false)),.mv 24 (.t 23),.gd 24 true (some 25) (.fa 25 (.t 2) 3),.gd 24 true (some 26) (.ld 26 false 1 (.t 25)),.gd 24 true (some 27) (.fa 27 (.t 3) 3),.gd 24 true (some 28) (.ld 28 false 1 (.t 27)),.gd 24 true (some 29) (.call (some 29) (.c (Fc qhd)) [(.t 26),(.t 28),(.c (Fc ZB))] (.ro false)),.pick 30 (.t 24) (.t 29) (.c (B false)),.mv 4 (.t 30)]) (.keep [4] .ret)))
def Km:AF where
 nargs:=2
 ntmps:=7
 res:=[.tmp 3]
 body:=(.seq (.reg [.mv 3 (.c (I 0))]) (.seq (.reg [.ld 4 false 1 (.t 1),.mv 5 (.t 0),.mget 6 (.t 4) (.t 5),.mv 3 (.t 6)]) (.keep [3] .ret)))
def qce:AC:=(.seq (.reg [.bin 9 .lss (.t 8) (.t 7)]) (.seq (.cond (.t 9) .skip (.keep [] (.exit 0))) (.keep [0,1,7,8] (.seq (.block 1 (.seq (.reg [.mv 10 (.t 8),.mv 5 (.t 10)]) (.seq (.reg [.mv 11 (.t 1),.mv 12 (.t 0),.mv 13 (.t 5),.ia 14 1 (.t 12) (.t 13),.ld 15 false 1 (.t 14),.bin 16 .eql (.t 11) (.t 15)]) (.keep [0,1,5,7,8,16] (.cond (.t 16) (.seq (.reg [.mv 17 (.t 5),.mv 4 (.t 17)]) (.keep [4] .ret)) .skip))))) (.keep [0,1,7,8] (.reg [.bin 18 .add (.t 8) (.c (I 1)),.mv 8 (.t 18)]))))))
def Jz:Lp:=⟨[0,1,7,8],[(2,0)],qce⟩
@[go_sem] theorem qHa:Jz.ls=[0,1,7,8]:=rfl
@[go_sem] theorem qG9:Jz.ks=[(2,0)]:=rfl
@[go_sem] theorem qG8:Jz.body=qce:=rfl
def Y7:AF where
 nargs:=2
 ntmps:=19
 res:=[.tmp 4]
 body:=(.seq (.reg [.mv 4 (.c (I 0))]) (.seq (.seq (.reg [.mv 6 (.t 0),.len 7 (.t 6),.mv 8 (.c (I 0))]) (.block 0 (lpC Jz))) (.keep [] (.seq (.reg [.mv 4 (.c (I (-1)))]) (.keep [4] .ret)))))
def KK:AF where
 nargs:=2
 ntmps:=9
 res:=[.tmp 4]
 body:=(.seq (.reg [.mv 4 (.c (B false))]) (.seq (.reg [.mv 5 (.t 0),.mv 6 (.t 1),.call (some 7) (.c (Fc qey)) [(.t 5),(.t 6)] (.ro false),.bin 8 .geq (.t 7) (.c (I 0)),.mv 4 (.t 8)]) (.keep [4] .ret)))
def qca:AC:=(.seq (.seq (.reg [.mv 7 (.t 1),.mv 8 (.t 0),.slen 9 (.t 8),.bin 10 .lss (.t 7) (.t 9),.mv 11 (.t 10),.gd 11 true (some 12) (.mv 12 (.t 2)),.gd 11 true (some 13) (.mv 13 (.t 0)),.gd 11 true (some 14) (.mv 14 (.t 1)),.gd 11 true (some 15) (.ix 15 (.t 13) (.t 14)),.gd 11 true (some 16) (.call (some 16) (.t 12) [(.t 15)] (.ro true)),.pick 17 (.t 11) (.t 16) (.c (B false))]) (.keep [0,1,2,17] (.cond (.t 17) .skip (.keep [1] (.exit 0))))) (.keep [0,1,2] (.block 1 (.reg [.mv 18 (.t 1),.bin 19 .add (.t 18) (.c (I 1)),.mv 1 (.t 19)]))))
def qbJ:Lp:=⟨[0,1,2],[(3,0)],qca⟩
@[go_sem] theorem qF6:qbJ.ls=[0,1,2]:=rfl
@[go_sem] theorem qF5:qbJ.ks=[(3,0)]:=rfl
@[go_sem] theorem qF4:qbJ.body=qca:=rfl
def Kz:AF where
 nargs:=3
 ntmps:=21
 res:=[.tmp 6]
 body:=(.seq (.reg [.mv 6 (.c (I 0))]) (.seq (.block 0 (lpC qbJ)) (.keep [1] (.seq (.reg [.mv 20 (.t 1),.mv 6 (.t 20)]) (.keep [6] .ret)))))
def Kk:AF where
 nargs:=1
 ntmps:=5
 res:=[.tmp 2]
 body:=(.seq (.reg [.mv 2 (.c (B false))]) (.seq (.reg [.mv 3 (.t 0),.bin 4 .neq (.t 3) (.c (U8 10)),.mv 2 (.t 4)]) (.keep [2] .ret)))
def qb9:AC:=(.seq (.seq (.reg [.mv 52 (.t 10),.mv 53 (.t 8),.bin 54 .lss (.t 52) (.t 53),.mv 55 (.t 54),.gd 55 true (some 56) (.mv 56 (.t 9)),.gd 55 true (some 57) (.bin 57 .leq (.t 56) (.c (I 999999999))),.pick 58 (.t 55) (.t 57) (.c (B false))]) (.keep [0,1,4,7,8,9,10,58] (.cond (.t 58) .skip (.keep [0,1,4,7,8,9] (.exit 1))))) (.keep [0,1,4,7,8,9,10] (.seq (.block 2 (.reg [.mv 61 (.t 9),.bin 62 .mul (.c (I 10)) (.t 61),.mv 63 (.t 0),.mv 64 (.t 10),.ix 65 (.t 63) (.t 64),.bin 66 .sub (.t 65) (.c (U8 48)),.int 67 .i64 (.t 66),.bin 68 .add (.t 62) (.t 67),.mv 9 (.t 68)])) (.keep [0,1,4,7,8,9,10] (.reg [.mv 59 (.t 10),.bin 60 .add (.t 59) (.c (I 1)),.mv 10 (.t 60)])))))
def qbI:Lp:=⟨[0,1,4,7,8,9,10],[(2,0)],qb9⟩
@[go_sem] theorem qF0:qbI.ls=[0,1,4,7,8,9,10]:=rfl
@[go_sem] theorem qFZ:qbI.ks=[(2,0)]:=rfl
@[go_sem] theorem qFY:qbI.body=qb9:=rfl
def yp:AF where
 nargs:=2
 ntmps:=160
 res:=[.cell 4 true 5,.tmp 5]
 body:=(.seq (.reg [.new 4 (.c (.a [(I 0),(S []),(I 0),(I 0),(B false)])),.mv 5 (.c (I 0))]) (.seq (.reg [.mv 12 (.t 0),.mv 13 (.t 1),.ix 14 (.t 12) (.t 13),.mv 6 (.t 14)]) (.keep [0,1,4,6] (.seq (.reg [.mv 15 (.t 1),.build 16 (.a [(I 0),(S []),(I 0),(I 0),(B false)]) [(3,1,(.t 15))],.new 7 (.c (.a [(I 0),(S []),(I 0),(I 0),(B false)])),.st 5 (.t 7) (.t 16)]) (.keep [0,1,4,6,7] (.seq (.reg [.mv 17 (.t 1),.bin 18 .add (.t 17) (.c (I 1)),.mv 8 (.t 18)]) (.seq (.block 0 (.seq (.reg [.mv 20 (.t 0),.mv 21 (.t 1),.call (some 22) (.c (Fc qgW)) [(.t 20),(.t 21)] (.ro true),.mv 19 (.t 22)]) (.keep [0,1,4,6,7,8,19] (.cond (.t 19) (.seq (.reg [.fa 23 (.t 7) 0,.st 1 (.t 23) (.c (I 5)),.fa 24 (.t 7) 1,.st 1 (.t 24) (.c (S [46]))]) (.keep [4,7,8] (.seq (.reg [.ld 25 true 5 (.t 7),.mv 26 (.t 8),.st 5 (.t 4) (.t 25),.mv 5 (.t 26)]) (.keep [4,5] .ret)))) (.seq (.reg [.mv 28 (.t 6),.call (some 29) (.c (Fc qbj)) [(.t 28)] (.ro true),.mv 30 (.t 29),.gd 30 false (some 31) (.mv 31 (.t 6)),.gd 30 false (some 32) (.call (some 32) (.c (Fc qet)) [(.t 31)] (.ro true)),.pick 33 (.t 30) (.c (B true)) (.t 32),.mv 34 (.t 33),.gd 34 false (some 35) (.mv 35 (.t 6)),.gd 34 false (some 36) (.bin 36 .eql (.t 35) (.c (U8 95))),.pick 37 (.t 34) (.c (B true)) (.t 36),.mv 27 (.t 37)]) (.keep [0,1,4,6,7,8,27] (.cond (.t 27) (.seq (.reg [.mv 38 (.t 0),.mv 39 (.t 1),.call (some 40) (.c (Fc Xp)) [(.t 38),(.t 39),(.c (Fc qeu))] (.ro false),.mv 8 (.t 40)]) (.keep [0,1,4,6,7,8] (.seq (.reg [.fa 41 (.t 7) 0,.st 1 (.t 41) (.c (I 2))]) (.seq (.reg [.mv 42 (.t 6),.call (some 43) (.c (Fc qbj)) [(.t 42)] (.ro true)]) (.cond (.t 43) (.reg [.fa 44 (.t 7) 0,.st 1 (.t 44) (.c (I 1))]) .skip))))) (.seq (.reg [.mv 46 (.t 6),.call (some 47) (.c (Fc Jp)) [(.t 46)] (.ro true),.mv 45 (.t 47)]) (.cond (.t 45) (.seq (.reg [.mv 48 (.t 0),.mv 49 (.t 1),.call (some 50) (.c (Fc Xp)) [(.t 48),(.t 49),(.c (Fc Jp))] (.ro false),.mv 8 (.t 50)]) (.keep [0,1,4,7,8] (.seq (.reg [.mv 9 (.c (I 0))]) (.seq (.seq (.reg [.mv 51 (.t 1),.mv 10 (.t 51)]) (.block 1 (lpC qbI))) (.keep [0,1,4,7,8,9] (.seq (.reg [.mv 69 (.t 9),.bin 70 .leq (.t 69) (.c (I 999999999))]) (.cond (.t 70) (.seq (.reg [.mv 71 (.t 9),.fa 72 (.t 7) 0,.st 1 (.t 72) (.c (I 3)),.fa 73 (.t 7) 2,.st 1 (.t 73) (.t 71)]) (.keep [4,7,8] (.seq (.reg [.ld 74 true 5 (.t 7),.mv 75 (.t 8),.st 5 (.t 4) (.t 74),.mv 5 (.t 75)]) (.keep [4,5] .ret)))) .skip))))))) (.seq (.reg [.mv 77 (.t 6),.call (some 78) (.c (Fc Jn)) [(.t 77)] (.ro true),.mv 76 (.t 78)]) (.cond (.t 76) (.seq (.reg [.mv 79 (.t 0),.mv 80 (.t 1),.call (some 81) (.c (Fc Xp)) [(.t 79),(.t 80),(.c (Fc Jn))] (.ro false),.mv 8 (.t 81)]) (.keep [0,1,4,7,8] (.reg [.fa 82 (.t 7) 0,.st 1 (.t 82) (.c (I 1))]))) (.seq (.reg [.mv 84 (.t 6),.bin 85 .eql (.t 84) (.c (U8 33)),.mv 86 (.t 85),.gd 86 false (some 87) (.mv 87 (.t 6)),.gd 86 false (some 88) (.bin 88 .eql (.t 87) (.c (U8 59))),.pick 89 (.t 86) (.c (B true)) (.t 88),.mv 83 (.t 89)]) (.keep [0,1,4,6,7,8,83] (.cond (.t 83) (.reg [.fa 90 (.t 7) 0,.st 1 (.t 90) (.c (I 1))]) (.seq (.reg [.mv 92 (.t 6),.call (some 93) (.c (Fc qby)) [(.c (S [40,41,91,93,44,124])),(.t 92)] (.ro true),.bin 94 .geq (.t 93) (.c (I 0)),.mv 91 (.t 94)]) (.keep [0,1,4,6,7,8,91] (.cond (.t 91) (.reg [.fa 95 (.t 7) 0,.st 1 (.t 95) (.c (I 4))]) (.seq (.reg [.mv 97 (.t 6),.bin 98 .eql (.t 97) (.c (U8 39)),.mv 96 (.t 98)]) (.cond (.t 96) (.seq (.reg [.mv 99 (.t 0),.mv 100 (.t 1),.bin 101 .add (.t 100) (.c (I 1)),.call (some 102) (.c (Fc Xp)) [(.t 99),(.t 101),(.c (Fc qer))] (.ro false),.mv 11 (.t 102)]) (.keep [0,1,4,7,8,11] (.seq (.reg [.mv 103 (.t 11),.mv 104 (.t 0),.slen 105 (.t 104),.bin 106 .lss (.t 103) (.t 105),.mv 107 (.t 106),.gd 107 true (some 108) (.mv 108 (.t 0)),.gd 107 true (some 109) (.mv 109 (.t 11)),.gd 107 true (some 110) (.ix 110 (.t 108) (.t 109)),.gd 107 true (some 111) (.bin 111 .eql (.t 110) (.c (U8 39))),.pick 112 (.t 107) (.t 111) (.c (B false)),.mv 113 (.t 112),.gd 113 true (some 114) (.mv 114 (.t 11)),.gd 113 true (some 115) (.mv 115 (.t 1)),.gd 113 true (some 116) (.bin 116 .sub (.t 114) (.t 115)),.gd 113 true (some 117) (.bin 117 .sub (.t 116) (.c (I 1))),.gd 113 true (some 118) (.call (some 118) (.c (Fc ZC)) [(.t 117),(.c (I 1)),(.c (I 20))] (.ro true)),.pick 119 (.t 113) (.t 118) (.c (B false))]) (.keep [0,1,4,7,8,11,119] (.cond (.t 119) (.seq (.dreg [⟨0,[]⟩,⟨0,[]⟩,⟨0,[]⟩,⟨0,[]⟩,⟨0,[]⟩,⟨0,[]⟩,⟨1,[(7,0)]⟩,⟨0,[]⟩,⟨1,[(7,0)]⟩] [.mv 120 (.t 0),.mv 121 (.t 1),.bin 122 .add (.t 121) (.c (I 1)),.mv 123 (.t 11),.ssl 124 (.t 120) (some (.t 122)) (some (.t 123)),.fa 125 (.t 7) 0,.st 1 (.t 125) (.c (I 1)),.fa 126 (.t 7) 1,.st 1 (.t 126) (.t 124)]) (.keep [4,7,11] (.seq (.reg [.ld 127 true 5 (.t 7),.mv 128 (.t 11),.bin 129 .add (.t 128) (.c (I 1)),.st 5 (.t 4) (.t 127),.mv 5 (.t 129)]) (.keep [4,5] .ret)))) .skip))))) .skip))))))))))))))))))) (.keep [0,1,4,7,8] (.seq (.reg [.mv 130 (.t 0),.mv 131 (.t 1),.mv 132 (.t 8),.ssl 133 (.t 130) (some (.t 131)) (some (.t 132)),.fa 134 (.t 7) 1,.st 1 (.t 134) (.t 133)]) (.keep [0,1,4,7,8] (.seq (.seq (.reg [.fa 135 (.t 7) 0,.ld 136 false 1 (.t 135),.bin 137 .eql (.t 136) (.c (I 0)),.mv 138 (.t 137),.gd 138 false (some 139) (.fa 139 (.t 7) 0),.gd 138 false (some 140) (.ld 140 false 1 (.t 139)),.gd 138 false (some 141) (.bin 141 .neq (.t 140) (.c (I 4))),.gd 138 false (some 142) (.mv 142 (.t 141)),.gd 142 true (some 143) (.fa 143 (.t 7) 1),.gd 142 true (some 144) (.ld 144 false 1 (.t 143)),.gd 142 true (some 145) (.slen 145 (.t 144)),.gd 142 true (some 146) (.bin 146 .gtr (.t 145) (.c (I 20))),.gd 138 false (some 147) (.pick 147 (.t 142) (.t 146) (.c (B false))),.pick 148 (.t 138) (.c (B true)) (.t 147)]) (.keep [0,1,4,7,8,148] (.cond (.t 148) (.seq (.dreg [⟨0,[]⟩,⟨0,[]⟩,⟨0,[]⟩,⟨0,[]⟩,⟨0,[]⟩,⟨0,[]⟩,⟨1,[(7,0),(100000,0),(100000,1),(100000,2),(100000,3),(100000,4),(100000,5)]⟩,⟨0,[]⟩,⟨1,[(7,0),(100000,0),(100000,1),(100000,2),(100000,3),(100000,4),(100000,5)]⟩] [.mv 149 (.t 0),.mv 150 (.t 1),.mv 151 (.t 1),.bin 152 .add (.t 151) (.c (I 1)),.ssl 153 (.t 149) (some (.t 150)) (some (.t 152)),.fa 154 (.t 7) 0,.st 1 (.t 154) (.c (I 6)),.fa 155 (.t 7) 1,.st 1 (.t 155) (.t 153)]) (.keep [1,4,7] (.reg [.mv 156 (.t 1),.bin 157 .add (.t 156) (.c (I 1)),.mv 8 (.t 157)]))) .skip))) (.keep [4,7,8] (.seq (.reg [.ld 158 true 5 (.t 7),.mv 159 (.t 8),.st 5 (.t 4) (.t 158),.mv 5 (.t 159)]) (.keep [4,5] .ret))))))))))))))
def Xz:AC:=(.seq (.seq (.reg [.mv 9 (.t 0),.nilc 10 (.t 9),.fa 11 (.t 10) 2,.ld 12 false 1 (.t 11),.un 13 .not (.t 12)]) (.keep [0,4,5,13] (.cond (.t 13) .skip (.keep [0,4,5] (.exit 0))))) (.keep [0,4,5] (.block 1 (.seq (.reg [.mv 14 (.t 0),.call (some 15) (.c (Fc yc)) [(.t 14),(.c (I 999))] (.io false),.new 6 (.c (.a [(I 0),(S []),(I 0),(.n 4)])),.st 4 (.t 6) (.t 15)]) (.keep [0,4,5,6] (.seq (.seq (.reg [.fa 16 (.t 5) 3,.ld 17 false 1 (.t 16),.len 18 (.t 17),.bin 19 .geq (.t 18) (.c (I 5))]) (.keep [0,4,5,6,19] (.cond (.t 19) (.seq (.reg [.mv 20 (.t 0),.nilc 21 (.t 20),.fa 22 (.t 21) 2,.st 1 (.t 22) (.c (B true))]) (.keep [0,4,5] (.exit 0))) .skip))) (.keep [0,4,5,6] (.seq (.reg [.fa 23 (.t 5) 3,.ld 24 false 1 (.t 23),.ld 25 true 4 (.t 6),.mks 26 4 [(.t 25)],.app 27 4 56 (.t 24) (.t 26),.fa 28 (.t 5) 3,.st 1 (.t 28) (.t 27)]) (.keep [0,4,5] (.seq (.seq (.reg [.mv 29 (.t 0),.call (some 30) (.c (Fc QO)) [(.t 29),(.c (S [41]))] (.io true)]) (.cond (.t 30) (.keep [0,4,5] (.exit 0)) .skip)) (.keep [0,4,5] (.reg [.mv 31 (.t 0),.call (some 32) (.c (Fc Qh)) [(.t 31),(.c (S [44]))] (.io true)]))))))))))))
def ki:Lp:=⟨[0,4,5],[(2,0)],Xz⟩
@[go_sem] theorem qIh:ki.ls=[0,4,5]:=rfl
@[go_sem] theorem qIg:ki.ks=[(2,0)]:=rfl
@[go_sem] theorem qIf:ki.body=Xz:=rfl
def Yi:AF where
 nargs:=2
 ntmps:=34
 res:=[.cell 4 true 4]
 body:=(.seq (.reg [.new 4 (.c (.a [(I 0),(S []),(I 0),(.n 4)]))]) (.seq (.reg [.mv 7 (.t 1),.build 8 (.a [(I 0),(S []),(I 0),(.n 4)]) [(0,1,(.c (I 4))),(1,1,(.t 7))],.new 5 (.c (.a [(I 0),(S []),(I 0),(.n 4)])),.st 4 (.t 5) (.t 8)]) (.keep [0,4,5] (.seq (.block 0 (lpC ki)) (.keep [0,4,5] (.seq (.reg [.ld 33 true 4 (.t 5),.st 4 (.t 4) (.t 33)]) (.keep [0,4] .ret)))))))
def Yh:AF where
 nargs:=1
 ntmps:=56
 res:=[.tmp 2]
 body:=(.seq (.reg [.mv 2 (.c (B false))]) (.seq (.dreg [⟨0,[]⟩,⟨0,[]⟩,⟨0,[]⟩,⟨0,[(0,0),(0,1),(0,2),(0,3)]⟩,⟨0,[]⟩,⟨0,[]⟩,⟨0,[]⟩,⟨0,[]⟩,⟨0,[(0,0),(0,1),(0,2),(0,3)]⟩,⟨0,[(0,0),(0,1),(0,2),(0,3),(11,0)]⟩,⟨0,[]⟩,⟨0,[]⟩,⟨0,[]⟩,⟨0,[]⟩,⟨0,[]⟩,⟨0,[(0,0),(0,1),(0,2),(0,3)]⟩,⟨0,[]⟩,⟨0,[]⟩,⟨0,[]⟩,⟨0,[(0,0),(0,1),(0,2),(0,3)]⟩,⟨0,[]⟩,⟨0,[(0,0),(0,1),(0,2),(0,3),(18,0),(22,0)]⟩,⟨0,[]⟩,⟨0,[(0,0),(0,1),(0,2),(0,3),(18,0),(22,0)]⟩,⟨0,[]⟩,⟨0,[]⟩,⟨0,[]⟩,⟨0,[]⟩,⟨0,[]⟩,⟨0,[]⟩,⟨0,[(0,0),(0,1),(0,2),(0,3)]⟩,⟨0,[]⟩,⟨0,[]⟩,⟨0,[]⟩,⟨0,[(0,0),(0,1),(0,2),(0,3)]⟩,⟨0,[]⟩,⟨0,[(0,0),(0,1),(0,2),(0,3),(33,0),(37,0)]⟩,⟨0,[]⟩,⟨0,[(0,0),(0,1),(0,2),(0,3),(33,0),(37,0)]⟩,⟨0,[]⟩,⟨0,[]⟩,⟨0,[]⟩,⟨0,[(0,0),(0,1),(0,2),(0,3)]⟩,⟨0,[]⟩,⟨0,[]⟩,⟨0,[]⟩,⟨0,[(0,0),(0,1),(0,2),(0,3)]⟩,⟨0,[(0,0),(0,1),(0,2),(0,3),(45,0),(49,0)]⟩,⟨0,[]⟩,⟨0,[(0,0),(0,1),(0,2),(0,3),(45,0),(49,0)]⟩,⟨0,[]⟩,⟨0,[]⟩,⟨0,[]⟩,⟨0,[]⟩] [.mv 3 (.t 0),.nilc 4 (.t 3),.fa 5 (.t 4) 1,.ldq 6 false 1 (.t 5),.bin 7 .add (.t 6) (.c (I 1)),.mv 8 (.t 0),.nilc 9 (.t 8),.fa 10 (.t 9) 0,.ldq 11 false 1 (.t 10),.len 12 (.t 11),.bin 13 .lss (.t 7) (.t 12),.mv 14 (.t 13),.gd 14 true (some 15) (.mv 15 (.t 0)),.gd 14 true (some 16) (.nilc 16 (.t 15)),.gd 14 true (some 17) (.fa 17 (.t 16) 0),.gd 14 true (some 18) (.ldq 18 false 1 (.t 17)),.gd 14 true (some 19) (.mv 19 (.t 0)),.gd 14 true (some 20) (.nilc 20 (.t 19)),.gd 14 true (some 21) (.fa 21 (.t 20) 1),.gd 14 true (some 22) (.ldq 22 false 1 (.t 21)),.gd 14 true (some 23) (.bin 23 .add (.t 22) (.c (I 1))),.gd 14 true (some 24) (.ia 24 5 (.t 18) (.t 23)),.gd 14 true (some 25) (.fa 25 (.t 24) 0),.gd 14 true (some 26) (.ldq 26 false 1 (.t 25)),.gd 14 true (some 27) (.bin 27 .eql (.t 26) (.c (I 3))),.pick 28 (.t 14) (.t 27) (.c (B false)),.mv 29 (.t 28),.gd 29 true (some 30) (.mv 30 (.t 0)),.gd 29 true (some 31) (.nilc 31 (.t 30)),.gd 29 true (some 32) (.fa 32 (.t 31) 0),.gd 29 true (some 33) (.ldq 33 false 1 (.t 32)),.gd 29 true (some 34) (.mv 34 (.t 0)),.gd 29 true (some 35) (.nilc 35 (.t 34)),.gd 29 true (some 36) (.fa 36 (.t 35) 1),.gd 29 true (some 37) (.ldq 37 false 1 (.t 36)),.gd 29 true (some 38) (.bin 38 .add (.t 37) (.c (I 1))),.gd 29 true (some 39) (.ia 39 5 (.t 33) (.t 38)),.gd 29 true (some 40) (.fa 40 (.t 39) 3),.gd 29 true (some 41) (.ldq 41 false 1 (.t 40)),.gd 29 true (some 42) (.mv 42 (.t 0)),.gd 29 true (some 43) (.nilc 43 (.t 42)),.gd 29 true (some 44) (.fa 44 (.t 43) 0),.gd 29 true (some 45) (.ldq 45 false 1 (.t 44)),.gd 29 true (some 46) (.mv 46 (.t 0)),.gd 29 true (some 47) (.nilc 47 (.t 46)),.gd 29 true (some 48) (.fa 48 (.t 47) 1),.gd 29 true (some 49) (.ldq 49 false 1 (.t 48)),.gd 29 true (some 50) (.ia 50 5 (.t 45) (.t 49)),.gd 29 true (some 51) (.fa 51 (.t 50) 3),.gd 29 true (some 52) (.ldq 52 false 1 (.t 51)),.gd 29 true (some 53) (.bin 53 .add (.t 52) (.c (I 1))),.gd 29 true (some 54) (.bin 54 .eql (.t 41) (.t 53)),.pick 55 (.t 29) (.t 54) (.c (B false)),.mv 2 (.t 55)]) (.keep [2] .ret)))
def Xh:AF where
 nargs:=2
 ntmps:=11
 res:=[]
 body:=(.seq (.reg [.mv 4 (.t 0),.mv 5 (.t 1),.call (some 6) (.c (Fc QO)) [(.t 4),(.t 5)] (.io true),.un 7 .not (.t 6)]) (.keep [0,7] (.cond (.t 7) (.reg [.mv 8 (.t 0),.nilc 9 (.t 8),.fa 10 (.t 9) 2,.st 1 (.t 10) (.c (B true))]) .skip)))
def JG:AC:=(.seq (.reg [.bin 18 .lss (.t 17) (.t 16)]) (.seq (.cond (.t 18) .skip (.keep [] (.exit 0))) (.keep [1,2,15,16,17] (.seq (.block 1 (.seq (.reg [.mv 19 (.t 17),.ia 20 4 (.t 15) (.t 17),.ld 21 true 4 (.t 20),.new 8 (.c (.a [(I 0),(S []),(I 0),(.n 4)])),.mv 7 (.t 19),.st 4 (.t 8) (.t 21)]) (.keep [1,2,7,8,15,16,17] (.seq (.reg [.mv 22 (.t 1),.mv 23 (.t 7),.ia 24 4 (.t 22) (.t 23),.ld 25 true 4 (.t 24),.new 9 (.c (.a [(I 0),(S []),(I 0),(.n 4)])),.st 4 (.t 9) (.t 25)]) (.keep [1,2,8,9,15,16,17] (.seq (.reg [.mv 26 (.t 2),.ld 27 true 4 (.t 8),.ld 28 true 4 (.t 9),.call (some 29) (.t 26) [(.t 27),(.t 28)] (.ro true),.un 30 .not (.t 29)]) (.keep [1,2,15,16,17,30] (.cond (.t 30) (.seq (.reg [.mv 6 (.c (B false))]) (.keep [6] .ret)) .skip)))))))) (.keep [1,2,15,16,17] (.reg [.bin 31 .add (.t 17) (.c (I 1)),.mv 17 (.t 31)]))))))
def Jw:Lp:=⟨[1,2,15,16,17],[(3,0)],JG⟩
@[go_sem] theorem qG1:Jw.ls=[1,2,15,16,17]:=rfl
@[go_sem] theorem qG0:Jw.ks=[(3,0)]:=rfl
@[go_sem] theorem qGZ:Jw.body=JG:=rfl
def Ya:AF where
 nargs:=3
 ntmps:=32
 res:=[.tmp 6]
 body:=(.seq (.reg [.mv 6 (.c (B false))]) (.seq (.seq (.reg [.mv 10 (.t 0),.len 11 (.t 10),.mv 12 (.t 1),.len 13 (.t 12),.bin 14 .neq (.t 11) (.t 13)]) (.keep [0,1,2,14] (.cond (.t 14) (.seq (.reg [.mv 6 (.c (B false))]) (.keep [6] .ret)) .skip))) (.keep [0,1,2] (.seq (.seq (.reg [.mv 15 (.t 0),.len 16 (.t 15),.mv 17 (.c (I 0))]) (.block 0 (lpC Jw))) (.keep [] (.seq (.reg [.mv 6 (.c (B true))]) (.keep [6] .ret)))))))
def j9:AF where
 nargs:=2
 ntmps:=33
 res:=[.tmp 4]
 body:=(.seq (.reg [.mv 4 (.c (B false))]) (.seq (.seq (.reg [.mv 5 (.t 0),.mv 6 (.t 1),.ix 7 (.t 5) (.t 6),.bin 8 .neq (.t 7) (.c (U8 46)),.mv 9 (.t 8),.gd 9 false (some 10) (.mv 10 (.t 1)),.gd 9 false (some 11) (.bin 11 .gtr (.t 10) (.c (I 0))),.gd 9 false (some 12) (.mv 12 (.t 11)),.gd 12 true (some 13) (.mv 13 (.t 0)),.gd 12 true (some 14) (.mv 14 (.t 1)),.gd 12 true (some 15) (.bin 15 .sub (.t 14) (.c (I 1))),.gd 12 true (some 16) (.ix 16 (.t 13) (.t 15)),.gd 12 true (some 17) (.call (some 17) (.c (Fc Jn)) [(.t 16)] (.ro true)),.gd 9 false (some 18) (.pick 18 (.t 12) (.t 17) (.c (B false))),.pick 19 (.t 9) (.c (B true)) (.t 18)]) (.keep [0,1,19] (.cond (.t 19) (.seq (.reg [.mv 4 (.c (B false))]) (.keep [4] .ret)) .skip))) (.keep [0,1] (.seq (.reg [.mv 20 (.t 1),.bin 21 .add (.t 20) (.c (I 1)),.mv 22 (.t 0),.slen 23 (.t 22),.bin 24 .eql (.t 21) (.t 23),.mv 25 (.t 24),.gd 25 false (some 26) (.mv 26 (.t 0)),.gd 25 false (some 27) (.mv 27 (.t 1)),.gd 25 false (some 28) (.bin 28 .add (.t 27) (.c (I 1))),.gd 25 false (some 29) (.ix 29 (.t 26) (.t 28)),.gd 25 false (some 30) (.call (some 30) (.c (Fc qby)) [(.c (S [32,9,10,37])),(.t 29)] (.ro false)),.gd 25 false (some 31) (.bin 31 .geq (.t 30) (.c (I 0))),.pick 32 (.t 25) (.c (B true)) (.t 31),.mv 4 (.t 32)]) (.keep [4] .ret)))))
def Z8:AF where
 nargs:=1
 ntmps:=9
 res:=[.tmp 2]
 body:=(.seq (.reg [.mv 2 (.c (B false))]) (.seq (.reg [.mv 3 (.t 0),.bin 4 .geq (.t 3) (.c (U8 97)),.mv 5 (.t 4),.gd 5 true (some 6) (.mv 6 (.t 0)),.gd 5 true (some 7) (.bin 7 .leq (.t 6) (.c (U8 122))),.pick 8 (.t 5) (.t 7) (.c (B false)),.mv 2 (.t 8)]) (.keep [2] .ret)))
def Z9:AF where
 nargs:=1
 ntmps:=9
 res:=[.tmp 2]
 body:=(.seq (.reg [.mv 2 (.c (B false))]) (.seq (.reg [.mv 3 (.t 0),.bin 4 .geq (.t 3) (.c (U8 65)),.mv 5 (.t 4),.gd 5 true (some 6) (.mv 6 (.t 0)),.gd 5 true (some 7) (.bin 7 .leq (.t 6) (.c (U8 90))),.pick 8 (.t 5) (.t 7) (.c (B false)),.mv 2 (.t 8)]) (.keep [2] .ret)))
def KD:AF where
 nargs:=1
 ntmps:=17
 res:=[.tmp 2]
 body:=(.seq (.reg [.mv 2 (.c (B false))]) (.seq (.reg [.mv 3 (.t 0),.call (some 4) (.c (Fc qbj)) [(.t 3)] (.ro false),.mv 5 (.t 4),.gd 5 false (some 6) (.mv 6 (.t 0)),.gd 5 false (some 7) (.call (some 7) (.c (Fc qet)) [(.t 6)] (.ro false)),.pick 8 (.t 5) (.c (B true)) (.t 7),.mv 9 (.t 8),.gd 9 false (some 10) (.mv 10 (.t 0)),.gd 9 false (some 11) (.call (some 11) (.c (Fc Jp)) [(.t 10)] (.ro false)),.pick 12 (.t 9) (.c (B true)) (.t 11),.mv 13 (.t 12),.gd 13 false (some 14) (.mv 14 (.t 0)),.gd 13 false (some 15) (.bin 15 .eql (.t 14) (.c (U8 95))),.pick 16 (.t 13) (.c (B true)) (.t 15),.mv 2 (.t 16)]) (.keep [2] .ret)))
def Z7:AF where
 nargs:=1
 ntmps:=9
 res:=[.tmp 2]
 body:=(.seq (.reg [.mv 2 (.c (B false))]) (.seq (.reg [.mv 3 (.t 0),.bin 4 .geq (.t 3) (.c (U8 48)),.mv 5 (.t 4),.gd 5 true (some 6) (.mv 6 (.t 0)),.gd 5 true (some 7) (.bin 7 .leq (.t 6) (.c (U8 57))),.pick 8 (.t 5) (.t 7) (.c (B false)),.mv 2 (.t 8)]) (.keep [2] .ret)))
def Kl:AF where
 nargs:=1
 ntmps:=6
 res:=[.tmp 2]
 body:=(.seq (.reg [.mv 2 (.c (B false))]) (.seq (.reg [.mv 3 (.t 0),.call (some 4) (.c (Fc qby)) [(.c (S [43,45,42,47,92,94,60,62,61,126,58,46,63,64,35,38,36])),(.t 3)] (.ro false),.bin 5 .geq (.t 4) (.c (I 0)),.mv 2 (.t 5)]) (.keep [2] .ret)))
def QG:AF where
 nargs:=1
 ntmps:=14
 res:=[.tmp 2]
 body:=(.seq (.reg [.mv 2 (.c (B false))]) (.seq (.reg [.mv 3 (.t 0),.int 4 .i64 (.t 3),.call (some 5) (.c (Fc ZC)) [(.t 4),(.c (I 33)),(.c (I 126))] (.ro false),.mv 6 (.t 5),.gd 6 true (some 7) (.mv 7 (.t 0)),.gd 6 true (some 8) (.bin 8 .neq (.t 7) (.c (U8 39))),.pick 9 (.t 6) (.t 8) (.c (B false)),.mv 10 (.t 9),.gd 10 true (some 11) (.mv 11 (.t 0)),.gd 10 true (some 12) (.bin 12 .neq (.t 11) (.c (U8 34))),.pick 13 (.t 10) (.t 12) (.c (B false)),.mv 2 (.t 13)]) (.keep [2] .ret)))
def qf8:Nat→Option AE
 |6=>some (.fn Zq)
 |7=>some (.fn qdH)
 |9=>some (.fn qdN)
 |11=>some (.fn qdz)
 |16=>some (.fn KG)
 |18=>some (.fn qdp)
 |19=>some (.fn Zt)
 |21=>some (.fn qdn)
 |23=>some (.fn Zr)
 |25=>some (.fn KM)
 |26=>some (.fn qdV)
 |27=>some (.fn qdo)
 |28=>some (.fn qdT)
 |29=>some (.fn Y9)
 |30=>some (.fn Ki)
 |31=>some (.fn Kb)
 |32=>some (.fn Yb)
 |33=>some (.fn KH)
 |34=>some (.fn Kc)
 |35=>some (.fn YU)
 |36=>some (.fn Kj)
 |37=>some (.fn qdG)
 |38=>some (.fn qdI)
 |39=>some (.fn qdM)
 |40=>some (.fn qdO)
 |41=>some (.fn qdy)
 |42=>some (.fn qdA)
 |44=>some (.fn Jc)
 |46=>some (.fn KC)
 |47=>some (.fn Kq)
 |49=>some (.fn Z5)
 |53=>some (.fn Z4)
 |_=>none
def qf9:Nat→Option AE
 |58=>some (.fn qdY)
 |59=>some (.fn KS)
 |60=>some (.fn YW)
 |61=>some (.fn qdu)
 |62=>some (.fn Xa)
 |63=>some (.fn QH)
 |64=>some (.fn Xj)
 |65=>some (.fn qdm)
 |66=>some (.fn kI)
 |67=>some (.fn Ja)
 |69=>some (.fn qdU)
 |70=>some (.fn K5)
 |71=>some (.fn Je)
 |72=>some (.fn Xc)
 |73=>some (.fn qd2)
 |74=>some (.fn Zp)
 |75=>some (.fn yO)
 |76=>some (.fn qa8)
 |77=>some (.fn Xn)
 |78=>some (.fn Kx)
 |79=>some (.fn YZ)
 |80=>some (.prim (JY 9))
 |81=>some (.fn Kp)
 |82=>some (.fn Yj)
 |83=>some (.fn KI)
 |84=>some (.fn Y5)
 |85=>some (.fn Ke)
 |86=>some (.fn YY)
 |87=>some (.fn Kf)
 |88=>some (.fn qdF)
 |89=>some (.fn qdL)
 |90=>some (.fn qdx)
 |91=>some (.fn K6)
 |92=>some (.fn KR)
 |95=>some (.fn Yd)
 |98=>some (.fn Jb)
 |99=>some (.fn Jd)
 |102=>some (.fn Kh)
 |103=>some (.fn Ko)
 |_=>none
def qga:Nat→Option AE
 |108=>some (.fn Kt)
 |109=>some (.fn KA)
 |111=>some (.fn Y0)
 |112=>some (.fn qdl)
 |117=>some (.fn Y4)
 |118=>some (.fn qdE)
 |119=>some (.fn qdD)
 |120=>some (.fn kH)
 |121=>some (.fn KW)
 |122=>some (.fn yb)
 |123=>some (.fn kG)
 |124=>some (.fn qdv)
 |125=>some (.fn qdr)
 |126=>some (.fn qdw)
 |127=>some (.fn Y3)
 |128=>some (.fn K1)
 |129=>some (.fn yz)
 |130=>some (.fn Zv)
 |131=>some (.fn Qc)
 |132=>some (.fn QJ)
 |133=>some (.fn K7)
 |134=>some (.fn KP)
 |135=>some (.fn Y8)
 |136=>some (.fn KT)
 |137=>some (.fn KO)
 |138=>some (.fn Kw)
 |139=>some (.fn KY)
 |140=>some (.fn Xk)
 |141=>some (.fn qdW)
 |142=>some (.fn qdZ)
 |143=>some (.fn Xf)
 |144=>some (.fn Jf)
 |145=>some (.fn KX)
 |146=>some (.fn Zu)
 |147=>some (.fn Yc)
 |148=>some (.fn qd0)
 |149=>some (.fn qdR)
 |150=>some (.fn qd1)
 |151=>some (.fn Xl)
 |152=>some (.fn Ky)
 |153=>some (.fn KB)
 |154=>some (.fn KJ)
 |155=>some (.fn Qa)
 |156=>some (.fn KE)
 |_=>none
def qgb:Nat→Option AE
 |157=>some (.fn Kr)
 |158=>some (.fn qdJ)
 |159=>some (.fn qdP)
 |160=>some (.fn qdB)
 |167=>some (.fn qd4)
 |169=>some (.fn qdS)
 |170=>some (.fn Kg)
 |171=>some (.fn qdq)
 |172=>some (.prim (XN))
 |175=>some (.fn Kn)
 |176=>some (.fn Y2)
 |179=>some (.fn qds)
 |181=>some (.fn K0)
 |182=>some (.fn KU)
 |183=>some (.fn KZ)
 |184=>some (.fn KV)
 |185=>some (.fn Y1)
 |186=>some (.fn Ku)
 |187=>some (.fn QF)
 |188=>some (.fn Kv)
 |189=>some (.prim (XO))
 |190=>some (.fn Yg)
 |191=>some (.fn K2)
 |192=>some (.fn K3)
 |193=>some (.fn Ye)
 |194=>some (.fn Yf)
 |195=>some (.fn je)
 |196=>some (.fn Xb)
 |197=>some (.fn Qb)
 |198=>some (.fn Zw)
 |199=>some (.fn Xd)
 |200=>some (.fn Xi)
 |201=>some (.fn K8)
 |202=>some (.fn zK)
 |203=>some (.fn qdX)
 |204=>some (.fn xk)
 |205=>some (.fn KQ)
 |206=>some (.fn Zs)
 |_=>none
def qgc:Nat→Option AE
 |207=>some (.fn Zy)
 |208=>some (.fn Xm)
 |209=>some (.fn YX)
 |210=>some (.fn KF)
 |211=>some (.fn Ks)
 |212=>some (.fn qdK)
 |213=>some (.fn qdQ)
 |214=>some (.fn qdC)
 |219=>some (.fn qd3)
 |220=>some (.fn KL)
 |224=>some (.fn Z6)
 |226=>some (.fn qdt)
 |227=>some (.fn Y6)
 |229=>some (.fn Zn)
 |230=>some (.fn YV)
 |234=>some (.fn K4)
 |235=>some (.fn Xe)
 |236=>some (.fn kh)
 |237=>some (.fn Xg)
 |238=>some (.fn QK)
 |239=>some (.fn Zx)
 |240=>some (.fn QL)
 |241=>some (.fn QI)
 |242=>some (.fn K9)
 |243=>some (.fn Zo)
 |244=>some (.fn Km)
 |249=>some (.fn Y7)
 |252=>some (.fn KK)
 |253=>some (.fn Kz)
 |254=>some (.fn Kk)
 |255=>some (.fn yp)
 |258=>some (.fn Yi)
 |259=>some (.fn Yh)
 |260=>some (.fn Xh)
 |261=>some (.fn Ya)
 |_=>none
def qjl:Nat→Option AE
 |268=>some (.fn j9)
 |269=>some (.fn Z8)
 |270=>some (.fn Z9)
 |271=>some (.fn KD)
 |272=>some (.fn Z7)
 |273=>some (.fn Kl)
 |274=>some (.prim (qcO))
 |275=>some (.fn QG)
 |_=>none
def qg(n:Nat):Option AE:=
 match qf8 n with
 |some e=>some e
 |none=>
 match qf9 n with
 |some e=>some e
 |none=>
 match qga n with
 |some e=>some e
 |none=>
 match qgb n with
 |some e=>some e
 |none=>
 match qgc n with
 |some e=>some e
 |none=>
 qjl n
theorem qyD:qg qg3=some (.fn Zq):=rfl
theorem qyE:qg qg4=some (.fn KG):=rfl
theorem qy0:qg qeC=some (.fn Zt):=rfl
theorem qyQ:qg qeA=some (.fn Zr):=rfl
theorem qyR:qg qbl=some (.fn KM):=rfl
theorem qyV:qg qhh=some (.fn Y9):=rfl
theorem qxS:qg Jk=some (.fn Ki):=rfl
theorem qxK:qg qgP=some (.fn Kb):=rfl
theorem qyT:qg qbm=some (.fn Yb):=rfl
theorem qyG:qg Jq=some (.fn KH):=rfl
theorem qxM:qg qgQ=some (.fn Kc):=rfl
theorem qxW:qg Jm=some (.fn YU):=rfl
theorem qxT:qg qgT=some (.fn Kj):=rfl
theorem qzK:qg qeN=some (.fn Jc):=rfl
theorem qyy:qg ZC=some (.fn KC):=rfl
theorem qya:qg qbg=some (.fn Kq):=rfl
theorem qxU:qg qee=some (.fn Z5):=rfl
theorem qxQ:qg qgS=some (.fn Z4):=rfl
theorem qy8:qg qhl=some (.fn KS):=rfl
theorem qx1:qg Yl=some (.fn YW):=rfl
theorem qy2:qg qeD=some (.fn Xa):=rfl
theorem qcW:qg Yp=some (.fn QH):=rfl
theorem qn1:qg qhB=some (.fn Xj):=rfl
theorem qzA:qg qhz=some (.fn kI):=rfl
theorem qzI:qg qeM=some (.fn Ja):=rfl
theorem qzB:qg qhA=some (.fn K5):=rfl
theorem qzM:qg Yr=some (.fn Je):=rfl
theorem qy4:qg ZD=some (.fn Xc):=rfl
theorem qyh:qg qel=some (.fn Zp):=rfl
theorem qnS:qg Jl=some (.fn yO):=rfl
theorem qyW:qg Yo=some (.fn qa8):=rfl
theorem qn3:qg qhG=some (.fn Xn):=rfl
theorem qym:qg qeo=some (.fn Kx):=rfl
theorem qx7:qg qbe=some (.fn YZ):=rfl
theorem qx9:qg qek=some (.fn Kp):=rfl
theorem qzz:qg qhy=some (.fn Yj):=rfl
theorem qyH:qg qg6=some (.fn KI):=rfl
theorem qnT:qg qhe=some (.fn Y5):=rfl
theorem qxN:qg Jj=some (.fn Ke):=rfl
theorem qx5:qg qei=some (.fn YY):=rfl
theorem qxO:qg Yk=some (.fn Kf):=rfl
theorem qzC:qg Xv=some (.fn K6):=rfl
theorem qy7:qg Xs=some (.fn KR):=rfl
theorem qyY:qg qhj=some (.fn Yd):=rfl
theorem qzJ:qg qhH=some (.fn Jb):=rfl
theorem qzL:qg qhI=some (.fn Jd):=rfl
theorem qxR:qg qbb=some (.fn Kh):=rfl
theorem qx8:qg qej=some (.fn Ko):=rfl
theorem qyg:qg qbi=some (.fn Kt):=rfl
theorem qyv:qg qg1=some (.fn KA):=rfl
theorem qyf:qg qgX=some (.fn Y0):=rfl
theorem qyF:qg qex=some (.fn Y4):=rfl
theorem ZW:qg Qf=some (.fn kH):=rfl
theorem qzc:qg ZE=some (.fn KW):=rfl
theorem qyu:qg qbk=some (.fn yb):=rfl
theorem qyB:qg qev=some (.fn kG):=rfl
theorem qyt:qg qes=some (.fn Y3):=rfl
theorem qzk:qg qeF=some (.fn K1):=rfl
theorem qzq:qg qhr=some (.fn yz):=rfl
theorem qzt:qg qht=some (.fn Zv):=rfl
theorem qf5:qg yc=some (.fn Qc):=rfl
theorem qzu:qg QN=some (.fn QJ):=rfl
theorem qzE:qg qeK=some (.fn K7):=rfl
theorem qy5:qg kK=some (.fn KP):=rfl
theorem qyP:qg Xq=some (.fn Y8):=rfl
theorem qy9:qg Js=some (.fn KT):=rfl
theorem qyX:qg qhi=some (.fn KO):=rfl
theorem qyk:qg qen=some (.fn Kw):=rfl
theorem qze:qg qbq=some (.fn KY):=rfl
theorem qzD:qg qeJ=some (.fn Xk):=rfl
theorem qnV:qg Yq=some (.fn Xf):=rfl
theorem qzN:qg qhJ=some (.fn Jf):=rfl
theorem qzd:qg qbp=some (.fn KX):=rfl
theorem qzi:qg qbt=some (.fn Zu):=rfl
theorem qyU:qg Jr=some (.fn Yc):=rfl
theorem qn2:qg qeL=some (.fn Xl):=rfl
theorem qyn:qg qep=some (.fn Ky):=rfl
theorem qyx:qg qg2=some (.fn KB):=rfl
theorem qyI:qg qg7=some (.fn KJ):=rfl
theorem qy1:qg qbn=some (.fn Qa):=rfl
theorem qyA:qg Yn=some (.fn KE):=rfl
theorem qyb:qg Jo=some (.fn Kr):=rfl
theorem qxP:qg qgR=some (.fn Kg):=rfl
theorem qx4:qg qbc=some (.fn Kn):=rfl
theorem qyr:qg Ym=some (.fn Y2):=rfl
theorem qzj:qg qbu=some (.fn K0):=rfl
theorem qza:qg Jt=some (.fn KU):=rfl
theorem qzg:qg qbs=some (.fn KZ):=rfl
theorem qzb:qg qhm=some (.fn KV):=rfl
theorem qyo:qg qeq=some (.fn Y1):=rfl
theorem qyi:qg qgY=some (.fn Ku):=rfl
theorem qxL:qg Ji=some (.fn QF):=rfl
theorem qyj:qg qem=some (.fn Kv):=rfl
theorem qzr:qg qeG=some (.fn Yg):=rfl
theorem qzn:qg qbw=some (.fn K2):=rfl
theorem qzp:qg qhq=some (.fn K3):=rfl
theorem qzm:qg qbv=some (.fn Ye):=rfl
theorem qzo:qg qhp=some (.fn Yf):=rfl
theorem qzl:qg qho=some (.fn je):=rfl
theorem qy3:qg qbo=some (.fn Xb):=rfl
theorem qag:qg Qg=some (.fn Qb):=rfl
theorem qnW:qg qeH=some (.fn Zw):=rfl
theorem qnU:qg Xr=some (.fn Xd):=rfl
theorem qzy:qg qhw=some (.fn Xi):=rfl
theorem qzF:qg qhC=some (.fn K8):=rfl
theorem qyS:qg qhg=some (.fn zK):=rfl
theorem qzh:qg qhn=some (.fn xk):=rfl
theorem qy6:qg qhk=some (.fn KQ):=rfl
theorem qyZ:qg qeB=some (.fn Zs):=rfl
theorem qf6:qg qhx=some (.fn Zy):=rfl
theorem qzG:qg qhE=some (.fn Xm):=rfl
theorem qx2:qg qeg=some (.fn YX):=rfl
theorem qyC:qg qew=some (.fn KF):=rfl
theorem qyc:qg qbh=some (.fn Ks):=rfl
theorem qyK:qg qhb=some (.fn KL):=rfl
theorem qx6:qg qbd=some (.fn Z6):=rfl
theorem qyN:qg qey=some (.fn Y6):=rfl
theorem qxV:qg qgU=some (.fn Zn):=rfl
theorem qxY:qg qgV=some (.fn YV):=rfl
theorem qzs:qg qhs=some (.fn K4):=rfl
theorem qzf:qg qbr=some (.fn Xe):=rfl
theorem qaf:qg ZF=some (.fn kh):=rfl
theorem qnX:qg QO=some (.fn Xg):=rfl
theorem qnY:qg Xt=some (.fn QK):=rfl
theorem qnZ:qg qbx=some (.fn Zx):=rfl
theorem qzx:qg qhv=some (.fn QL):=rfl
theorem qcX:qg qeE=some (.fn QI):=rfl
theorem qzH:qg qhF=some (.fn K9):=rfl
theorem qxX:qg ZB=some (.fn Zo):=rfl
theorem qx3:qg qeh=some (.fn Km):=rfl
theorem qyO:qg qhf=some (.fn Y7):=rfl
theorem qyJ:qg qha=some (.fn KK):=rfl
theorem qys:qg Xp=some (.fn Kz):=rfl
theorem qxZ:qg qef=some (.fn Kk):=rfl
theorem qyp:qg qgZ=some (.fn yp):=rfl
theorem qzw:qg qeI=some (.fn Yi):=rfl
theorem qzv:qg qhu=some (.fn Yh):=rfl
theorem qn0:qg Qh=some (.fn Xh):=rfl
theorem qyM:qg qhd=some (.fn Ya):=rfl
theorem qyd:qg qgW=some (.fn j9):=rfl
theorem qyl:qg qbj=some (.fn Z8):=rfl
theorem qyw:qg qet=some (.fn Z9):=rfl
theorem qyz:qg qeu=some (.fn KD):=rfl
theorem qye:qg Jp=some (.fn Z7):=rfl
theorem qx0:qg Jn=some (.fn Kl):=rfl
theorem qyq:qg qer=some (.fn QG):=rfl
theorem qyL:qg qhc=some (.prim (JY 9)):=rfl
theorem qzO:qg qkx=some (.prim (XN)):=rfl
theorem qzQ:qg qky=some (.prim (XO)):=rfl
theorem qzP:qg qby=some (.prim (qcO)):=rfl
end Go.Vm
