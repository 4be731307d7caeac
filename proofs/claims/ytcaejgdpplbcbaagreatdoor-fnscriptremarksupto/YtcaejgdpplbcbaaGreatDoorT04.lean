import Derived.Test.YtcaejgdpplbcbaaGreatDoorT03
set_option autoImplicit false
set_option maxRecDepth 100000
namespace Go.Vm
abbrev qqG:Nat:=0
abbrev qnG:Nat:=1
abbrev qnH:Nat:=2
abbrev qqn:Nat:=3
abbrev qqm:Nat:=4
abbrev qqp:Nat:=5
abbrev qqo:Nat:=6
abbrev qqk:Nat:=7
abbrev qql:Nat:=8
abbrev qqq:Nat:=9
abbrev JM:Nat:=10
abbrev qqE:Nat:=11
abbrev qr6:Nat:=12
abbrev qqF:Nat:=13
abbrev qox:Nat:=14
abbrev qqr:Nat:=15
abbrev qr5:Nat:=16
abbrev qow:Nat:=17
abbrev qqx:Nat:=18
abbrev qqt:Nat:=19
abbrev JN:Nat:=20
abbrev qrL:Nat:=21
abbrev qrE:Nat:=22
abbrev qrF:Nat:=23
abbrev qrG:Nat:=24
abbrev qoD:Nat:=25
abbrev qr8:Nat:=26
abbrev qob:Nat:=27
abbrev qrR:Nat:=28
abbrev qod:Nat:=29
abbrev qrT:Nat:=30
abbrev qog:Nat:=31
abbrev qrW:Nat:=32
abbrev qrJ:Nat:=33
abbrev qrZ:Nat:=34
abbrev qrz:Nat:=35
abbrev qrX:Nat:=36
abbrev qro:Nat:=37
abbrev qr7:Nat:=38
abbrev qgI:Nat:=39
abbrev qr9:Nat:=40
abbrev qrA:Nat:=41
abbrev qnV:Nat:=42
abbrev qnK:Nat:=43
abbrev qrr:Nat:=44
abbrev qqB:Nat:=45
abbrev qnO:Nat:=46
abbrev qom:Nat:=47
abbrev qnW:Nat:=48
abbrev qrv:Nat:=49
abbrev qru:Nat:=50
abbrev qrl:Nat:=51
abbrev qrB:Nat:=52
abbrev qrs:Nat:=53
abbrev qrn:Nat:=54
abbrev qqC:Nat:=55
abbrev qr1:Nat:=56
abbrev qrt:Nat:=57
abbrev qrK:Nat:=58
abbrev qrI:Nat:=59
abbrev qoj:Nat:=60
abbrev qr0:Nat:=61
abbrev qrC:Nat:=62
abbrev qn2:Nat:=63
abbrev qrM:Nat:=64
abbrev qrD:Nat:=65
abbrev qr2:Nat:=66
abbrev qn9:Nat:=67
abbrev qrP:Nat:=68
abbrev JR:Nat:=69
abbrev ZK:Nat:=70
abbrev JS:Nat:=71
abbrev ZI:Nat:=72
abbrev qgy:Nat:=73
abbrev qgz:Nat:=74
abbrev qgC:Nat:=75
abbrev qgD:Nat:=76
abbrev qgu:Nat:=77
abbrev qgv:Nat:=78
abbrev qta:Nat:=79
abbrev qtl:Nat:=80
abbrev qoc:Nat:=81
abbrev je:Nat:=82
abbrev qoL:Nat:=83
abbrev qoe:Nat:=84
abbrev qnR:Nat:=85
abbrev qra:Nat:=86
abbrev qnU:Nat:=87
abbrev qqw:Nat:=88
abbrev qqy:Nat:=89
abbrev qqs:Nat:=90
abbrev qqu:Nat:=91
abbrev XV:Nat:=92
abbrev qsa:Nat:=93
abbrev qrH:Nat:=94
abbrev qsc:Nat:=95
abbrev qry:Nat:=96
abbrev qsO:Nat:=97
abbrev qov:Nat:=98
abbrev qpl:Nat:=99
abbrev qr4:Nat:=100
abbrev qtd:Nat:=101
abbrev qgj:Nat:=102
abbrev qoW:Nat:=103
abbrev qo0:Nat:=104
abbrev qoH:Nat:=105
abbrev qs9:Nat:=106
abbrev qse:Nat:=107
abbrev qtb:Nat:=108
abbrev qoX:Nat:=109
abbrev qn5:Nat:=110
abbrev qrO:Nat:=111
abbrev qsj:Nat:=112
abbrev qr3:Nat:=113
abbrev qrY:Nat:=114
abbrev qsT:Nat:=115
abbrev qsQ:Nat:=116
abbrev qtj:Nat:=117
abbrev qsf:Nat:=118
abbrev qgL:Nat:=119
abbrev qgV:Nat:=120
abbrev qbV:Nat:=121
abbrev qsM:Nat:=122
abbrev qth:Nat:=123
abbrev qo7:Nat:=124
abbrev qoF:Nat:=125
abbrev qq2:Nat:=126
abbrev qoK:Nat:=127
abbrev qsP:Nat:=128
abbrev qq4:Nat:=129
abbrev qnP:Nat:=130
abbrev qoE:Nat:=131
abbrev kG:Nat:=132
abbrev qte:Nat:=133
abbrev qtf:Nat:=134
abbrev qtk:Nat:=135
abbrev qti:Nat:=136
abbrev qqD:Nat:=137
abbrev qs8:Nat:=138
abbrev jP:Nat:=139
abbrev qpR:Nat:=140
abbrev qoy:Nat:=141
abbrev qnN:Nat:=142
abbrev qoo:Nat:=143
abbrev qgr:Nat:=144
abbrev qn1:Nat:=145
abbrev qoU:Nat:=146
abbrev qsW:Nat:=147
abbrev qsq:Nat:=148
abbrev qsi:Nat:=149
abbrev qgQ:Nat:=150
abbrev qsm:Nat:=151
abbrev qn3:Nat:=152
abbrev qoI:Nat:=153
abbrev qs7:Nat:=154
abbrev qgp:Nat:=155
abbrev JX:Nat:=156
abbrev J2:Nat:=157
abbrev J3:Nat:=158
abbrev qbX:Nat:=159
abbrev JI:Nat:=160
abbrev ZN:Nat:=161
abbrev JG:Nat:=162
abbrev J1:Nat:=163
abbrev JZ:Nat:=164
abbrev X0:Nat:=165
abbrev JT:Nat:=166
abbrev ZJ:Nat:=167
abbrev qgk:Nat:=168
abbrev qgl:Nat:=169
abbrev qgx:Nat:=170
abbrev qgB:Nat:=171
abbrev qgt:Nat:=172
abbrev qsS:Nat:=173
abbrev qrS:Nat:=174
abbrev qrU:Nat:=175
abbrev qrp:Nat:=176
abbrev qtm:Nat:=177
abbrev qoJ:Nat:=178
abbrev qq8:Nat:=179
abbrev qrd:Nat:=180
abbrev qrh:Nat:=181
abbrev qrj:Nat:=182
abbrev qqA:Nat:=183
abbrev qqz:Nat:=184
abbrev qqv:Nat:=185
abbrev qsJ:Nat:=186
abbrev qsg:Nat:=187
abbrev qrx:Nat:=188
abbrev qbP:Nat:=189
abbrev qpV:Nat:=190
abbrev qpm:Nat:=191
abbrev qpn:Nat:=192
abbrev qpo:Nat:=193
abbrev qbR:Nat:=194
abbrev qbT:Nat:=195
abbrev qtc:Nat:=196
abbrev qrm:Nat:=197
abbrev qbN:Nat:=198
abbrev qsd:Nat:=199
abbrev qgR:Nat:=200
abbrev qsv:Nat:=201
abbrev qsw:Nat:=202
abbrev qsG:Nat:=203
abbrev qsz:Nat:=204
abbrev JV:Nat:=205
abbrev qrk:Nat:=206
abbrev qrQ:Nat:=207
abbrev qsU:Nat:=208
abbrev qgN:Nat:=209
abbrev qbU:Nat:=210
abbrev qgW:Nat:=211
abbrev qgJ:Nat:=212
abbrev qsK:Nat:=213
abbrev qsL:Nat:=214
abbrev qsX:Nat:=215
abbrev qo8:Nat:=216
abbrev qpQ:Nat:=217
abbrev qpU:Nat:=218
abbrev jO:Nat:=219
abbrev qtg:Nat:=220
abbrev qs0:Nat:=221
abbrev qoN:Nat:=222
abbrev qpO:Nat:=223
abbrev qgm:Nat:=224
abbrev JH:Nat:=225
abbrev qop:Nat:=226
abbrev qoR:Nat:=227
abbrev qnT:Nat:=228
abbrev qsp:Nat:=229
abbrev qsl:Nat:=230
abbrev qoG:Nat:=231
abbrev qrN:Nat:=232
abbrev qs1:Nat:=233
abbrev qgq:Nat:=234
abbrev qbQ:Nat:=235
abbrev JY:Nat:=236
abbrev JU:Nat:=237
abbrev qtA:Nat:=238
abbrev qtD:Nat:=239
abbrev qtG:Nat:=240
abbrev qtB:Nat:=241
abbrev qtC:Nat:=242
abbrev qtF:Nat:=243
abbrev qtE:Nat:=244
abbrev qtH:Nat:=245
abbrev JK:Nat:=246
abbrev XU:Nat:=247
abbrev ZM:Nat:=248
abbrev J0:Nat:=249
abbrev XX:Nat:=250
abbrev qbW:Nat:=251
abbrev qqY:Nat:=252
abbrev qol:Nat:=253
abbrev qos:Nat:=254
abbrev qoV:Nat:=255
abbrev JP:Nat:=256
abbrev JQ:Nat:=257
abbrev JO:Nat:=258
abbrev qsR:Nat:=259
abbrev qrf:Nat:=260
abbrev jf:Nat:=261
abbrev qsk:Nat:=262
abbrev qsh:Nat:=263
abbrev qsb:Nat:=264
abbrev qrw:Nat:=265
abbrev qbO:Nat:=266
abbrev qoY:Nat:=267
abbrev qnM:Nat:=268
abbrev qoZ:Nat:=269
abbrev qtx:Nat:=270
abbrev qgP:Nat:=271
abbrev qgn:Nat:=272
abbrev XW:Nat:=273
abbrev qgT:Nat:=274
abbrev qsu:Nat:=275
abbrev qgS:Nat:=276
abbrev qst:Nat:=277
abbrev qss:Nat:=278
abbrev qgK:Nat:=279
abbrev qsC:Nat:=280
abbrev qsy:Nat:=281
abbrev qsN:Nat:=282
abbrev qsV:Nat:=283
abbrev qrq:Nat:=284
abbrev qgO:Nat:=285
abbrev qgM:Nat:=286
abbrev qrV:Nat:=287
abbrev qsY:Nat:=288
abbrev qoz:Nat:=289
abbrev qpW:Nat:=290
abbrev qs6:Nat:=291
abbrev qpS:Nat:=292
abbrev qpN:Nat:=293
abbrev qbM:Nat:=294
abbrev qoQ:Nat:=295
abbrev qgG:Nat:=296
abbrev qsr:Nat:=297
abbrev qso:Nat:=298
abbrev qsn:Nat:=299
abbrev qs3:Nat:=300
abbrev XY:Nat:=301
abbrev XZ:Nat:=302
abbrev qtz:Nat:=303
abbrev qtu:Nat:=304
abbrev qtv:Nat:=305
abbrev qty:Nat:=306
abbrev qtJ:Nat:=307
abbrev qtt:Nat:=308
abbrev qtI:Nat:=309
abbrev JL:Nat:=310
abbrev JJ:Nat:=311
abbrev ZL:Nat:=312
abbrev qqa:Nat:=313
abbrev qq5:Nat:=314
abbrev qoM:Nat:=315
abbrev qnS:Nat:=316
abbrev qoi:Nat:=317
abbrev qok:Nat:=318
abbrev qpc:Nat:=319
abbrev qot:Nat:=320
abbrev qgA:Nat:=321
abbrev qgE:Nat:=322
abbrev qgw:Nat:=323
abbrev qrb:Nat:=324
abbrev qof:Nat:=325
abbrev qoq:Nat:=326
abbrev qtn:Nat:=327
abbrev qtq:Nat:=328
abbrev qtp:Nat:=329
abbrev qbS:Nat:=330
abbrev qgU:Nat:=331
abbrev qsx:Nat:=332
abbrev qsA:Nat:=333
abbrev qsD:Nat:=334
abbrev qsE:Nat:=335
abbrev qsH:Nat:=336
abbrev qsZ:Nat:=337
abbrev qon:Nat:=338
abbrev qoA:Nat:=339
abbrev qs4:Nat:=340
abbrev qs5:Nat:=341
abbrev qoS:Nat:=342
abbrev qgF:Nat:=343
abbrev qgH:Nat:=344
abbrev qs2:Nat:=345
abbrev JW:Nat:=346
abbrev qtK:Nat:=347
abbrev qp0:Nat:=348
abbrev qqi:Nat:=349
abbrev qtN:Nat:=350
abbrev qtw:Nat:=351
abbrev qtL:Nat:=352
abbrev qp9:Nat:=353
abbrev qnZ:Nat:=354
abbrev qn8:Nat:=355
abbrev qoB:Nat:=356
abbrev qoh:Nat:=357
abbrev qnL:Nat:=358
abbrev qn0:Nat:=359
abbrev qq9:Nat:=360
abbrev qor:Nat:=361
abbrev qo9:Nat:=362
abbrev qtr:Nat:=363
abbrev qts:Nat:=364
abbrev qsF:Nat:=365
abbrev qsB:Nat:=366
abbrev qsI:Nat:=367
abbrev qq3:Nat:=368
abbrev qqZ:Nat:=369
abbrev qoT:Nat:=370
abbrev qqj:Nat:=371
abbrev qp4:Nat:=372
abbrev qp1:Nat:=373
abbrev qp3:Nat:=374
abbrev qgX:Nat:=375
abbrev qtM:Nat:=376
abbrev qqh:Nat:=377
abbrev qqg:Nat:=378
abbrev qqc:Nat:=379
abbrev qqd:Nat:=380
abbrev qo5:Nat:=381
abbrev qo3:Nat:=382
abbrev qo4:Nat:=383
abbrev qo2:Nat:=384
abbrev qq1:Nat:=385
abbrev qoC:Nat:=386
abbrev qpi:Nat:=387
abbrev qph:Nat:=388
abbrev qpC:Nat:=389
abbrev qpI:Nat:=390
abbrev qpy:Nat:=391
abbrev qpB:Nat:=392
abbrev qre:Nat:=393
abbrev qri:Nat:=394
abbrev qoO:Nat:=395
abbrev qgs:Nat:=396
abbrev qpT:Nat:=397
abbrev qgo:Nat:=398
abbrev qou:Nat:=399
abbrev qpa:Nat:=400
abbrev qpY:Nat:=401
abbrev qp5:Nat:=402
abbrev qq6:Nat:=403
abbrev qp2:Nat:=404
abbrev qp6:Nat:=405
abbrev qqf:Nat:=406
abbrev qqH:Nat:=407
abbrev qqb:Nat:=408
abbrev qqe:Nat:=409
abbrev qqI:Nat:=410
abbrev qq0:Nat:=411
abbrev qo6:Nat:=412
abbrev qoa:Nat:=413
abbrev qnY:Nat:=414
abbrev qn4:Nat:=415
abbrev qnQ:Nat:=416
abbrev qnJ:Nat:=417
abbrev qpg:Nat:=418
abbrev qpp:Nat:=419
abbrev qpD:Nat:=420
abbrev qrg:Nat:=421
abbrev qqJ:Nat:=422
abbrev qqK:Nat:=423
abbrev qq7:Nat:=424
abbrev qpP:Nat:=425
abbrev qpL:Nat:=426
abbrev qpM:Nat:=427
abbrev qpK:Nat:=428
abbrev qpf:Nat:=429
abbrev qpj:Nat:=430
abbrev qpd:Nat:=431
abbrev qpe:Nat:=432
abbrev qpb:Nat:=433
abbrev qpk:Nat:=434
abbrev qpw:Nat:=435
abbrev qpv:Nat:=436
abbrev qpF:Nat:=437
abbrev qpr:Nat:=438
abbrev qpt:Nat:=439
abbrev qpx:Nat:=440
abbrev qpE:Nat:=441
abbrev qps:Nat:=442
abbrev qpu:Nat:=443
abbrev qrc:Nat:=444
abbrev qo1:Nat:=445
abbrev qpG:Nat:=446
abbrev qpz:Nat:=447
abbrev qnX:Nat:=448
abbrev qpH:Nat:=449
abbrev qoP:Nat:=450
abbrev qpJ:Nat:=451
abbrev qpq:Nat:=452
abbrev qpA:Nat:=453
abbrev qn6:Nat:=454
abbrev qqX:Nat:=455
abbrev qn7:Nat:=456
abbrev qqP:Nat:=457
abbrev qqQ:Nat:=458
abbrev qqT:Nat:=459
abbrev qqU:Nat:=460
abbrev qqV:Nat:=461
abbrev qqW:Nat:=462
abbrev qqR:Nat:=463
abbrev qqS:Nat:=464
abbrev qqN:Nat:=465
abbrev qqO:Nat:=466
abbrev qqL:Nat:=467
abbrev qqM:Nat:=468
abbrev qpZ:Nat:=469
abbrev qp7:Nat:=470
abbrev qp8:Nat:=471
abbrev qto:Nat:=472
abbrev qpX:Nat:=473
abbrev qtO:Nat:=474
abbrev qtP:Nat:=475
abbrev qtQ:Nat:=476
abbrev qtR:Nat:=477
abbrev qtS:Nat:=478
abbrev qtT:Nat:=479
abbrev qtU:Nat:=480
abbrev qnI:Nat:=481
def Ku:AC:=(.seq (.seq (.reg [.mv 42 (.t 10),.mv 43 (.t 4),.len 44 (.t 43),.bin 45 .lss (.t 42) (.t 44)]) (.keep [4,5,6,8,9,10,45] (.cond (.t 45) .skip (.keep [4,5,8,9] (.exit 0))))) (.keep [4,5,6,8,9,10] (.seq (.block 1 (.seq (.dreg [⟨0,[]⟩,⟨0,[]⟩,⟨0,[(0,0),(0,1),(0,2),(0,3),(14,0),(14,1),(14,2),(14,3),(17,0),(17,1),(17,2),(17,3),(100000,0),(100000,1),(100000,2),(100000,3),(100000,4),(100000,5)]⟩,⟨0,[(0,0),(0,1),(0,2),(0,3),(14,0),(14,1),(14,2),(14,3),(17,0),(17,1),(17,2),(17,3),(100000,0),(100000,1),(100000,2),(100000,3),(100000,4),(100000,5)]⟩,⟨0,[]⟩,⟨0,[]⟩,⟨0,[(0,0),(0,1),(0,2),(0,3),(14,0),(14,1),(14,2),(14,3),(22,0),(22,1),(22,2),(22,3),(100000,0),(100000,1),(100000,2),(100000,3),(100000,4),(100000,5)]⟩,⟨0,[(0,0),(0,1),(0,2),(0,3),(14,0),(14,1),(14,2),(14,3),(22,0),(22,1),(22,2),(22,3),(100000,0),(100000,1),(100000,2),(100000,3),(100000,4),(100000,5)]⟩,⟨0,[]⟩] [.mv 48 (.t 4),.mv 49 (.t 10),.ia 50 3 (.t 48) (.t 49),.ldq 51 true 3 (.t 50),.mv 52 (.t 6),.mv 53 (.t 10),.ia 54 3 (.t 52) (.t 53),.ldq 55 true 3 (.t 54),.eqs 56 45 true (.t 51) (.t 55)]) (.keep [4,5,6,8,9,10,56] (.cond (.t 56) (.seq (.reg [.mv 2 (.c (B false))]) (.keep [2] .ret)) .skip)))) (.keep [4,5,6,8,9,10] (.reg [.mv 46 (.t 10),.bin 47 .add (.t 46) (.c (I 1)),.mv 10 (.t 47)])))))
def ZP:Lp:=⟨[4,5,6,8,9,10],[(1,0)],Ku⟩
@[go_sem] theorem quv:ZP.ls=[4,5,6,8,9,10]:=rfl
@[go_sem] theorem quu:ZP.ks=[(1,0)]:=rfl
@[go_sem] theorem qut:ZP.body=Ku:=rfl
def XR:AC:=
 (.keep [4,5,6,8,9] (.seq (.seq (.reg [.mv 10 (.c (I 0))]) (.block 0 (lpC ZP))) (.keep [4,5,8,9] (.seq (.reg [.mv 57 (.t 5),.bin 58 .neq (.t 57) (.c (I 0)),.mv 59 (.t 58),.gd 59 false (some 60) (.mv 60 (.t 9)),.gd 59 false (some 61) (.bin 61 .eql (.t 60) (.c (I (-1)))),.pick 62 (.t 59) (.c (B true)) (.t 61),.mv 63 (.t 62),.gd 63 false (some 64) (.mv 64 (.t 9)),.gd 63 false (some 65) (.bin 65 .eql (.t 64) (.c (I 0))),.gd 63 false (some 66) (.mv 66 (.t 65)),.gd 66 true (some 67) (.mv 67 (.t 8)),.gd 66 true (some 68) (.len 68 (.t 67)),.gd 66 true (some 69) (.mv 69 (.t 4)),.gd 66 true (some 70) (.len 70 (.t 69)),.gd 66 true (some 71) (.bin 71 .eql (.t 68) (.t 70)),.gd 63 false (some 72) (.pick 72 (.t 66) (.t 71) (.c (B false))),.pick 73 (.t 63) (.c (B true)) (.t 72),.mv 74 (.t 73),.gd 74 true (some 75) (.call (some 75) (.c (Fc ZI)) [(.c (S [119,104,97,116,10]))] (.ro false)),.gd 74 true (some 76) (.bin 76 .eql (.t 75) (.c (S [102,97,117,108,116,32,49,10]))),.pick 77 (.t 74) (.t 76) (.c (B false)),.mv 78 (.t 77),.gd 78 true (some 79) (.call (some 79) (.c (Fc ZI)) [(.c (S [10,119,104,97,116,10]))] (.ro false)),.gd 78 true (some 80) (.bin 80 .eql (.t 79) (.c (S [102,97,117,108,116,32,50,10]))),.pick 81 (.t 78) (.t 80) (.c (B false)),.mv 2 (.t 81)]) (.keep [2] .ret)))))
def XS:AC:=
 (.keep [3,4,5] (.seq (.reg [.mv 21 (.t 3),.call (some 22) (.c (Fc JS)) [(.t 21)] (.ro true),.mv 20 (.t 22),.ext 23 (.t 20) 0,.ext 24 (.t 20) 1,.mv 6 (.t 23),.mv 7 (.t 24)]) (.keep [3,4,5,6,7] (.seq (.reg [.mv 26 (.t 3),.bin 27 .add (.c (S [35,32,115,97,105,100,10,32,32,32,10])) (.t 26),.bin 28 .add (.t 27) (.c (S [10,35,32,109,111,114,101,10])),.call (some 29) (.c (Fc ZK)) [(.t 28)] (.ro false),.mv 25 (.t 29),.ext 30 (.t 25) 0,.ext 31 (.t 25) 1,.mv 8 (.t 30),.mv 9 (.t 31)]) (.keep [4,5,6,7,8,9] (.seq (.seq (.reg [.mv 32 (.t 5),.mv 33 (.t 7),.bin 34 .neq (.t 32) (.t 33),.mv 35 (.t 34),.gd 35 false (some 36) (.mv 36 (.t 4)),.gd 35 false (some 37) (.len 37 (.t 36)),.gd 35 false (some 38) (.mv 38 (.t 6)),.gd 35 false (some 39) (.len 39 (.t 38)),.gd 35 false (some 40) (.bin 40 .neq (.t 37) (.t 39)),.pick 41 (.t 35) (.c (B true)) (.t 40)]) (.keep [4,5,6,8,9,41] (.cond (.t 41) (.seq (.reg [.mv 2 (.c (B false))]) (.keep [2] .ret)) .skip))) XR))))))
def kD:AF where
 nargs:=1
 ntmps:=82
 res:=[.tmp 2]
 body:=(.seq (.reg [.mv 2 (.c (B false))]) (.seq (.seq (.reg [.mv 11 (.t 0),.call (some 12) (.c (Fc JN)) [(.t 11)] (.ro true)]) (.cond (.t 12) (.seq (.reg [.mv 2 (.c (B true))]) (.keep [2] .ret)) .skip)) (.keep [0] (.seq (.reg [.mv 13 (.t 0),.call (some 14) (.c (Fc JR)) [(.t 13)] (.ro false),.mv 3 (.t 14)]) (.seq (.reg [.mv 16 (.t 3),.call (some 17) (.c (Fc ZK)) [(.t 16)] (.ro false),.mv 15 (.t 17),.ext 18 (.t 15) 0,.ext 19 (.t 15) 1,.mv 4 (.t 18),.mv 5 (.t 19)]) XS)))))
def Xb:AF where
 nargs:=2
 ntmps:=18
 res:=[.tmp 4]
 body:=(.seq (.reg [.new 2 (.t 0),.mv 4 (.c (I 0))]) (.seq (.reg [.fa 5 (.t 2) 0,.ld 6 false 1 (.t 5),.mv 7 (.t 1),.call (some 8) (.c (Fc qgy)) [(.t 6),(.t 7)] (.ro false),.mv 1 (.t 8)]) (.keep [1,2] (.seq (.seq (.reg [.mv 9 (.t 1),.bin 10 .lss (.t 9) (.c (I 0))]) (.cond (.t 10) (.seq (.reg [.mv 4 (.c (I (-1)))]) (.keep [4] .ret)) .skip)) (.keep [1,2] (.seq (.reg [.fa 11 (.t 2) 1,.ld 12 false 1 (.t 11),.mv 13 (.t 1),.call (some 14) (.c (Fc qgz)) [(.t 12),(.t 13)] (.ro false),.mv 1 (.t 14)]) (.keep [1] (.seq (.seq (.reg [.mv 15 (.t 1),.bin 16 .lss (.t 15) (.c (I 0))]) (.cond (.t 16) (.seq (.reg [.mv 4 (.c (I (-1)))]) (.keep [4] .ret)) .skip)) (.keep [1] (.seq (.reg [.mv 17 (.t 1),.mv 4 (.t 17)]) (.keep [4] .ret)))))))))))
def Xh:AF where
 nargs:=1
 ntmps:=13
 res:=[.cell 2 true 2]
 body:=(.seq (.reg [.new 1 (.t 0),.new 2 (.c (.a [(.n 9),(.n 1)]))]) (.seq (.reg [.new 3 (.c (.a [(.n 9),(.n 1)]))]) (.seq (.reg [.fa 4 (.t 1) 0,.ld 5 false 1 (.t 4),.call (some 6) (.c (Fc qgC)) [(.t 5)] (.ro false),.fa 7 (.t 3) 0,.st 1 (.t 7) (.t 6)]) (.keep [1,2,3] (.seq (.reg [.fa 8 (.t 1) 1,.ld 9 false 1 (.t 8),.call (some 10) (.c (Fc qgD)) [(.t 9)] (.ro false),.fa 11 (.t 3) 1,.st 1 (.t 11) (.t 10)]) (.keep [2,3] (.seq (.reg [.ld 12 true 2 (.t 3),.st 2 (.t 2) (.t 12)]) (.keep [2] .ret))))))))
def Y5:AF where
 nargs:=2
 ntmps:=17
 res:=[.tmp 4]
 body:=(.seq (.reg [.new 2 (.t 0),.new 3 (.t 1),.mv 4 (.c (B false))]) (.seq (.seq (.reg [.fa 5 (.t 2) 0,.ld 6 false 1 (.t 5),.fa 7 (.t 3) 0,.ld 8 false 1 (.t 7),.call (some 9) (.c (Fc qgu)) [(.t 6),(.t 8)] (.ro true),.un 10 .not (.t 9)]) (.keep [2,3,10] (.cond (.t 10) (.seq (.reg [.mv 4 (.c (B false))]) (.keep [4] .ret)) .skip))) (.keep [2,3] (.seq (.seq (.reg [.fa 11 (.t 2) 1,.ld 12 false 1 (.t 11),.fa 13 (.t 3) 1,.ld 14 false 1 (.t 13),.call (some 15) (.c (Fc qgv)) [(.t 12),(.t 14)] (.ro true),.un 16 .not (.t 15)]) (.keep [16] (.cond (.t 16) (.seq (.reg [.mv 4 (.c (B false))]) (.keep [4] .ret)) .skip))) (.keep [] (.seq (.reg [.mv 4 (.c (B true))]) (.keep [4] .ret)))))))
def Qq:AF where
 nargs:=1
 ntmps:=6
 res:=[.tmp 2]
 body:=(.seq (.reg [.mv 2 (.c (B false))]) (.seq (.reg [.mv 3 (.t 0),.len 4 (.t 3),.bin 5 .gtr (.t 4) (.c (I 1048576)),.mv 2 (.t 5)]) (.keep [2] .ret)))
def Xp:AF where
 nargs:=1
 ntmps:=8
 res:=[.cell 2 true 4]
 body:=(.seq (.reg [.new 1 (.t 0),.new 2 (.c (.a [(I 0),(S []),(I 0),(.n 4)]))]) (.seq (.reg [.ld 4 true 9 (.t 1),.call (some 5) (.c (Fc qgV)) [(.t 4)] (.ro false),.new 3 (.c (.a [(I 0),(S []),(I 0),(.n 4)])),.st 4 (.t 3) (.t 5)]) (.keep [2,3] (.seq (.reg [.ld 6 true 4 (.t 3),.call (some 7) (.c (Fc qbV)) [(.t 6)] (.ro false),.st 4 (.t 2) (.t 7)]) (.keep [2] .ret)))))
def YM:AF where
 nargs:=1
 ntmps:=18
 res:=[.cell 2 true 9]
 body:=(.seq (.reg [.new 1 (.t 0),.new 2 (.c (.a [(I 0),(S []),(I 0),(.n 4),(I 0),(S []),(I 0),(.n 4),(S [])]))]) (.seq (.reg [.ld 4 true 9 (.t 1),.call (some 5) (.c (Fc qgj)) [(.t 4)] (.ro false),.call (some 6) (.c (Fc qgp)) [(.t 5),(.c (I 0))] (.ro false),.new 3 (.c (.a [(I 0),(S []),(I 0),(.n 4)])),.st 4 (.t 3) (.t 6)]) (.keep [1,2,3] (.seq (.opn [(500000,(6,0),0),(500001,(6,0),1)] (.dreg [⟨0,[]⟩,⟨0,[(3,0)]⟩,⟨0,[(0,0),(0,1),(0,2),(0,3),(4,0),(5,0),(5,1),(5,2),(5,3),(6,0),(6,1),(6,2),(6,3),(8,0)]⟩,⟨0,[(0,0),(0,1),(0,2),(0,3),(1,0),(3,0),(4,0),(5,0),(5,1),(5,2),(5,3),(6,0),(6,1),(6,2),(6,3),(8,0)]⟩,⟨0,[]⟩,⟨0,[(3,0)]⟩,⟨0,[(0,0),(0,1),(0,2),(0,3),(4,0),(5,0),(5,1),(5,2),(5,3),(6,0),(6,1),(6,2),(6,3),(12,0)]⟩,⟨0,[(0,0),(0,1),(0,2),(0,3),(1,0),(3,0),(4,0),(5,0),(5,1),(5,2),(5,3),(6,0),(6,1),(6,2),(6,3),(12,0)]⟩,⟨0,[]⟩,⟨0,[(1,0)]⟩,⟨0,[]⟩,⟨1,[(2,0)]⟩] [.fa 7 (.t 3) 3,.ldq 8 false 1 (.t 7),.ia 9 4 (.t 8) (.c (I 0)),.ldq 10 true 4 (.t 9),.fa 11 (.t 3) 3,.ldq 12 false 1 (.t 11),.ia 13 4 (.t 12) (.c (I 1)),.ldq 14 true 4 (.t 13),.fa 15 (.t 1) 8,.ldq 16 false 1 (.t 15),.build 17 (.a [(I 0),(S []),(I 0),(.n 4),(I 0),(S []),(I 0),(.n 4),(S [])]) [(0,4,(.t 10)),(4,4,(.t 14)),(8,1,(.t 16))],.st 9 (.t 2) (.t 17)])) (.keep [2] .ret)))))
def Xs:AF where
 nargs:=1
 ntmps:=20
 res:=[.cell 2 true 9]
 body:=(.seq (.reg [.new 1 (.t 0),.new 2 (.c (.a [(I 0),(S []),(I 0),(.n 4),(I 0),(S []),(I 0),(.n 4),(S [])]))]) (.seq (.reg [.ld 5 true 9 (.t 1),.call (some 6) (.c (Fc qgI)) [(.t 5)] (.ro false),.new 3 (.c (.a [(I 0),(S []),(I 0),(.n 4)])),.st 4 (.t 3) (.t 6)]) (.keep [1,2,3] (.seq (.reg [.ld 7 true 4 (.t 3),.call (some 8) (.c (Fc qgL)) [(.t 7)] (.ro false),.mv 4 (.t 8)]) (.seq (.dreg [⟨0,[]⟩,⟨0,[(1,0)]⟩,⟨0,[]⟩,⟨2,[(0,0),(0,1),(0,2),(0,3),(5,0),(6,0),(6,1),(6,2),(6,3),(7,0),(8,0),(8,1),(8,2),(8,3),(10,0)]⟩,⟨0,[]⟩,⟨0,[(1,0)]⟩,⟨0,[]⟩,⟨2,[(0,0),(0,1),(0,2),(0,3),(5,0),(6,0),(6,1),(6,2),(6,3),(7,0),(8,0),(8,1),(8,2),(8,3),(14,0)]⟩,⟨0,[]⟩,⟨0,[(1,0)]⟩,⟨0,[]⟩,⟨1,[(2,0)]⟩] [.fa 9 (.t 1) 0,.ldq 10 true 4 (.t 9),.mv 11 (.t 4),.call (some 12) (.c (Fc JX)) [(.t 10),(.t 11),(.c (I 0))] (.ro false),.fa 13 (.t 1) 4,.ldq 14 true 4 (.t 13),.mv 15 (.t 4),.call (some 16) (.c (Fc JX)) [(.t 14),(.t 15),(.c (I 0))] (.ro false),.fa 17 (.t 1) 8,.ldq 18 false 1 (.t 17),.build 19 (.a [(I 0),(S []),(I 0),(.n 4),(I 0),(S []),(I 0),(.n 4),(S [])]) [(0,4,(.t 12)),(4,4,(.t 16)),(8,1,(.t 18))],.st 9 (.t 2) (.t 19)]) (.keep [2] .ret))))))
def Qr:AF where
 nargs:=1
 ntmps:=5
 res:=[.tmp 2]
 body:=(.seq (.reg [.mv 2 (.c (S []))]) (.seq (.reg [.mv 3 (.t 0),.call (some 4) (.c (Fc J2)) [(.t 3)] (.ro false),.mv 2 (.t 4)]) (.keep [2] .ret)))
def ZW:AC:=(.seq (.seq (.reg [.mv 65 (.t 6),.mv 66 (.t 4),.len 67 (.t 66),.bin 68 .lss (.t 65) (.t 67),.mv 69 (.t 68),.gd 69 true (some 70) (.mv 70 (.t 4)),.gd 69 true (some 71) (.mv 71 (.t 6)),.gd 69 true (some 72) (.ia 72 1 (.t 70) (.t 71)),.gd 69 true (some 73) (.ld 73 false 1 (.t 72)),.gd 69 true (some 74) (.bin 74 .neq (.t 73) (.c (S [101,110,100]))),.pick 75 (.t 69) (.t 74) (.c (B false))]) (.keep [4,5,6,8,9,75] (.cond (.t 75) .skip (.keep [4,5,6,8,9] (.exit 2))))) (.keep [4,5,6,8,9] (.seq (.block 3 (.dreg [⟨0,[]⟩,⟨0,[(9,0),(100000,0),(100000,1),(100000,2),(100000,3),(100000,4),(100000,5)]⟩,⟨0,[]⟩,⟨0,[]⟩,⟨0,[(0,0),(0,1),(0,2),(0,3),(17,0),(17,1),(17,2),(17,3),(100000,0),(100000,1),(100000,2),(100000,3),(100000,4),(100000,5)]⟩,⟨0,[(0,0),(0,1),(0,2),(0,3),(17,0),(17,1),(17,2),(17,3),(100000,0),(100000,1),(100000,2),(100000,3),(100000,4),(100000,5)]⟩,⟨0,[]⟩,⟨0,[]⟩,⟨0,[]⟩,⟨1,[(9,0),(100000,0),(100000,1),(100000,2),(100000,3),(100000,4),(100000,5)]⟩] [.fa 78 (.t 9) 2,.ldq 79 false 1 (.t 78),.mv 80 (.t 4),.mv 81 (.t 6),.ia 82 1 (.t 80) (.t 81),.ldq 83 false 1 (.t 82),.bin 84 .add (.t 83) (.c (S [10])),.bin 85 .add (.t 79) (.t 84),.fa 86 (.t 9) 2,.st 1 (.t 86) (.t 85)])) (.keep [4,5,6,8,9] (.reg [.mv 76 (.t 6),.bin 77 .add (.t 76) (.c (I 1)),.mv 6 (.t 77)])))))
def jg:Lp:=⟨[4,5,6,8,9],[(1,0)],ZW⟩
@[go_sem] theorem qt9:jg.ls=[4,5,6,8,9]:=rfl
@[go_sem] theorem qt8:jg.ks=[(1,0)]:=rfl
@[go_sem] theorem qt7:jg.body=ZW:=rfl
def xd:AC:=(.seq (.seq (.reg [.mv 30 (.t 6),.mv 31 (.t 4),.len 32 (.t 31),.bin 33 .lss (.t 30) (.t 32)]) (.keep [4,5,6,33] (.cond (.t 33) .skip (.keep [5] (.exit 0))))) (.keep [4,5,6] (.seq (.block 1 (.seq (.reg [.mv 36 (.t 4),.mv 37 (.t 6),.ia 38 1 (.t 36) (.t 37),.ld 39 false 1 (.t 38),.mv 40 (.t 6),.bin 41 .add (.t 40) (.c (I 1)),.mv 7 (.t 39),.mv 8 (.t 41)]) (.keep [4,5,6,7,8] (.seq (.seq (.reg [.mv 42 (.t 7),.call (some 43) (.c (Fc qbX)) [(.t 42),(.c (S [32]))] (.ro true),.bin 44 .eql (.t 43) (.c (S [])),.mv 45 (.t 44),.gd 45 false (some 46) (.mv 46 (.t 7)),.gd 45 false (some 47) (.ix 47 (.t 46) (.c (I 0))),.gd 45 false (some 48) (.bin 48 .eql (.t 47) (.c (U8 35))),.pick 49 (.t 45) (.c (B true)) (.t 48)]) (.keep [4,5,6,7,8,49] (.cond (.t 49) (.keep [4,5,6] (.exit 1)) .skip))) (.keep [4,5,6,7,8] (.seq (.reg [.mv 51 (.t 7),.call (some 52) (.c (Fc JI)) [(.t 51)] (.ro false),.mv 50 (.t 52),.ext 53 (.t 50) 0,.ext 54 (.t 50) 1,.new 9 (.c (.a [(I 0),(S []),(S [])])),.st 3 (.t 9) (.t 53),.mv 10 (.t 54)]) (.keep [4,5,6,7,8,9,10] (.seq (.seq (.reg [.mv 56 (.t 7),.call (some 57) (.c (Fc ZN)) [(.t 56),(.c (S [102,105,108,101,32]))] (.ro false),.mv 55 (.t 57),.ext 58 (.t 55) 0,.ext 59 (.t 55) 1,.mv 11 (.t 58),.mv 12 (.t 59)]) (.keep [4,5,6,8,9,10,11,12] (.seq (.reg [.mv 60 (.t 12)]) (.cond (.t 60) (.seq (.reg [.mv 61 (.t 11),.build 62 (.a [(I 0),(S []),(S [])]) [(0,1,(.c (I 3))),(1,1,(.t 61))],.st 3 (.t 9) (.t 62)]) (.seq (.seq (.reg [.mv 63 (.t 6),.bin 64 .add (.t 63) (.c (I 1)),.mv 6 (.t 64)]) (.block 2 (lpC jg))) (.keep [4,5,6,8,9] (.reg [.mv 87 (.t 6),.mv 88 (.t 4),.len 89 (.t 88),.bin 90 .lss (.t 87) (.t 89),.mv 10 (.t 90)])))) .skip)))) (.keep [4,5,6,8,9,10] (.seq (.seq (.reg [.mv 91 (.t 10),.un 92 .not (.t 91),.mv 93 (.t 92),.gd 93 false (some 94) (.ld 94 true 3 (.t 9)),.gd 93 false (some 95) (.call (some 95) (.c (Fc JG)) [(.t 94)] (.ro true)),.gd 93 false (some 96) (.un 96 .not (.t 95)),.pick 97 (.t 93) (.c (B true)) (.t 96),.mv 98 (.t 97),.gd 98 false (some 99) (.mv 99 (.t 5)),.gd 98 false (some 100) (.len 100 (.t 99)),.gd 98 false (some 101) (.bin 101 .eql (.t 100) (.c (I 20))),.pick 102 (.t 98) (.c (B true)) (.t 101)]) (.keep [4,5,6,8,9,102] (.cond (.t 102) (.seq (.reg [.mv 103 (.t 8),.mv 2 (.c (.n 3)),.mv 3 (.t 103)]) (.keep [2,3] .ret)) .skip))) (.keep [4,5,6,9] (.reg [.mv 104 (.t 5),.ld 105 true 3 (.t 9),.mks 106 3 [(.t 105)],.app 107 3 40 (.t 104) (.t 106),.mv 5 (.t 107)])))))))))))) (.keep [4,5,6] (.reg [.mv 34 (.t 6),.bin 35 .add (.t 34) (.c (I 1)),.mv 6 (.t 35)])))))
def xz:Lp:=⟨[4,5,6],[(1,0)],xd⟩
@[go_sem] theorem quc:xz.ls=[4,5,6]:=rfl
@[go_sem] theorem qub:xz.ks=[(1,0)]:=rfl
@[go_sem] theorem qua:xz.body=xd:=rfl
def x6:AF where
 nargs:=1
 ntmps:=109
 res:=[.tmp 2,.tmp 3]
 body:=(.seq (.reg [.mv 2 (.c (.n 3)),.mv 3 (.c (I 0))]) (.seq (.seq (.reg [.mv 13 (.t 0),.slen 14 (.t 13),.bin 15 .gtr (.t 14) (.c (I 2500))]) (.cond (.t 15) (.seq (.reg [.mv 2 (.c (.n 3)),.mv 3 (.c (I (-1)))]) (.keep [2,3] .ret)) .skip)) (.keep [0] (.seq (.reg [.mv 16 (.t 0),.call (some 17) (.c (Fc J3)) [(.t 16),(.c (S [10]))] (.ro false),.mv 4 (.t 17)]) (.seq (.seq (.reg [.mv 18 (.t 4),.mv 19 (.t 4),.len 20 (.t 19),.bin 21 .sub (.t 20) (.c (I 1)),.ia 22 1 (.t 18) (.t 21),.ld 23 false 1 (.t 22),.bin 24 .eql (.t 23) (.c (S []))]) (.keep [4,24] (.cond (.t 24) (.reg [.mv 25 (.t 4),.mv 26 (.t 4),.len 27 (.t 26),.bin 28 .sub (.t 27) (.c (I 1)),.sl 29 1 (.t 25) none (some (.t 28)),.mv 4 (.t 29)]) .skip))) (.keep [4] (.seq (.reg [.mv 5 (.c (.n 3))]) (.seq (.seq (.reg [.mv 6 (.c (I 0))]) (.block 0 (lpC xz))) (.keep [5] (.seq (.reg [.mv 108 (.t 5),.mv 2 (.t 108),.mv 3 (.c (I 0))]) (.keep [2,3] .ret)))))))))))
def kH:AC:=(.seq (.seq (.reg [.mv 19 (.t 7),.mv 20 (.t 6),.len 21 (.t 20),.bin 22 .lss (.t 19) (.t 21)]) (.keep [4,5,6,7,22] (.cond (.t 22) .skip (.keep [5] (.exit 0))))) (.keep [4,5,6,7] (.block 1 (.seq (.seq (.reg [.mv 23 (.t 6),.mv 24 (.t 7),.ia 25 1 (.t 23) (.t 24),.ld 26 false 1 (.t 25),.call (some 27) (.c (Fc JZ)) [(.t 26)] (.ro true),.mv 28 (.t 27),.gd 28 false (some 29) (.mv 29 (.t 6)),.gd 28 false (some 30) (.mv 30 (.t 7)),.gd 28 false (some 31) (.ia 31 1 (.t 29) (.t 30)),.gd 28 false (some 32) (.ld 32 false 1 (.t 31)),.gd 28 false (some 33) (.ix 33 (.t 32) (.c (I 0))),.gd 28 false (some 34) (.bin 34 .eql (.t 33) (.c (U8 35))),.pick 35 (.t 28) (.c (B true)) (.t 34)]) (.keep [4,5,6,7,35] (.cond (.t 35) (.seq (.reg [.mv 36 (.t 7),.bin 37 .add (.t 36) (.c (I 1)),.mv 7 (.t 37)]) (.keep [4,5,6,7] (.exit 1))) .skip))) (.keep [4,5,6,7] (.seq (.reg [.mv 39 (.t 6),.mv 40 (.t 7),.call (some 41) (.c (Fc X0)) [(.t 39),(.t 40)] (.ro false),.mv 38 (.t 41),.ext 42 (.t 38) 0,.ext 43 (.t 38) 1,.ext 44 (.t 38) 2,.new 8 (.c (.a [(I 0),(S []),(S [])])),.st 3 (.t 8) (.t 42),.mv 9 (.t 43),.mv 10 (.t 44)]) (.keep [4,5,6,7,8,9,10] (.seq (.seq (.reg [.mv 45 (.t 10),.un 46 .not (.t 45),.mv 47 (.t 46),.gd 47 false (some 48) (.ld 48 true 3 (.t 8)),.gd 47 false (some 49) (.call (some 49) (.c (Fc JT)) [(.t 48)] (.ro true)),.gd 47 false (some 50) (.un 50 .not (.t 49)),.pick 51 (.t 47) (.c (B true)) (.t 50),.mv 52 (.t 51),.gd 52 false (some 53) (.mv 53 (.t 5)),.gd 52 false (some 54) (.len 54 (.t 53)),.gd 52 false (some 55) (.bin 55 .eql (.t 54) (.c (I 20))),.pick 56 (.t 52) (.c (B true)) (.t 55)]) (.keep [4,5,6,7,8,9,56] (.cond (.t 56) (.seq (.reg [.mv 57 (.t 4),.mv 58 (.t 7),.bin 59 .add (.t 58) (.c (I 1)),.mv 2 (.t 57),.mv 3 (.t 59)]) (.keep [2,3] .ret)) .skip))) (.keep [4,5,6,8,9] (.seq (.reg [.mv 60 (.t 5),.ld 61 true 3 (.t 8),.mks 62 3 [(.t 61)],.app 63 3 40 (.t 60) (.t 62),.mv 5 (.t 63)]) (.keep [4,5,6,9] (.reg [.mv 64 (.t 9),.mv 7 (.t 64)]))))))))))))
def x9:Lp:=⟨[4,5,6,7],[(1,0)],kH⟩
@[go_sem] theorem qu8:x9.ls=[4,5,6,7]:=rfl
@[go_sem] theorem qu7:x9.ks=[(1,0)]:=rfl
@[go_sem] theorem qu6:x9.body=kH:=rfl
def ja:AF where
 nargs:=1
 ntmps:=66
 res:=[.tmp 2,.tmp 3]
 body:=(.seq (.reg [.mv 2 (.c (.n 3)),.mv 3 (.c (I 0))]) (.seq (.reg [.mks 11 3 [],.mv 4 (.t 11)]) (.seq (.seq (.reg [.mv 12 (.t 0),.slen 13 (.t 12),.bin 14 .gtr (.t 13) (.c (I 2500))]) (.cond (.t 14) (.seq (.reg [.mv 15 (.t 4),.mv 2 (.t 15),.mv 3 (.c (I (-1)))]) (.keep [2,3] .ret)) .skip)) (.keep [0,4] (.seq (.reg [.mks 16 3 [],.mv 5 (.t 16)]) (.seq (.reg [.mv 17 (.t 0),.call (some 18) (.c (Fc J1)) [(.t 17)] (.ro false),.mv 6 (.t 18)]) (.seq (.seq (.reg [.mv 7 (.c (I 0))]) (.block 0 (lpC x9))) (.keep [5] (.seq (.reg [.mv 65 (.t 5),.mv 2 (.t 65),.mv 3 (.c (I 0))]) (.keep [2,3] .ret))))))))))
def jE:AF where
 nargs:=1
 ntmps:=32
 res:=[.tmp 2]
 body:=(.seq (.reg [.mv 2 (.c (S []))]) (.seq (.reg [.mv 8 (.t 0),.call (some 9) (.c (Fc ZK)) [(.t 8)] (.ro false),.mv 7 (.t 9),.ext 10 (.t 7) 0,.ext 11 (.t 7) 1,.mv 3 (.t 10),.mv 4 (.t 11)]) (.keep [3,4] (.seq (.seq (.reg [.mv 12 (.t 4),.bin 13 .neq (.t 12) (.c (I 0))]) (.cond (.t 13) (.seq (.reg [.mv 14 (.t 4),.call (some 15) (.c (Fc ZJ)) [(.t 14)] (.ro false),.bin 16 .add (.c (S [102,97,117,108,116,32])) (.t 15),.bin 17 .add (.t 16) (.c (S [10])),.mv 2 (.t 17)]) (.keep [2] .ret)) .skip)) (.keep [3] (.seq (.reg [.mv 19 (.t 3),.call (some 20) (.c (Fc qgk)) [(.t 19),(.c (I 500))] (.ro false),.mv 18 (.t 20),.ext 21 (.t 18) 0,.ext 22 (.t 18) 1,.new 5 (.c (.a [(.n 2),(.n 9),(.n 1),(.n 1),(S [])])),.st 5 (.t 5) (.t 21),.mv 6 (.t 22)]) (.keep [5] (.seq (.dreg [⟨0,[(5,0)]⟩,⟨2,[(0,0),(0,1),(0,2),(0,3),(9,0),(9,1),(9,2),(9,3),(20,0),(20,1),(20,2),(20,3),(23,0)]⟩,⟨0,[]⟩,⟨0,[]⟩,⟨0,[(5,0)]⟩,⟨0,[]⟩,⟨2,[(0,0),(0,1),(0,2),(0,3),(9,0),(9,1),(9,2),(9,3),(20,0),(20,1),(20,2),(20,3),(27,0)]⟩,⟨0,[]⟩,⟨0,[]⟩,⟨0,[]⟩] [.ldq 23 true 5 (.t 5),.call (some 24) (.c (Fc qgl)) [(.t 23)] (.ro false),.bin 25 .add (.t 24) (.c (S [45,45,45,32])),.fa 26 (.t 5) 4,.ldq 27 false 1 (.t 26),.slen 28 (.t 27),.call (some 29) (.c (Fc ZJ)) [(.t 28)] (.ro false),.bin 30 .add (.t 25) (.t 29),.bin 31 .add (.t 30) (.c (S [10])),.mv 2 (.t 31)]) (.keep [2] .ret)))))))))
def qb9:AC:=(.seq (.seq (.reg [.mv 12 (.t 5),.mv 13 (.t 0),.len 14 (.t 13),.bin 15 .lss (.t 12) (.t 14)]) (.keep [0,1,5,15] (.cond (.t 15) .skip (.keep [1] (.exit 0))))) (.keep [0,1,5] (.seq (.block 1 (.seq (.reg [.mv 18 (.t 0),.mv 19 (.t 5),.ia 20 9 (.t 18) (.t 19),.ld 21 true 9 (.t 20),.mv 22 (.t 1),.call (some 23) (.c (Fc qgx)) [(.t 21),(.t 22)] (.ro false),.mv 1 (.t 23)]) (.keep [0,1,5] (.seq (.reg [.mv 24 (.t 1),.bin 25 .lss (.t 24) (.c (I 0))]) (.cond (.t 25) (.seq (.reg [.mv 4 (.c (I (-1)))]) (.keep [4] .ret)) .skip))))) (.keep [0,1,5] (.reg [.mv 16 (.t 5),.bin 17 .add (.t 16) (.c (I 1)),.mv 5 (.t 17)])))))
def Kb:Lp:=⟨[0,1,5],[(2,0)],qb9⟩
@[go_sem] theorem quH:Kb.ls=[0,1,5]:=rfl
@[go_sem] theorem quG:Kb.ks=[(2,0)]:=rfl
@[go_sem] theorem quF:Kb.body=qb9:=rfl
def Xa:AF where
 nargs:=2
 ntmps:=27
 res:=[.tmp 4]
 body:=(.seq (.reg [.mv 4 (.c (I 0))]) (.seq (.reg [.mv 6 (.t 1),.mv 7 (.t 0),.len 8 (.t 7),.bin 9 .sub (.t 6) (.t 8),.mv 1 (.t 9)]) (.keep [0,1] (.seq (.seq (.reg [.mv 10 (.t 1),.bin 11 .lss (.t 10) (.c (I 0))]) (.cond (.t 11) (.seq (.reg [.mv 4 (.c (I (-1)))]) (.keep [4] .ret)) .skip)) (.keep [0,1] (.seq (.seq (.reg [.mv 5 (.c (I 0))]) (.block 0 (lpC Kb))) (.keep [1] (.seq (.reg [.mv 26 (.t 1),.mv 4 (.t 26)]) (.keep [4] .ret)))))))))
def qca:AC:=(.seq (.seq (.reg [.mv 12 (.t 5),.mv 13 (.t 0),.len 14 (.t 13),.bin 15 .lss (.t 12) (.t 14)]) (.keep [0,1,5,15] (.cond (.t 15) .skip (.keep [1] (.exit 0))))) (.keep [0,1,5] (.seq (.block 1 (.seq (.reg [.mv 18 (.t 1),.mv 19 (.t 0),.mv 20 (.t 5),.ia 21 1 (.t 19) (.t 20),.ld 22 false 1 (.t 21),.slen 23 (.t 22),.bin 24 .sub (.t 18) (.t 23),.mv 1 (.t 24)]) (.keep [0,1,5] (.seq (.reg [.mv 25 (.t 1),.bin 26 .lss (.t 25) (.c (I 0))]) (.cond (.t 26) (.seq (.reg [.mv 4 (.c (I (-1)))]) (.keep [4] .ret)) .skip))))) (.keep [0,1,5] (.reg [.mv 16 (.t 5),.bin 17 .add (.t 16) (.c (I 1)),.mv 5 (.t 17)])))))
def Kc:Lp:=⟨[0,1,5],[(2,0)],qca⟩
@[go_sem] theorem quK:Kc.ls=[0,1,5]:=rfl
@[go_sem] theorem quJ:Kc.ks=[(2,0)]:=rfl
@[go_sem] theorem quI:Kc.body=qca:=rfl
def Xc:AF where
 nargs:=2
 ntmps:=28
 res:=[.tmp 4]
 body:=(.seq (.reg [.mv 4 (.c (I 0))]) (.seq (.reg [.mv 6 (.t 1),.mv 7 (.t 0),.len 8 (.t 7),.bin 9 .sub (.t 6) (.t 8),.mv 1 (.t 9)]) (.keep [0,1] (.seq (.seq (.reg [.mv 10 (.t 1),.bin 11 .lss (.t 10) (.c (I 0))]) (.cond (.t 11) (.seq (.reg [.mv 4 (.c (I (-1)))]) (.keep [4] .ret)) .skip)) (.keep [0,1] (.seq (.seq (.reg [.mv 5 (.c (I 0))]) (.block 0 (lpC Kc))) (.keep [1] (.seq (.reg [.mv 27 (.t 1),.mv 4 (.t 27)]) (.keep [4] .ret)))))))))
def qcc:AC:=(.seq (.seq (.reg [.mv 8 (.t 4),.mv 9 (.t 0),.len 10 (.t 9),.bin 11 .lss (.t 8) (.t 10)]) (.keep [0,3,4,11] (.cond (.t 11) .skip (.keep [3] (.exit 0))))) (.keep [0,3,4] (.seq (.block 1 (.reg [.mv 14 (.t 3),.mv 15 (.t 4),.mv 16 (.t 0),.mv 17 (.t 4),.ia 18 9 (.t 16) (.t 17),.ld 19 true 9 (.t 18),.call (some 20) (.c (Fc qgB)) [(.t 19)] (.ro false),.ia 21 9 (.t 14) (.t 15),.st 9 (.t 21) (.t 20)])) (.keep [0,3,4] (.reg [.mv 12 (.t 4),.bin 13 .add (.t 12) (.c (I 1)),.mv 4 (.t 13)])))))
def Ke:Lp:=⟨[0,3,4],[(1,0)],qcc⟩
@[go_sem] theorem quQ:Ke.ls=[0,3,4]:=rfl
@[go_sem] theorem quP:Ke.ks=[(1,0)]:=rfl
@[go_sem] theorem quO:Ke.body=qcc:=rfl
def Xg:AF where
 nargs:=1
 ntmps:=23
 res:=[.tmp 2]
 body:=(.seq (.reg [.mv 2 (.c (.n 9))]) (.seq (.reg [.mv 5 (.t 0),.len 6 (.t 5),.mk 7 9 (.a [(I 0),(S []),(I 0),(.n 4),(I 0),(S []),(I 0),(.n 4),(S [])]) 128 (.t 6) (.t 6),.mv 3 (.t 7)]) (.keep [0,3] (.seq (.seq (.reg [.mv 4 (.c (I 0))]) (.block 0 (lpC Ke))) (.keep [3] (.seq (.reg [.mv 22 (.t 3),.mv 2 (.t 22)]) (.keep [2] .ret)))))))
def qcd:AC:=(.seq (.seq (.reg [.mv 8 (.t 4),.mv 9 (.t 0),.len 10 (.t 9),.bin 11 .lss (.t 8) (.t 10)]) (.keep [0,3,4,11] (.cond (.t 11) .skip (.keep [3] (.exit 0))))) (.keep [0,3,4] (.seq (.block 1 (.reg [.mv 14 (.t 3),.mv 15 (.t 4),.mv 16 (.t 0),.mv 17 (.t 4),.ia 18 1 (.t 16) (.t 17),.ld 19 false 1 (.t 18),.ia 20 1 (.t 14) (.t 15),.st 1 (.t 20) (.t 19)])) (.keep [0,3,4] (.reg [.mv 12 (.t 4),.bin 13 .add (.t 12) (.c (I 1)),.mv 4 (.t 13)])))))
def Kf:Lp:=⟨[0,3,4],[(1,0)],qcd⟩
@[go_sem] theorem quT:Kf.ls=[0,3,4]:=rfl
@[go_sem] theorem quS:Kf.ks=[(1,0)]:=rfl
@[go_sem] theorem quR:Kf.body=qcd:=rfl
def Xi:AF where
 nargs:=1
 ntmps:=22
 res:=[.tmp 2]
 body:=(.seq (.reg [.mv 2 (.c (.n 1))]) (.seq (.reg [.mv 5 (.t 0),.len 6 (.t 5),.mk 7 1 (S []) 16 (.t 6) (.t 6),.mv 3 (.t 7)]) (.keep [0,3] (.seq (.seq (.reg [.mv 4 (.c (I 0))]) (.block 0 (lpC Kf))) (.keep [3] (.seq (.reg [.mv 21 (.t 3),.mv 2 (.t 21)]) (.keep [2] .ret)))))))
def qb6:AC:=(.seq (.seq (.reg [.mv 11 (.t 5),.mv 12 (.t 0),.len 13 (.t 12),.bin 14 .lss (.t 11) (.t 13)]) (.keep [0,1,5,14] (.cond (.t 14) .skip (.keep [] (.exit 0))))) (.keep [0,1,5] (.seq (.block 1 (.seq (.dreg [⟨0,[]⟩,⟨0,[]⟩,⟨0,[(0,0),(0,1),(0,2),(0,3),(100000,0),(100000,1),(100000,2),(100000,3),(100000,4),(100000,5)]⟩,⟨0,[(0,0),(0,1),(0,2),(0,3),(100000,0),(100000,1),(100000,2),(100000,3),(100000,4),(100000,5)]⟩,⟨0,[]⟩,⟨0,[]⟩,⟨0,[(1,0),(1,1),(1,2),(1,3),(100000,0),(100000,1),(100000,2),(100000,3),(100000,4),(100000,5)]⟩,⟨0,[(1,0),(1,1),(1,2),(1,3),(100000,0),(100000,1),(100000,2),(100000,3),(100000,4),(100000,5)]⟩,⟨2,[(0,0),(0,1),(0,2),(0,3),(1,0),(1,1),(1,2),(1,3),(20,0),(24,0),(100000,0),(100000,1),(100000,2),(100000,3),(100000,4),(100000,5)]⟩,⟨0,[]⟩] [.mv 17 (.t 0),.mv 18 (.t 5),.ia 19 9 (.t 17) (.t 18),.ldq 20 true 9 (.t 19),.mv 21 (.t 1),.mv 22 (.t 5),.ia 23 9 (.t 21) (.t 22),.ldq 24 true 9 (.t 23),.call (some 25) (.c (Fc qgt)) [(.t 20),(.t 24)] (.ro true),.un 26 .not (.t 25)]) (.keep [0,1,5,26] (.cond (.t 26) (.seq (.reg [.mv 4 (.c (B false))]) (.keep [4] .ret)) .skip)))) (.keep [0,1,5] (.reg [.mv 15 (.t 5),.bin 16 .add (.t 15) (.c (I 1)),.mv 5 (.t 16)])))))
def X8:Lp:=⟨[0,1,5],[(2,0)],qb6⟩
@[go_sem] theorem quy:X8.ls=[0,1,5]:=rfl
@[go_sem] theorem qux:X8.ks=[(2,0)]:=rfl
@[go_sem] theorem quw:X8.body=qb6:=rfl
def Y4:AF where
 nargs:=2
 ntmps:=27
 res:=[.tmp 4]
 body:=(.seq (.reg [.mv 4 (.c (B false))]) (.seq (.seq (.reg [.mv 6 (.t 0),.len 7 (.t 6),.mv 8 (.t 1),.len 9 (.t 8),.bin 10 .neq (.t 7) (.t 9)]) (.keep [0,1,10] (.cond (.t 10) (.seq (.reg [.mv 4 (.c (B false))]) (.keep [4] .ret)) .skip))) (.keep [0,1] (.seq (.seq (.reg [.mv 5 (.c (I 0))]) (.block 0 (lpC X8))) (.keep [] (.seq (.reg [.mv 4 (.c (B true))]) (.keep [4] .ret)))))))
def qb7:AC:=(.seq (.seq (.reg [.mv 11 (.t 5),.mv 12 (.t 0),.len 13 (.t 12),.bin 14 .lss (.t 11) (.t 13)]) (.keep [0,1,5,14] (.cond (.t 14) .skip (.keep [] (.exit 0))))) (.keep [0,1,5] (.seq (.block 1 (.seq (.dreg [⟨0,[]⟩,⟨0,[]⟩,⟨0,[(0,0),(0,1),(0,2),(0,3),(100000,0),(100000,1),(100000,2),(100000,3),(100000,4),(100000,5)]⟩,⟨0,[(0,0),(0,1),(0,2),(0,3),(100000,0),(100000,1),(100000,2),(100000,3),(100000,4),(100000,5)]⟩,⟨0,[]⟩,⟨0,[]⟩,⟨0,[(1,0),(1,1),(1,2),(1,3),(100000,0),(100000,1),(100000,2),(100000,3),(100000,4),(100000,5)]⟩,⟨0,[(1,0),(1,1),(1,2),(1,3),(100000,0),(100000,1),(100000,2),(100000,3),(100000,4),(100000,5)]⟩,⟨0,[]⟩] [.mv 17 (.t 0),.mv 18 (.t 5),.ia 19 1 (.t 17) (.t 18),.ldq 20 false 1 (.t 19),.mv 21 (.t 1),.mv 22 (.t 5),.ia 23 1 (.t 21) (.t 22),.ldq 24 false 1 (.t 23),.bin 25 .neq (.t 20) (.t 24)]) (.keep [0,1,5,25] (.cond (.t 25) (.seq (.reg [.mv 4 (.c (B false))]) (.keep [4] .ret)) .skip)))) (.keep [0,1,5] (.reg [.mv 15 (.t 5),.bin 16 .add (.t 15) (.c (I 1)),.mv 5 (.t 16)])))))
def X9:Lp:=⟨[0,1,5],[(2,0)],qb7⟩
@[go_sem] theorem quB:X9.ls=[0,1,5]:=rfl
@[go_sem] theorem quA:X9.ks=[(2,0)]:=rfl
@[go_sem] theorem quz:X9.body=qb7:=rfl
def Y6:AF where
 nargs:=2
 ntmps:=26
 res:=[.tmp 4]
 body:=(.seq (.reg [.mv 4 (.c (B false))]) (.seq (.seq (.reg [.mv 6 (.t 0),.len 7 (.t 6),.mv 8 (.t 1),.len 9 (.t 8),.bin 10 .neq (.t 7) (.t 9)]) (.keep [0,1,10] (.cond (.t 10) (.seq (.reg [.mv 4 (.c (B false))]) (.keep [4] .ret)) .skip))) (.keep [0,1] (.seq (.seq (.reg [.mv 5 (.c (I 0))]) (.block 0 (lpC X9))) (.keep [] (.seq (.reg [.mv 4 (.c (B true))]) (.keep [4] .ret)))))))
def Qp:AF where
 nargs:=3
 ntmps:=15
 res:=[.tmp 6]
 body:=(.seq (.reg [.mv 6 (.c (B false))]) (.seq (.reg [.mv 7 (.t 0),.mv 8 (.t 1),.bin 9 .geq (.t 7) (.t 8),.mv 10 (.t 9),.gd 10 true (some 11) (.mv 11 (.t 0)),.gd 10 true (some 12) (.mv 12 (.t 2)),.gd 10 true (some 13) (.bin 13 .leq (.t 11) (.t 12)),.pick 14 (.t 10) (.t 13) (.c (B false)),.mv 6 (.t 14)]) (.keep [6] .ret)))
def YN:AF where
 nargs:=1
 ntmps:=19
 res:=[.tmp 2]
 body:=(.seq (.reg [.new 1 (.t 0),.mv 2 (.c (S []))]) (.seq (.seq (.reg [.fa 3 (.t 1) 0,.ld 4 false 1 (.t 3),.bin 5 .neq (.t 4) (.c (I 2)),.mv 6 (.t 5),.gd 6 true (some 7) (.fa 7 (.t 1) 0),.gd 6 true (some 8) (.ld 8 false 1 (.t 7)),.gd 6 true (some 9) (.bin 9 .neq (.t 8) (.c (I 4))),.pick 10 (.t 6) (.t 9) (.c (B false))]) (.keep [1,10] (.cond (.t 10) (.seq (.reg [.mv 2 (.c (S []))]) (.keep [2] .ret)) .skip))) (.keep [1] (.seq (.dreg [⟨0,[]⟩,⟨0,[(1,0)]⟩,⟨0,[]⟩,⟨0,[]⟩,⟨0,[(1,0)]⟩,⟨0,[(0,0),(0,1),(0,2),(0,3),(15,0)]⟩,⟨2,[(0,0),(0,1),(0,2),(0,3),(15,0)]⟩,⟨0,[]⟩,⟨0,[]⟩] [.fa 11 (.t 1) 1,.ldq 12 false 1 (.t 11),.bin 13 .add (.t 12) (.c (S [47])),.fa 14 (.t 1) 3,.ldq 15 false 1 (.t 14),.len 16 (.t 15),.call (some 17) (.c (Fc ZJ)) [(.t 16)] (.ro false),.bin 18 .add (.t 13) (.t 17),.mv 2 (.t 18)]) (.keep [2] .ret)))))
def ZY:AC:=(.seq (.seq (.reg [.mv 8 (.t 4),.mv 9 (.t 0),.len 10 (.t 9),.bin 11 .lss (.t 8) (.t 10),.mv 12 (.t 11),.gd 12 true (some 13) (.mv 13 (.t 4)),.gd 12 true (some 14) (.bin 14 .lss (.t 13) (.c (I 4000))),.pick 15 (.t 12) (.t 14) (.c (B false))]) (.keep [0,3,4,15] (.cond (.t 15) .skip (.keep [0,3] (.exit 0))))) (.keep [0,3,4] (.seq (.block 1 (.reg [.mv 18 (.t 3),.bin 19 .mul (.t 18) (.c (I 131)),.mv 20 (.t 0),.mv 21 (.t 4),.ia 22 1 (.t 20) (.t 21),.ld 23 false 1 (.t 22),.int 24 .i64 (.t 23),.bin 25 .add (.t 19) (.t 24),.bin 26 .add (.t 25) (.c (I 7)),.bin 27 .and (.t 26) (.c (I 1073741823)),.mv 3 (.t 27)])) (.keep [0,3,4] (.reg [.mv 16 (.t 4),.bin 17 .add (.t 16) (.c (I 1)),.mv 4 (.t 17)])))))
def ZR:Lp:=⟨[0,3,4],[(1,0)],ZY⟩
@[go_sem] theorem qvh:ZR.ls=[0,3,4]:=rfl
@[go_sem] theorem qvg:ZR.ks=[(1,0)]:=rfl
@[go_sem] theorem qvf:ZR.body=ZY:=rfl
def Qv:AF where
 nargs:=1
 ntmps:=32
 res:=[.tmp 2]
 body:=(.seq (.reg [.mv 2 (.c (.v (.pointer none)))]) (.seq (.reg [.mv 5 (.t 0),.len 6 (.t 5),.bin 7 .add (.c (I 95101)) (.t 6),.mv 3 (.t 7)]) (.keep [0,3] (.seq (.seq (.reg [.mv 4 (.c (I 0))]) (.block 0 (lpC ZR))) (.keep [0,3] (.seq (.reg [.mv 28 (.t 0),.mv 29 (.t 3),.build 30 (.a [(.n 1),(I 0),(I 0)]) [(0,1,(.t 28)),(2,1,(.t 29))],.new 31 (.t 30),.mv 2 (.t 31)]) (.keep [2] .ret)))))))
def Xy:AF where
 nargs:=2
 ntmps:=9
 res:=[.tmp 4]
 body:=(.seq (.reg [.mv 4 (.c (B false))]) (.seq (.reg [.mv 5 (.t 0),.mv 6 (.t 1),.call (some 7) (.c (Fc kG)) [(.t 5),(.t 6)] (.io false),.bin 8 .eql (.t 7) (.c (I 0)),.mv 4 (.t 8)]) (.keep [0,4] .ret)))
def YP:AF where
 nargs:=1
 ntmps:=6
 res:=[.tmp 2]
 body:=(.seq (.reg [.new 1 (.t 0),.mv 2 (.c (B false))]) (.seq (.reg [.ld 3 true 4 (.t 1),.call (some 4) (.c (Fc qbP)) [(.t 3),(.c (I 1))] (.ro false),.bin 5 .leq (.t 4) (.c (I 400)),.mv 2 (.t 5)]) (.keep [2] .ret)))
def Xv:AF where
 nargs:=1
 ntmps:=10
 res:=[.tmp 2]
 body:=(.seq (.reg [.new 1 (.t 0),.mv 2 (.c (B false))]) (.seq (.reg [.ld 3 true 4 (.t 1),.call (some 4) (.c (Fc qbR)) [(.t 3),(.c (I 400))] (.ro false),.bin 5 .geq (.t 4) (.c (I 0)),.mv 6 (.t 5),.gd 6 true (some 7) (.ld 7 true 4 (.t 1)),.gd 6 true (some 8) (.call (some 8) (.c (Fc qbT)) [(.t 7),(.c (I 1))] (.ro false)),.pick 9 (.t 6) (.t 8) (.c (B false)),.mv 2 (.t 9)]) (.keep [2] .ret)))
def YK:AF where
 nargs:=1
 ntmps:=11
 res:=[.cell 2 true 4]
 body:=(.seq (.reg [.new 1 (.t 0),.new 2 (.c (.a [(I 0),(S []),(I 0),(.n 4)]))]) (.seq (.dreg [⟨0,[]⟩,⟨0,[(1,0)]⟩,⟨2,[(0,0),(0,1),(0,2),(0,3),(4,0)]⟩,⟨0,[]⟩,⟨0,[(1,0)]⟩,⟨2,[(0,0),(0,1),(0,2),(0,3),(7,0)]⟩,⟨1,[]⟩,⟨1,[(0,0),(0,1),(0,2),(0,3),(4,0),(5,0),(5,1),(5,2),(5,3),(7,0),(8,0),(8,1),(8,2),(8,3),(9,0)]⟩,⟨1,[(2,0)]⟩] [.fa 3 (.t 1) 0,.ldq 4 true 4 (.t 3),.call (some 5) (.c (Fc qbN)) [(.t 4)] (.ro false),.fa 6 (.t 1) 4,.ldq 7 true 4 (.t 6),.call (some 8) (.c (Fc qbN)) [(.t 7)] (.ro false),.mks 9 4 [(.t 5),(.t 8)],.call (some 10) (.c (Fc qgr)) [(.c (S [58,45])),(.t 9)] (.io false),.st 4 (.t 2) (.t 10)]) (.keep [2] .ret)))
def Xw:AF where
 nargs:=1
 ntmps:=6
 res:=[.tmp 2]
 body:=(.seq (.reg [.new 1 (.t 0),.mv 2 (.c (.n 1))]) (.seq (.reg [.ld 3 true 4 (.t 1),.mks 4 1 [],.call (some 5) (.c (Fc qbU)) [(.t 3),(.t 4)] (.io false),.mv 2 (.t 5)]) (.keep [2] .ret)))
def XN:AF where
 nargs:=1
 ntmps:=8
 res:=[.cell 2 true 4]
 body:=(.seq (.reg [.new 1 (.t 0),.new 2 (.c (.a [(I 0),(S []),(I 0),(.n 4)]))]) (.seq (.reg [.fa 3 (.t 1) 0,.ld 4 true 4 (.t 3),.fa 5 (.t 1) 4,.ld 6 true 4 (.t 5),.call (some 7) (.c (Fc qgQ)) [(.c (S [58,45])),(.t 4),(.t 6)] (.ro false),.st 4 (.t 2) (.t 7)]) (.keep [2] .ret)))
def XP:AF where
 nargs:=1
 ntmps:=8
 res:=[.cell 2 true 4]
 body:=(.seq (.reg [.new 1 (.t 0),.new 2 (.c (.a [(I 0),(S []),(I 0),(.n 4)]))]) (.seq (.reg [.fa 3 (.t 1) 3,.ld 4 false 1 (.t 3),.call (some 5) (.c (Fc qgW)) [(.t 4)] (.ro false),.fa 6 (.t 1) 3,.st 1 (.t 6) (.t 5)]) (.keep [1,2] (.seq (.reg [.ld 7 true 4 (.t 1),.st 4 (.t 2) (.t 7)]) (.keep [2] .ret)))))
def Qs:AF where
 nargs:=2
 ntmps:=37
 res:=[.tmp 4]
 body:=(.seq (.reg [.mv 4 (.c (I 0))]) (.seq (.seq (.reg [.mv 9 (.t 1),.bin 10 .leq (.t 9) (.c (I 0))]) (.cond (.t 10) (.seq (.reg [.mv 4 (.c (I 0))]) (.keep [0,4] .ret)) .skip)) (.keep [0,1] (.seq (.seq (.reg [.mv 11 (.t 1),.bin 12 .leq (.t 11) (.c (I 256))]) (.cond (.t 12) (.seq (.reg [.mv 13 (.t 0),.call (some 14) (.c (Fc jO)) [(.t 13)] (.io false),.mv 15 (.t 1),.bin 16 .rem (.t 14) (.t 15),.mv 4 (.t 16)]) (.keep [0,4] .ret)) .skip)) (.keep [0,1] (.seq (.reg [.mv 17 (.t 0),.call (some 18) (.c (Fc jO)) [(.t 17)] (.io false),.mv 5 (.t 18)]) (.seq (.reg [.mv 19 (.t 0),.call (some 20) (.c (Fc jO)) [(.t 19)] (.io false),.mv 6 (.t 20)]) (.seq (.reg [.mv 21 (.t 0),.call (some 22) (.c (Fc jO)) [(.t 21)] (.io false),.mv 7 (.t 22)]) (.seq (.reg [.mv 23 (.t 0),.call (some 24) (.c (Fc jO)) [(.t 23)] (.io false),.mv 8 (.t 24)]) (.seq (.reg [.mv 25 (.t 5),.bin 26 .mul (.t 25) (.c (I 16777216)),.mv 27 (.t 6),.bin 28 .mul (.t 27) (.c (I 65536)),.bin 29 .add (.t 26) (.t 28),.mv 30 (.t 7),.bin 31 .mul (.t 30) (.c (I 256)),.bin 32 .add (.t 29) (.t 31),.mv 33 (.t 8),.bin 34 .add (.t 32) (.t 33),.mv 35 (.t 1),.bin 36 .rem (.t 34) (.t 35),.mv 4 (.t 36)]) (.keep [0,4] .ret)))))))))))
def Qt:AF where
 nargs:=3
 ntmps:=15
 res:=[.tmp 6]
 body:=(.seq (.reg [.mv 6 (.c (B false))]) (.seq (.reg [.mv 7 (.t 0),.mv 8 (.t 1),.bin 9 .geq (.t 7) (.t 8),.mv 10 (.t 9),.gd 10 true (some 11) (.mv 11 (.t 0)),.gd 10 true (some 12) (.mv 12 (.t 2)),.gd 10 true (some 13) (.bin 13 .leq (.t 11) (.t 12)),.pick 14 (.t 10) (.t 13) (.c (B false)),.mv 6 (.t 14)]) (.keep [6] .ret)))
def Y0:AF where
 nargs:=2
 ntmps:=8
 res:=[.cell 4 true 4]
 body:=(.seq (.reg [.new 4 (.c (.a [(I 0),(S []),(I 0),(.n 4)]))]) (.seq (.reg [.mv 5 (.t 0),.mv 6 (.t 1),.build 7 (.a [(I 0),(S []),(I 0),(.n 4)]) [(0,1,(.c (I 4))),(1,1,(.t 5)),(3,1,(.t 6))],.st 4 (.t 4) (.t 7)]) (.keep [4] .ret)))
def XF:AF where
 nargs:=3
 ntmps:=12
 res:=[.cell 6 true 4]
 body:=(.seq (.reg [.new 4 (.t 1),.new 5 (.t 2),.new 6 (.c (.a [(I 0),(S []),(I 0),(.n 4)]))]) (.seq (.reg [.mv 7 (.t 0),.ld 8 true 4 (.t 4),.ld 9 true 4 (.t 5),.mks 10 4 [(.t 8),(.t 9)],.build 11 (.a [(I 0),(S []),(I 0),(.n 4)]) [(0,1,(.c (I 4))),(1,1,(.t 7)),(3,1,(.t 10))],.st 4 (.t 6) (.t 11)]) (.keep [6] .ret)))
def YV:AF where
 nargs:=2
 ntmps:=11
 res:=[.cell 4 true 4]
 body:=(.seq (.reg [.new 2 (.t 0),.new 3 (.t 1),.new 4 (.c (.a [(I 0),(S []),(I 0),(.n 4)]))]) (.seq (.reg [.ld 6 true 4 (.t 2),.call (some 7) (.c (Fc qgm)) [(.t 6)] (.ro false),.new 5 (.c (.n 1)),.st 1 (.t 5) (.t 7)]) (.keep [2,3,4,5] (.seq (.reg [.ld 8 true 4 (.t 2),.fun 9 (.func qgq) [] [(.t 3),(.t 5)],.call (some 10) (.c (Fc JH)) [(.t 8),(.t 9)] (.ro false),.st 4 (.t 4) (.t 10)]) (.keep [4] .ret)))))
def qcq:AC:=(.seq (.seq (.reg [.mv 22 (.t 8),.fa 23 (.t 3) 3,.ld 24 false 1 (.t 23),.len 25 (.t 24),.bin 26 .lss (.t 22) (.t 25)]) (.keep [1,2,3,6,7,8,26] (.cond (.t 26) .skip (.keep [6,7] (.exit 0))))) (.keep [1,2,3,6,7,8] (.seq (.block 1 (.dreg [⟨0,[]⟩,⟨0,[(7,0),(100000,0),(100000,1),(100000,2),(100000,3),(100000,4),(100000,5)]⟩,⟨0,[]⟩,⟨0,[(3,0),(100000,0),(100000,1),(100000,2),(100000,3),(100000,4),(100000,5)]⟩,⟨0,[]⟩,⟨0,[(0,0),(0,1),(0,2),(0,3),(32,0),(100000,0),(100000,1),(100000,2),(100000,3),(100000,4),(100000,5)]⟩,⟨0,[(0,0),(0,1),(0,2),(0,3),(3,0),(32,0),(100000,0),(100000,1),(100000,2),(100000,3),(100000,4),(100000,5)]⟩,⟨0,[]⟩,⟨0,[]⟩,⟨2,[(0,0),(0,1),(0,2),(0,3),(1,0),(1,1),(1,2),(1,3),(2,0),(2,1),(2,2),(2,3),(32,0),(35,0),(100000,0),(100000,1),(100000,2),(100000,3),(100000,4),(100000,5)]⟩,⟨1,[]⟩,⟨1,[(0,0),(0,1),(0,2),(0,3),(1,0),(1,1),(1,2),(1,3),(2,0),(2,1),(2,2),(2,3),(32,0),(35,0),(38,0),(38,1),(38,2),(38,3),(39,0),(500000,0),(100000,0),(100000,1),(100000,2),(100000,3),(100000,4),(100000,5)]⟩,⟨0,[]⟩,⟨1,[(7,0),(100000,0),(100000,1),(100000,2),(100000,3),(100000,4),(100000,5)]⟩] [.fa 29 (.t 7) 3,.ldq 30 false 1 (.t 29),.fa 31 (.t 3) 3,.ldq 32 false 1 (.t 31),.mv 33 (.t 8),.ia 34 4 (.t 32) (.t 33),.ldq 35 true 4 (.t 34),.mv 36 (.t 1),.mv 37 (.t 2),.call (some 38) (.c (Fc JX)) [(.t 35),(.t 36),(.t 37)] (.ro false),.mks 39 4 [(.t 38)],.app 40 4 56 (.t 30) (.t 39),.fa 41 (.t 7) 3,.st 1 (.t 41) (.t 40)])) (.keep [1,2,3,6,7,8] (.reg [.mv 27 (.t 8),.bin 28 .add (.t 27) (.c (I 1)),.mv 8 (.t 28)])))))
def Ks:Lp:=⟨[1,2,3,6,7,8],[(3,0)],qcq⟩
@[go_sem] theorem qvF:Ks.ls=[1,2,3,6,7,8]:=rfl
@[go_sem] theorem qvE:Ks.ks=[(3,0)]:=rfl
@[go_sem] theorem qvD:Ks.body=qcq:=rfl
def XO:AF where
 nargs:=3
 ntmps:=43
 res:=[.cell 6 true 4]
 body:=(.seq (.reg [.new 3 (.t 0),.new 6 (.c (.a [(I 0),(S []),(I 0),(.n 4)]))]) (.seq (.reg [.ld 9 true 4 (.t 3),.new 7 (.c (.a [(I 0),(S []),(I 0),(.n 4)])),.st 4 (.t 7) (.t 9)]) (.seq (.seq (.reg [.fa 10 (.t 3) 0,.ld 11 false 1 (.t 10),.bin 12 .eql (.t 11) (.c (I 1))]) (.cond (.t 12) (.reg [.mv 13 (.t 2),.mv 14 (.t 1),.fa 15 (.t 3) 2,.ld 16 false 1 (.t 15),.call (some 17) (.c (Fc qgN)) [(.t 14),(.t 16)] (.ro false),.bin 18 .add (.t 13) (.t 17),.fa 19 (.t 7) 2,.st 1 (.t 19) (.t 18)]) .skip)) (.keep [1,2,3,6,7] (.seq (.reg [.mks 20 4 [],.fa 21 (.t 7) 3,.st 1 (.t 21) (.t 20)]) (.seq (.seq (.reg [.mv 8 (.c (I 0))]) (.block 0 (lpC Ks))) (.keep [6,7] (.seq (.reg [.ld 42 true 4 (.t 7),.st 4 (.t 6) (.t 42)]) (.keep [6] .ret)))))))))
def Kw:AC:=(.seq (.seq (.reg [.mv 123 (.t 9),.bin 124 .lss (.t 123) (.c (I 21))]) (.cond (.t 124) .skip (.keep [7] (.exit 4)))) (.keep [7,9] (.seq (.block 5 (.reg [.mv 127 (.t 7),.bin 128 .add (.t 127) (.c (S [97,115,107,32,116,114,117,101,46,10])),.mv 7 (.t 128)])) (.keep [7,9] (.reg [.mv 125 (.t 9),.bin 126 .add (.t 125) (.c (I 1)),.mv 9 (.t 126)])))))
def ZV:Lp:=⟨[7,9],[(1,0)],Kw⟩
@[go_sem] theorem qv0:ZV.ls=[7,9]:=rfl
@[go_sem] theorem qvZ:ZV.ks=[(1,0)]:=rfl
@[go_sem] theorem qvY:ZV.body=Kw:=rfl
def yN:AC:=(.seq (.seq (.reg [.mv 18 (.t 8),.mv 19 (.t 6),.len 20 (.t 19),.bin 21 .lss (.t 18) (.t 20)]) (.keep [4,5,6,7,8,21] (.cond (.t 21) .skip (.keep [4,5,7] (.exit 0))))) (.keep [4,5,6,7,8] (.seq (.block 1 (.seq (.seq (.reg [.mv 24 (.t 8),.bin 25 .mul (.t 24) (.c (I 7)),.mv 26 (.t 5),.bin 27 .add (.t 25) (.t 26),.bin 28 .rem (.t 27) (.c (I 5)),.bin 29 .eql (.t 28) (.c (I 0))]) (.keep [4,5,6,7,8,29] (.cond (.t 29) (.reg [.mv 30 (.t 7),.mks 31 1 [(.c (S [10])),(.c (S [32,32,10])),(.c (S [35,32,97,32,119,111,114,100,10])),(.c (S [35,98,10]))],.mv 32 (.t 5),.bin 33 .rem (.t 32) (.c (I 4)),.ia 34 1 (.t 31) (.t 33),.ld 35 false 1 (.t 34),.bin 36 .add (.t 30) (.t 35),.mv 7 (.t 36)]) .skip))) (.keep [4,5,6,7,8] (.seq (.seq (.reg [.mv 37 (.t 8),.mv 38 (.t 5),.bin 39 .eql (.t 37) (.t 38)]) (.cond (.t 39) (.reg [.mv 40 (.t 7),.mks 41 1 [(.c (S [97,115,107])),(.c (S [119,104,97,116,10])),(.c (S [102,105,108,101,32,65,10,101,110,100,10])),(.c (S [99,111,110,115,117,108,116,10])),(.c (S [102,105,108,101,32,111,110,101,10]))],.mv 42 (.t 5),.bin 43 .rem (.t 42) (.c (I 5)),.ia 44 1 (.t 41) (.t 43),.ld 45 false 1 (.t 44),.bin 46 .add (.t 40) (.t 45),.mv 7 (.t 46)]) .skip)) (.keep [4,5,6,7,8] (.seq (.reg [.mv 47 (.t 6),.mv 48 (.t 8),.ia 49 3 (.t 47) (.t 48),.fa 50 (.t 49) 0,.ld 51 false 1 (.t 50)]) (.keep [4,5,6,7,8,51] (.block 2 (.seq (.reg [.bin 62 .eql (.t 51) (.c (I 3)),.mv 61 (.t 62)]) (.cond (.t 61) (.dreg [⟨0,[]⟩,⟨0,[]⟩,⟨0,[]⟩,⟨0,[]⟩,⟨0,[(0,0),(0,1),(0,2),(0,3),(17,0),(17,1),(17,2),(17,3),(100000,0),(100000,1),(100000,2),(100000,3),(100000,4),(100000,5)]⟩,⟨0,[]⟩,⟨0,[(0,0),(0,1),(0,2),(0,3),(17,0),(17,1),(17,2),(17,3),(100000,0),(100000,1),(100000,2),(100000,3),(100000,4),(100000,5)]⟩,⟨0,[]⟩,⟨0,[]⟩,⟨0,[]⟩,⟨0,[]⟩,⟨0,[(0,0),(0,1),(0,2),(0,3),(17,0),(17,1),(17,2),(17,3),(100000,0),(100000,1),(100000,2),(100000,3),(100000,4),(100000,5)]⟩,⟨0,[]⟩,⟨0,[(0,0),(0,1),(0,2),(0,3),(17,0),(17,1),(17,2),(17,3),(100000,0),(100000,1),(100000,2),(100000,3),(100000,4),(100000,5)]⟩,⟨0,[]⟩,⟨0,[]⟩,⟨0,[]⟩] [.mv 63 (.t 7),.bin 64 .add (.t 63) (.c (S [102,105,108,101,32])),.mv 65 (.t 6),.mv 66 (.t 8),.ia 67 3 (.t 65) (.t 66),.fa 68 (.t 67) 1,.ldq 69 false 1 (.t 68),.bin 70 .add (.t 64) (.t 69),.bin 71 .add (.t 70) (.c (S [10])),.mv 72 (.t 6),.mv 73 (.t 8),.ia 74 3 (.t 72) (.t 73),.fa 75 (.t 74) 2,.ldq 76 false 1 (.t 75),.bin 77 .add (.t 71) (.t 76),.bin 78 .add (.t 77) (.c (S [101,110,100,10])),.mv 7 (.t 78)]) (.seq (.reg [.bin 80 .eql (.t 51) (.c (I 1)),.mv 79 (.t 80)]) (.cond (.t 79) (.reg [.mv 81 (.t 7),.bin 82 .add (.t 81) (.c (S [99,111,110,115,117,108,116,32])),.mv 83 (.t 6),.mv 84 (.t 8),.ia 85 3 (.t 83) (.t 84),.fa 86 (.t 85) 1,.ld 87 false 1 (.t 86),.bin 88 .add (.t 82) (.t 87),.bin 89 .add (.t 88) (.c (S [10])),.mv 7 (.t 89)]) (.reg [.mv 52 (.t 7),.bin 53 .add (.t 52) (.c (S [97,115,107,32])),.mv 54 (.t 6),.mv 55 (.t 8),.ia 56 3 (.t 54) (.t 55),.fa 57 (.t 56) 2,.ld 58 false 1 (.t 57),.bin 59 .add (.t 53) (.t 58),.bin 60 .add (.t 59) (.c (S [10])),.mv 7 (.t 60)]))))))))))))) (.keep [4,5,6,7,8] (.reg [.mv 22 (.t 8),.bin 23 .add (.t 22) (.c (I 1)),.mv 8 (.t 23)])))))
def jk:Lp:=⟨[4,5,6,7,8],[(1,0)],yN⟩
@[go_sem] theorem qv3:jk.ls=[4,5,6,7,8]:=rfl
@[go_sem] theorem qv2:jk.ks=[(1,0)]:=rfl
@[go_sem] theorem qv1:jk.body=yN:=rfl
def xR:AF where
 nargs:=1
 ntmps:=130
 res:=[.tmp 2]
 body:=(.seq (.reg [.mv 2 (.c (S []))]) (.seq (.reg [.mv 10 (.t 0),.call (some 11) (.c (Fc XV)) [(.t 10)] (.ro false),.mv 3 (.t 11)]) (.seq (.reg [.mv 12 (.t 3),.call (some 13) (.c (Fc kG)) [(.t 12),(.c (I 30))] (.io true),.mv 4 (.t 13)]) (.seq (.reg [.mv 14 (.t 3),.call (some 15) (.c (Fc kG)) [(.t 14),(.c (I 60))] (.io false),.mv 5 (.t 15)]) (.seq (.reg [.mv 16 (.t 0),.call (some 17) (.c (Fc JY)) [(.t 16)] (.ro false),.mv 6 (.t 17)]) (.seq (.reg [.mv 7 (.c (S []))]) (.seq (.seq (.reg [.mv 8 (.c (I 0))]) (.block 0 (lpC jk))) (.keep [4,5,7] (.seq (.seq (.reg [.mv 90 (.t 4)]) (.block 3 (.seq (.reg [.bin 92 .eql (.t 90) (.c (I 0)),.mv 91 (.t 92)]) (.cond (.t 91) (.seq (.reg [.mks 93 1 [(.c (S [])),(.c (S [35])),(.c (S [97,115,107,32,112,40,88,41,46])),(.c (S [101,110,100,10])),(.c (S [102,105,108,101,32,111,110,101,10,112,40,97,41,46,10])),(.c (S [119,104,97,116,10])),(.c (S [99,111,110,115,117,108,116,32,110,111,110,101,10])),(.c (S [102,105,108,101,32,111,110,101,10,101,110,100,10,99,111,110,115,117,108,116,32,111,110,101,10,97,115,107,32,116,114,117,101,46]))],.mv 94 (.t 5),.bin 95 .rem (.t 94) (.c (I 8)),.ia 96 1 (.t 93) (.t 95),.ld 97 false 1 (.t 96),.mv 2 (.t 97)]) (.keep [2] .ret)) (.seq (.reg [.bin 99 .eql (.t 90) (.c (I 1)),.mv 98 (.t 99)]) (.cond (.t 98) (.seq (.reg [.mv 100 (.t 7),.slen 101 (.t 100),.bin 102 .lss (.t 101) (.c (I 2500))]) (.cond (.t 102) (.reg [.mv 103 (.t 7),.bin 104 .add (.t 103) (.c (S [35])),.mv 105 (.t 7),.slen 106 (.t 105),.bin 107 .sub (.c (I 2500)) (.t 106),.bin 108 .sub (.t 107) (.c (I 1)),.mv 109 (.t 5),.bin 110 .rem (.t 109) (.c (I 2)),.bin 111 .add (.t 108) (.t 110),.call (some 112) (.c (Fc JU)) [(.t 111),(.c (U8 32))] (.ro false),.bin 113 .add (.t 104) (.t 112),.mv 7 (.t 113)]) .skip)) (.seq (.reg [.bin 115 .eql (.t 90) (.c (I 2)),.mv 114 (.t 115)]) (.cond (.t 114) (.reg [.mv 116 (.t 7),.mv 117 (.t 7),.slen 118 (.t 117),.bin 119 .sub (.t 118) (.c (I 1)),.ssl 120 (.t 116) none (some (.t 119)),.mv 7 (.t 120)]) (.seq (.reg [.bin 122 .eql (.t 90) (.c (I 3)),.mv 121 (.t 122)]) (.cond (.t 121) (.seq (.reg [.mv 9 (.c (I 0))]) (.block 4 (lpC ZV))) .skip)))))))))) (.keep [7] (.seq (.reg [.mv 129 (.t 7),.mv 2 (.t 129)]) (.keep [2] .ret))))))))))))
def k9:AF where
 nargs:=1
 ntmps:=25
 res:=[.cell 2 true 3,.tmp 3]
 body:=(.seq (.reg [.new 2 (.c (.a [(I 0),(S []),(S [])])),.mv 3 (.c (B false))]) (.seq (.seq (.reg [.mv 9 (.t 0),.call (some 10) (.c (Fc ZN)) [(.t 9),(.c (S [99,111,110,115,117,108,116,32]))] (.ro false),.mv 8 (.t 10),.ext 11 (.t 8) 0,.ext 12 (.t 8) 1,.mv 4 (.t 11),.mv 5 (.t 12)]) (.keep [0,2,4,5] (.seq (.reg [.mv 13 (.t 5)]) (.cond (.t 13) (.seq (.reg [.mv 14 (.t 4),.build 15 (.a [(I 0),(S []),(S [])]) [(0,1,(.c (I 1))),(1,1,(.t 14))],.st 3 (.t 2) (.t 15),.mv 3 (.c (B true))]) (.keep [2,3] .ret)) .skip)))) (.keep [0,2] (.seq (.seq (.reg [.mv 17 (.t 0),.call (some 18) (.c (Fc ZN)) [(.t 17),(.c (S [97,115,107,32]))] (.ro false),.mv 16 (.t 18),.ext 19 (.t 16) 0,.ext 20 (.t 16) 1,.mv 6 (.t 19),.mv 7 (.t 20)]) (.keep [2,6,7] (.seq (.reg [.mv 21 (.t 7)]) (.cond (.t 21) (.seq (.reg [.mv 22 (.t 6),.build 23 (.a [(I 0),(S []),(S [])]) [(0,1,(.c (I 2))),(2,1,(.t 22))],.st 3 (.t 2) (.t 23),.mv 3 (.c (B true))]) (.keep [2,3] .ret)) .skip)))) (.keep [2] (.seq (.reg [.build 24 (.a [(I 0),(S []),(S [])]) [],.st 3 (.t 2) (.t 24),.mv 3 (.c (B false))]) (.keep [2,3] .ret)))))))
def QA:AF where
 nargs:=2
 ntmps:=11
 res:=[.tmp 4,.tmp 5]
 body:=(.seq (.reg [.mv 4 (.c (S [])),.mv 5 (.c (B false))]) (.seq (.reg [.mv 6 (.t 0),.mv 7 (.t 1),.call (some 8) (.c (Fc JK)) [(.t 6),(.t 7)] (.ro false),.ext 9 (.t 8) 0,.ext 10 (.t 8) 1,.mv 4 (.t 9),.mv 5 (.t 10)]) (.keep [4,5] .ret)))
def xx:AF where
 nargs:=1
 ntmps:=37
 res:=[.tmp 2]
 body:=(.seq (.reg [.new 1 (.t 0),.mv 2 (.c (B false))]) (.seq (.seq (.reg [.fa 3 (.t 1) 0,.ld 4 false 1 (.t 3)]) (.block 0 (.seq (.reg [.bin 6 .eql (.t 4) (.c (I 1)),.mv 5 (.t 6)]) (.cond (.t 5) (.seq (.reg [.fa 7 (.t 1) 1,.ld 8 false 1 (.t 7),.call (some 9) (.c (Fc XU)) [(.t 8)] (.ro false),.mv 10 (.t 9),.gd 10 true (some 11) (.fa 11 (.t 1) 2),.gd 10 true (some 12) (.ld 12 false 1 (.t 11)),.gd 10 true (some 13) (.bin 13 .eql (.t 12) (.c (S []))),.pick 14 (.t 10) (.t 13) (.c (B false)),.mv 2 (.t 14)]) (.keep [2] .ret)) (.seq (.reg [.bin 16 .eql (.t 4) (.c (I 2)),.mv 15 (.t 16)]) (.cond (.t 15) (.seq (.reg [.fa 17 (.t 1) 1,.ld 18 false 1 (.t 17),.bin 19 .eql (.t 18) (.c (S [])),.mv 20 (.t 19),.gd 20 true (some 21) (.fa 21 (.t 1) 2),.gd 20 true (some 22) (.ld 22 false 1 (.t 21)),.gd 20 true (some 23) (.slen 23 (.t 22)),.gd 20 true (some 24) (.bin 24 .leq (.t 23) (.c (I 3000))),.pick 25 (.t 20) (.t 24) (.c (B false)),.mv 2 (.t 25)]) (.keep [2] .ret)) (.seq (.reg [.bin 27 .eql (.t 4) (.c (I 3)),.mv 26 (.t 27)]) (.cond (.t 26) (.seq (.reg [.fa 28 (.t 1) 1,.ld 29 false 1 (.t 28),.call (some 30) (.c (Fc XU)) [(.t 29)] (.ro false),.mv 31 (.t 30),.gd 31 true (some 32) (.fa 32 (.t 1) 2),.gd 31 true (some 33) (.ld 33 false 1 (.t 32)),.gd 31 true (some 34) (.slen 34 (.t 33)),.gd 31 true (some 35) (.bin 35 .leq (.t 34) (.c (I 3000))),.pick 36 (.t 31) (.t 35) (.c (B false)),.mv 2 (.t 36)]) (.keep [2] .ret)) .skip)))))))) (.keep [] (.seq (.reg [.mv 2 (.c (B false))]) (.keep [2] .ret)))))
def Z3:AC:=(.seq (.seq (.reg [.mv 7 (.t 5),.mv 8 (.t 0),.slen 9 (.t 8),.bin 10 .lss (.t 7) (.t 9)]) (.keep [0,3,4,5,10] (.cond (.t 10) .skip (.keep [0,3,4] (.exit 0))))) (.keep [0,3,4,5] (.seq (.block 1 (.seq (.reg [.mv 13 (.t 0),.mv 14 (.t 5),.ix 15 (.t 13) (.t 14),.bin 16 .eql (.t 15) (.c (U8 10))]) (.keep [0,3,4,5,16] (.cond (.t 16) (.seq (.reg [.mv 17 (.t 3),.mv 18 (.t 0),.mv 19 (.t 4),.mv 20 (.t 5),.ssl 21 (.t 18) (some (.t 19)) (some (.t 20)),.mks 22 1 [(.t 21)],.app 23 1 16 (.t 17) (.t 22),.mv 3 (.t 23)]) (.keep [0,3,5] (.reg [.mv 24 (.t 5),.bin 25 .add (.t 24) (.c (I 1)),.mv 4 (.t 25)]))) .skip)))) (.keep [0,3,4,5] (.reg [.mv 11 (.t 5),.bin 12 .add (.t 11) (.c (I 1)),.mv 5 (.t 12)])))))
def ZU:Lp:=⟨[0,3,4,5],[(1,0)],Z3⟩
@[go_sem] theorem qvX:ZU.ls=[0,3,4,5]:=rfl
@[go_sem] theorem qvW:ZU.ks=[(1,0)]:=rfl
@[go_sem] theorem qvV:ZU.body=Z3:=rfl
def jN:AF where
 nargs:=1
 ntmps:=37
 res:=[.tmp 2]
 body:=(.seq (.reg [.mv 2 (.c (.n 1))]) (.seq (.reg [.mks 6 1 [],.mv 3 (.t 6)]) (.seq (.reg [.mv 4 (.c (I 0))]) (.seq (.seq (.reg [.mv 5 (.c (I 0))]) (.block 0 (lpC ZU))) (.keep [0,3,4] (.seq (.seq (.reg [.mv 26 (.t 4),.mv 27 (.t 0),.slen 28 (.t 27),.bin 29 .lss (.t 26) (.t 28)]) (.keep [0,3,4,29] (.cond (.t 29) (.reg [.mv 30 (.t 3),.mv 31 (.t 0),.mv 32 (.t 4),.ssl 33 (.t 31) (some (.t 32)) none,.mks 34 1 [(.t 33)],.app 35 1 16 (.t 30) (.t 34),.mv 3 (.t 35)]) .skip))) (.keep [3] (.seq (.reg [.mv 36 (.t 3),.mv 2 (.t 36)]) (.keep [2] .ret)))))))))
def Z1:AC:=(.seq (.seq (.reg [.mv 4 (.t 3),.mv 5 (.t 0),.slen 6 (.t 5),.bin 7 .lss (.t 4) (.t 6)]) (.keep [0,3,7] (.cond (.t 7) .skip (.keep [] (.exit 0))))) (.keep [0,3] (.seq (.block 1 (.seq (.reg [.mv 10 (.t 0),.mv 11 (.t 3),.ix 12 (.t 10) (.t 11),.bin 13 .neq (.t 12) (.c (U8 32))]) (.keep [0,3,13] (.cond (.t 13) (.seq (.reg [.mv 2 (.c (B false))]) (.keep [2] .ret)) .skip)))) (.keep [0,3] (.reg [.mv 8 (.t 3),.bin 9 .add (.t 8) (.c (I 1)),.mv 3 (.t 9)])))))
def ZT:Lp:=⟨[0,3],[(1,0)],Z1⟩
@[go_sem] theorem qvR:ZT.ls=[0,3]:=rfl
@[go_sem] theorem qvQ:ZT.ks=[(1,0)]:=rfl
@[go_sem] theorem qvP:ZT.body=Z1:=rfl
def jL:AF where
 nargs:=1
 ntmps:=14
 res:=[.tmp 2]
 body:=(.seq (.reg [.mv 2 (.c (B false))]) (.seq (.seq (.reg [.mv 3 (.c (I 0))]) (.block 0 (lpC ZT))) (.keep [] (.seq (.reg [.mv 2 (.c (B true))]) (.keep [2] .ret)))))
def x7:AF where
 nargs:=2
 ntmps:=61
 res:=[.cell 4 true 3,.tmp 5,.tmp 6]
 body:=(.seq (.reg [.new 4 (.c (.a [(I 0),(S []),(S [])])),.mv 5 (.c (I 0)),.mv 6 (.c (B false))]) (.seq (.reg [.mv 14 (.t 0),.mv 15 (.t 1),.ia 16 1 (.t 14) (.t 15),.ld 17 false 1 (.t 16),.call (some 18) (.c (Fc ZM)) [(.t 17),(.c (S [102,105,108,101]))] (.ro false),.mv 13 (.t 18),.ext 19 (.t 13) 0,.ext 20 (.t 13) 1,.mv 7 (.t 19),.mv 8 (.t 20)]) (.keep [0,1,4,7,8] (.seq (.seq (.reg [.mv 21 (.t 8)]) (.cond (.t 21) (.seq (.reg [.mv 23 (.t 0),.mv 24 (.t 1),.bin 25 .add (.t 24) (.c (I 1)),.call (some 26) (.c (Fc J0)) [(.t 23),(.t 25)] (.ro false),.mv 22 (.t 26),.ext 27 (.t 22) 0,.ext 28 (.t 22) 1,.mv 9 (.t 27),.mv 10 (.t 28)]) (.keep [4,7,9,10] (.seq (.reg [.mv 29 (.t 7),.mv 30 (.t 9),.build 31 (.a [(I 0),(S []),(S [])]) [(0,1,(.c (I 3))),(1,1,(.t 29)),(2,1,(.t 30))],.mv 32 (.t 10),.mv 33 (.t 10),.bin 34 .geq (.t 33) (.c (I 0)),.st 3 (.t 4) (.t 31),.mv 5 (.t 32),.mv 6 (.t 34)]) (.keep [4,5,6] .ret)))) .skip)) (.keep [0,1,4] (.seq (.reg [.mv 36 (.t 0),.mv 37 (.t 1),.ia 38 1 (.t 36) (.t 37),.ld 39 false 1 (.t 38),.call (some 40) (.c (Fc ZM)) [(.t 39),(.c (S [99,111,110,115,117,108,116]))] (.ro false),.mv 35 (.t 40),.ext 41 (.t 35) 0,.ext 42 (.t 35) 1,.mv 7 (.t 41),.mv 8 (.t 42)]) (.keep [0,1,4,7,8] (.seq (.seq (.reg [.mv 43 (.t 8)]) (.cond (.t 43) (.seq (.reg [.mv 44 (.t 7),.build 45 (.a [(I 0),(S []),(S [])]) [(0,1,(.c (I 1))),(1,1,(.t 44))],.mv 46 (.t 1),.bin 47 .add (.t 46) (.c (I 1)),.st 3 (.t 4) (.t 45),.mv 5 (.t 47),.mv 6 (.c (B true))]) (.keep [4,5,6] .ret)) .skip)) (.keep [0,1,4] (.seq (.reg [.mv 49 (.t 0),.mv 50 (.t 1),.ia 51 1 (.t 49) (.t 50),.ld 52 false 1 (.t 51),.call (some 53) (.c (Fc ZM)) [(.t 52),(.c (S [97,115,107]))] (.ro false),.mv 48 (.t 53),.ext 54 (.t 48) 0,.ext 55 (.t 48) 1,.mv 11 (.t 54),.mv 12 (.t 55)]) (.keep [1,4,11,12] (.seq (.reg [.mv 56 (.t 11),.build 57 (.a [(I 0),(S []),(S [])]) [(0,1,(.c (I 2))),(2,1,(.t 56))],.mv 58 (.t 1),.bin 59 .add (.t 58) (.c (I 1)),.mv 60 (.t 12),.st 3 (.t 4) (.t 57),.mv 5 (.t 59),.mv 6 (.t 60)]) (.keep [4,5,6] .ret)))))))))))))
def xy:AF where
 nargs:=1
 ntmps:=37
 res:=[.tmp 2]
 body:=(.seq (.reg [.new 1 (.t 0),.mv 2 (.c (B false))]) (.seq (.seq (.reg [.fa 3 (.t 1) 0,.ld 4 false 1 (.t 3)]) (.block 0 (.seq (.reg [.bin 6 .eql (.t 4) (.c (I 1)),.mv 5 (.t 6)]) (.cond (.t 5) (.seq (.reg [.fa 7 (.t 1) 1,.ld 8 false 1 (.t 7),.call (some 9) (.c (Fc XX)) [(.t 8)] (.ro false),.mv 10 (.t 9),.gd 10 true (some 11) (.fa 11 (.t 1) 2),.gd 10 true (some 12) (.ld 12 false 1 (.t 11)),.gd 10 true (some 13) (.bin 13 .eql (.t 12) (.c (S []))),.pick 14 (.t 10) (.t 13) (.c (B false)),.mv 2 (.t 14)]) (.keep [2] .ret)) (.seq (.reg [.bin 16 .eql (.t 4) (.c (I 2)),.mv 15 (.t 16)]) (.cond (.t 15) (.seq (.reg [.fa 17 (.t 1) 1,.ld 18 false 1 (.t 17),.bin 19 .eql (.t 18) (.c (S [])),.mv 20 (.t 19),.gd 20 true (some 21) (.fa 21 (.t 1) 2),.gd 20 true (some 22) (.ld 22 false 1 (.t 21)),.gd 20 true (some 23) (.slen 23 (.t 22)),.gd 20 true (some 24) (.bin 24 .leq (.t 23) (.c (I 3000))),.pick 25 (.t 20) (.t 24) (.c (B false)),.mv 2 (.t 25)]) (.keep [2] .ret)) (.seq (.reg [.bin 27 .eql (.t 4) (.c (I 3)),.mv 26 (.t 27)]) (.cond (.t 26) (.seq (.reg [.fa 28 (.t 1) 1,.ld 29 false 1 (.t 28),.call (some 30) (.c (Fc XX)) [(.t 29)] (.ro false),.mv 31 (.t 30),.gd 31 true (some 32) (.fa 32 (.t 1) 2),.gd 31 true (some 33) (.ld 33 false 1 (.t 32)),.gd 31 true (some 34) (.slen 34 (.t 33)),.gd 31 true (some 35) (.bin 35 .leq (.t 34) (.c (I 3000))),.pick 36 (.t 31) (.t 35) (.c (B false)),.mv 2 (.t 36)]) (.keep [2] .ret)) .skip)))))))) (.keep [] (.seq (.reg [.mv 2 (.c (B false))]) (.keep [2] .ret)))))
def Qn:AF where
 nargs:=1
 ntmps:=5
 res:=[.tmp 2]
 body:=(.seq (.reg [.mv 2 (.c (S []))]) (.seq (.reg [.mv 3 (.t 0),.call (some 4) (.c (Fc qbW)) [(.t 3)] (.ro false),.mv 2 (.t 4)]) (.keep [2] .ret)))
def Y9:AF where
 nargs:=2
 ntmps:=25
 res:=[.tmp 4]
 body:=(.seq (.reg [.new 2 (.t 0),.mv 4 (.c (I 0))]) (.seq (.reg [.fa 5 (.t 2) 0,.ld 6 true 4 (.t 5),.mv 7 (.t 1),.call (some 8) (.c (Fc JP)) [(.t 6),(.t 7)] (.ro false),.mv 1 (.t 8)]) (.keep [1,2] (.seq (.seq (.reg [.mv 9 (.t 1),.bin 10 .lss (.t 9) (.c (I 0))]) (.cond (.t 10) (.seq (.reg [.mv 4 (.c (I (-1)))]) (.keep [4] .ret)) .skip)) (.keep [1,2] (.seq (.reg [.fa 11 (.t 2) 4,.ld 12 true 4 (.t 11),.mv 13 (.t 1),.call (some 14) (.c (Fc JP)) [(.t 12),(.t 13)] (.ro false),.mv 1 (.t 14)]) (.keep [1,2] (.seq (.seq (.reg [.mv 15 (.t 1),.bin 16 .lss (.t 15) (.c (I 0))]) (.cond (.t 16) (.seq (.reg [.mv 4 (.c (I (-1)))]) (.keep [4] .ret)) .skip)) (.keep [1,2] (.seq (.reg [.mv 17 (.t 1),.fa 18 (.t 2) 8,.ld 19 false 1 (.t 18),.slen 20 (.t 19),.bin 21 .sub (.t 17) (.t 20),.mv 1 (.t 21)]) (.keep [1] (.seq (.seq (.reg [.mv 22 (.t 1),.bin 23 .lss (.t 22) (.c (I 0))]) (.cond (.t 23) (.seq (.reg [.mv 4 (.c (I (-1)))]) (.keep [4] .ret)) .skip)) (.keep [1] (.seq (.reg [.mv 24 (.t 1),.mv 4 (.t 24)]) (.keep [4] .ret)))))))))))))))
def Xf:AF where
 nargs:=1
 ntmps:=16
 res:=[.cell 2 true 9]
 body:=(.seq (.reg [.new 1 (.t 0),.new 2 (.c (.a [(I 0),(S []),(I 0),(.n 4),(I 0),(S []),(I 0),(.n 4),(S [])]))]) (.seq (.reg [.new 3 (.c (.a [(I 0),(S []),(I 0),(.n 4),(I 0),(S []),(I 0),(.n 4),(S [])]))]) (.seq (.reg [.fa 4 (.t 1) 0,.ld 5 true 4 (.t 4),.call (some 6) (.c (Fc JQ)) [(.t 5)] (.ro false),.fa 7 (.t 3) 0,.st 4 (.t 7) (.t 6)]) (.keep [1,2,3] (.seq (.reg [.fa 8 (.t 1) 4,.ld 9 true 4 (.t 8),.call (some 10) (.c (Fc JQ)) [(.t 9)] (.ro false),.fa 11 (.t 3) 4,.st 4 (.t 11) (.t 10)]) (.keep [1,2,3] (.seq (.reg [.fa 12 (.t 1) 8,.ld 13 false 1 (.t 12),.fa 14 (.t 3) 8,.st 1 (.t 14) (.t 13)]) (.keep [2,3] (.seq (.reg [.ld 15 true 9 (.t 3),.st 9 (.t 2) (.t 15)]) (.keep [2] .ret))))))))))
def Y3:AF where
 nargs:=2
 ntmps:=22
 res:=[.tmp 4]
 body:=(.seq (.reg [.new 2 (.t 0),.new 3 (.t 1),.mv 4 (.c (B false))]) (.seq (.seq (.reg [.fa 5 (.t 2) 0,.ld 6 true 4 (.t 5),.fa 7 (.t 3) 0,.ld 8 true 4 (.t 7),.call (some 9) (.c (Fc JO)) [(.t 6),(.t 8)] (.ro true),.un 10 .not (.t 9)]) (.keep [2,3,10] (.cond (.t 10) (.seq (.reg [.mv 4 (.c (B false))]) (.keep [4] .ret)) .skip))) (.keep [2,3] (.seq (.seq (.reg [.fa 11 (.t 2) 4,.ld 12 true 4 (.t 11),.fa 13 (.t 3) 4,.ld 14 true 4 (.t 13),.call (some 15) (.c (Fc JO)) [(.t 12),(.t 14)] (.ro true),.un 16 .not (.t 15)]) (.keep [2,3,16] (.cond (.t 16) (.seq (.reg [.mv 4 (.c (B false))]) (.keep [4] .ret)) .skip))) (.keep [2,3] (.seq (.seq (.reg [.fa 17 (.t 2) 8,.ld 18 false 1 (.t 17),.fa 19 (.t 3) 8,.ld 20 false 1 (.t 19),.bin 21 .neq (.t 18) (.t 20)]) (.keep [21] (.cond (.t 21) (.seq (.reg [.mv 4 (.c (B false))]) (.keep [4] .ret)) .skip))) (.keep [] (.seq (.reg [.mv 4 (.c (B true))]) (.keep [4] .ret)))))))))
def Xt:AF where
 nargs:=1
 ntmps:=19
 res:=[.tmp 2]
 body:=(.seq (.reg [.new 1 (.t 0),.mv 2 (.c (S []))]) (.seq (.seq (.reg [.fa 3 (.t 1) 0,.ld 4 false 1 (.t 3),.bin 5 .neq (.t 4) (.c (I 2)),.mv 6 (.t 5),.gd 6 true (some 7) (.fa 7 (.t 1) 0),.gd 6 true (some 8) (.ld 8 false 1 (.t 7)),.gd 6 true (some 9) (.bin 9 .neq (.t 8) (.c (I 4))),.pick 10 (.t 6) (.t 9) (.c (B false))]) (.keep [1,10] (.cond (.t 10) (.seq (.reg [.mv 2 (.c (S []))]) (.keep [2] .ret)) .skip))) (.keep [1] (.seq (.dreg [⟨0,[]⟩,⟨0,[(1,0)]⟩,⟨0,[]⟩,⟨0,[]⟩,⟨0,[(1,0)]⟩,⟨0,[(0,0),(0,1),(0,2),(0,3),(15,0)]⟩,⟨2,[(0,0),(0,1),(0,2),(0,3),(15,0)]⟩,⟨0,[]⟩,⟨0,[]⟩] [.fa 11 (.t 1) 1,.ldq 12 false 1 (.t 11),.bin 13 .add (.t 12) (.c (S [47])),.fa 14 (.t 1) 3,.ldq 15 false 1 (.t 14),.len 16 (.t 15),.call (some 17) (.c (Fc qgJ)) [(.t 16)] (.ro false),.bin 18 .add (.t 13) (.t 17),.mv 2 (.t 18)]) (.keep [2] .ret)))))
def qb5:AC:=(.seq (.reg [.bin 85 .lss (.t 84) (.t 83)]) (.seq (.cond (.t 85) .skip (.keep [5] (.exit 1))) (.keep [1,5,82,83,84] (.seq (.block 2 (.seq (.reg [.ia 86 4 (.t 82) (.t 84),.ld 87 true 4 (.t 86),.new 7 (.c (.a [(I 0),(S []),(I 0),(.n 4)])),.st 4 (.t 7) (.t 87)]) (.keep [1,5,7,82,83,84] (.seq (.reg [.mv 88 (.t 5),.ld 89 true 4 (.t 7),.mv 90 (.t 1),.bin 91 .add (.t 90) (.c (I 1)),.call (some 92) (.c (Fc qbP)) [(.t 89),(.t 91)] (.ro false),.bin 93 .add (.t 88) (.t 92),.mv 5 (.t 93)]) (.keep [1,5,82,83,84] (.seq (.reg [.mv 94 (.t 5),.bin 95 .gtr (.t 94) (.c (I 400))]) (.cond (.t 95) (.seq (.reg [.mv 4 (.c (I 401))]) (.keep [4] .ret)) .skip))))))) (.keep [1,5,82,83,84] (.reg [.bin 96 .add (.t 84) (.c (I 1)),.mv 84 (.t 96)]))))))
def X7:Lp:=⟨[1,5,82,83,84],[(2,0)],qb5⟩
@[go_sem] theorem qus:X7.ls=[1,5,82,83,84]:=rfl
@[go_sem] theorem qur:X7.ks=[(2,0)]:=rfl
@[go_sem] theorem quq:X7.body=qb5:=rfl
def YZ:AF where
 nargs:=2
 ntmps:=98
 res:=[.tmp 4]
 body:=(.seq (.reg [.new 2 (.t 0),.mv 4 (.c (I 0))]) (.seq (.seq (.reg [.mv 8 (.t 1),.bin 9 .gtr (.t 8) (.c (I 40))]) (.cond (.t 9) (.seq (.reg [.mv 4 (.c (I 401))]) (.keep [4] .ret)) .skip)) (.keep [1,2] (.seq (.seq (.reg [.fa 10 (.t 2) 0,.ld 11 false 1 (.t 10)]) (.block 0 (.seq (.reg [.bin 13 .eql (.t 11) (.c (I 1)),.mv 12 (.t 13)]) (.cond (.t 12) (.seq (.reg [.fa 14 (.t 2) 1,.ld 15 false 1 (.t 14),.bin 16 .neq (.t 15) (.c (S [])),.mv 17 (.t 16),.gd 17 false (some 18) (.fa 18 (.t 2) 2),.gd 17 false (some 19) (.ld 19 false 1 (.t 18)),.gd 17 false (some 20) (.call (some 20) (.c (Fc je)) [(.t 19),(.c (I 0)),(.c (I 99999))] (.ro true)),.gd 17 false (some 21) (.un 21 .not (.t 20)),.pick 22 (.t 17) (.c (B true)) (.t 21),.mv 23 (.t 22),.gd 23 false (some 24) (.fa 24 (.t 2) 3),.gd 23 false (some 25) (.ld 25 false 1 (.t 24)),.gd 23 false (some 26) (.len 26 (.t 25)),.gd 23 false (some 27) (.bin 27 .gtr (.t 26) (.c (I 0))),.pick 28 (.t 23) (.c (B true)) (.t 27)]) (.keep [1,2,28] (.cond (.t 28) (.seq (.reg [.mv 4 (.c (I 401))]) (.keep [4] .ret)) .skip))) (.seq (.reg [.bin 30 .eql (.t 11) (.c (I 2)),.mv 29 (.t 30)]) (.cond (.t 29) (.seq (.reg [.fa 31 (.t 2) 1,.ld 32 false 1 (.t 31),.call (some 33) (.c (Fc qbO)) [(.t 32)] (.ro true),.un 34 .not (.t 33),.mv 35 (.t 34),.gd 35 false (some 36) (.fa 36 (.t 2) 2),.gd 35 false (some 37) (.ld 37 false 1 (.t 36)),.gd 35 false (some 38) (.bin 38 .neq (.t 37) (.c (I 0))),.pick 39 (.t 35) (.c (B true)) (.t 38),.mv 40 (.t 39),.gd 40 false (some 41) (.fa 41 (.t 2) 3),.gd 40 false (some 42) (.ld 42 false 1 (.t 41)),.gd 40 false (some 43) (.len 43 (.t 42)),.gd 40 false (some 44) (.bin 44 .gtr (.t 43) (.c (I 0))),.pick 45 (.t 40) (.c (B true)) (.t 44)]) (.keep [1,2,45] (.cond (.t 45) (.seq (.reg [.mv 4 (.c (I 401))]) (.keep [4] .ret)) .skip))) (.seq (.reg [.bin 47 .eql (.t 11) (.c (I 3)),.mv 46 (.t 47)]) (.cond (.t 46) (.seq (.reg [.fa 48 (.t 2) 1,.ld 49 false 1 (.t 48),.bin 50 .neq (.t 49) (.c (S [])),.mv 51 (.t 50),.gd 51 false (some 52) (.fa 52 (.t 2) 2),.gd 51 false (some 53) (.ld 53 false 1 (.t 52)),.gd 51 false (some 54) (.call (some 54) (.c (Fc je)) [(.t 53),(.c (I (-999999999))),(.c (I 999999999))] (.ro true)),.gd 51 false (some 55) (.un 55 .not (.t 54)),.pick 56 (.t 51) (.c (B true)) (.t 55),.mv 57 (.t 56),.gd 57 false (some 58) (.fa 58 (.t 2) 3),.gd 57 false (some 59) (.ld 59 false 1 (.t 58)),.gd 57 false (some 60) (.len 60 (.t 59)),.gd 57 false (some 61) (.bin 61 .gtr (.t 60) (.c (I 0))),.pick 62 (.t 57) (.c (B true)) (.t 61)]) (.keep [1,2,62] (.cond (.t 62) (.seq (.reg [.mv 4 (.c (I 401))]) (.keep [4] .ret)) .skip))) (.seq (.reg [.bin 64 .eql (.t 11) (.c (I 4)),.mv 63 (.t 64)]) (.cond (.t 63) (.seq (.reg [.fa 65 (.t 2) 1,.ld 66 false 1 (.t 65),.call (some 67) (.c (Fc qbO)) [(.t 66)] (.ro true),.un 68 .not (.t 67),.mv 69 (.t 68),.gd 69 false (some 70) (.fa 70 (.t 2) 2),.gd 69 false (some 71) (.ld 71 false 1 (.t 70)),.gd 69 false (some 72) (.bin 72 .neq (.t 71) (.c (I 0))),.pick 73 (.t 69) (.c (B true)) (.t 72),.mv 74 (.t 73),.gd 74 false (some 75) (.fa 75 (.t 2) 3),.gd 74 false (some 76) (.ld 76 false 1 (.t 75)),.gd 74 false (some 77) (.len 77 (.t 76)),.gd 74 false (some 78) (.call (some 78) (.c (Fc je)) [(.t 77),(.c (I 1)),(.c (I 5))] (.ro true)),.gd 74 false (some 79) (.un 79 .not (.t 78)),.pick 80 (.t 74) (.c (B true)) (.t 79)]) (.keep [1,2,80] (.cond (.t 80) (.seq (.reg [.mv 4 (.c (I 401))]) (.keep [4] .ret)) .skip))) (.seq (.reg [.mv 4 (.c (I 401))]) (.keep [4] .ret)))))))))))) (.keep [1,2] (.seq (.reg [.mv 5 (.c (I 1))]) (.seq (.seq (.reg [.fa 81 (.t 2) 3,.ld 82 false 1 (.t 81),.len 83 (.t 82),.mv 84 (.c (I 0))]) (.keep [1,5,82,83,84] (.block 1 (lpC X7)))) (.keep [5] (.seq (.reg [.mv 97 (.t 5),.mv 4 (.t 97)]) (.keep [4] .ret))))))))))
def qck:AC:=(.seq (.seq (.reg [.mv 8 (.t 5),.fa 9 (.t 2) 3,.ld 10 false 1 (.t 9),.len 11 (.t 10),.bin 12 .lss (.t 8) (.t 11),.mv 13 (.t 12),.gd 13 true (some 14) (.mv 14 (.t 1)),.gd 13 true (some 15) (.bin 15 .geq (.t 14) (.c (I 0))),.pick 16 (.t 13) (.t 15) (.c (B false))]) (.keep [1,2,5,16] (.cond (.t 16) .skip (.keep [1] (.exit 0))))) (.keep [1,2,5] (.seq (.block 1 (.reg [.fa 19 (.t 2) 3,.ld 20 false 1 (.t 19),.mv 21 (.t 5),.ia 22 4 (.t 20) (.t 21),.ld 23 true 4 (.t 22),.mv 24 (.t 1),.call (some 25) (.c (Fc qbR)) [(.t 23),(.t 24)] (.ro false),.mv 1 (.t 25)])) (.keep [1,2,5] (.reg [.mv 17 (.t 5),.bin 18 .add (.t 17) (.c (I 1)),.mv 5 (.t 18)])))))
def Km:Lp:=⟨[1,2,5],[(2,0)],qck⟩
@[go_sem] theorem qvn:Km.ls=[1,2,5]:=rfl
@[go_sem] theorem qvm:Km.ks=[(2,0)]:=rfl
@[go_sem] theorem qvl:Km.body=qck:=rfl
def XA:AF where
 nargs:=2
 ntmps:=27
 res:=[.tmp 4]
 body:=(.seq (.reg [.new 2 (.t 0),.mv 4 (.c (I 0))]) (.seq (.reg [.mv 6 (.t 1),.bin 7 .sub (.t 6) (.c (I 1)),.mv 1 (.t 7)]) (.seq (.seq (.reg [.mv 5 (.c (I 0))]) (.block 0 (lpC Km))) (.keep [1] (.seq (.reg [.mv 26 (.t 1),.mv 4 (.t 26)]) (.keep [4] .ret))))))
def qcn:AC:=(.seq (.seq (.reg [.mv 13 (.t 5),.fa 14 (.t 2) 3,.ld 15 false 1 (.t 14),.len 16 (.t 15),.bin 17 .lss (.t 13) (.t 16)]) (.keep [1,2,5,17] (.cond (.t 17) .skip (.keep [] (.exit 0))))) (.keep [1,2,5] (.seq (.block 1 (.seq (.reg [.fa 20 (.t 2) 3,.ld 21 false 1 (.t 20),.mv 22 (.t 5),.ia 23 4 (.t 21) (.t 22),.ld 24 true 4 (.t 23),.mv 25 (.t 1),.bin 26 .add (.t 25) (.c (I 1)),.call (some 27) (.c (Fc qbT)) [(.t 24),(.t 26)] (.ro true),.un 28 .not (.t 27)]) (.keep [1,2,5,28] (.cond (.t 28) (.seq (.reg [.mv 4 (.c (B false))]) (.keep [4] .ret)) .skip)))) (.keep [1,2,5] (.reg [.mv 18 (.t 5),.bin 19 .add (.t 18) (.c (I 1)),.mv 5 (.t 19)])))))
def Kp:Lp:=⟨[1,2,5],[(2,0)],qcn⟩
@[go_sem] theorem qvw:Kp.ls=[1,2,5]:=rfl
@[go_sem] theorem qvv:Kp.ks=[(2,0)]:=rfl
@[go_sem] theorem qvu:Kp.body=qcn:=rfl
def XE:AF where
 nargs:=2
 ntmps:=29
 res:=[.tmp 4]
 body:=(.seq (.reg [.new 2 (.t 0),.mv 4 (.c (B false))]) (.seq (.seq (.reg [.mv 6 (.t 1),.bin 7 .gtr (.t 6) (.c (I 40)),.mv 8 (.t 7),.gd 8 false (some 9) (.ld 9 true 4 (.t 2)),.gd 8 false (some 10) (.call (some 10) (.c (Fc qgP)) [(.t 9)] (.ro true)),.gd 8 false (some 11) (.un 11 .not (.t 10)),.pick 12 (.t 8) (.c (B true)) (.t 11)]) (.keep [1,2,12] (.cond (.t 12) (.seq (.reg [.mv 4 (.c (B false))]) (.keep [4] .ret)) .skip))) (.keep [1,2] (.seq (.seq (.reg [.mv 5 (.c (I 0))]) (.block 0 (lpC Kp))) (.keep [] (.seq (.reg [.mv 4 (.c (B true))]) (.keep [4] .ret)))))))
def YS:AF where
 nargs:=1
 ntmps:=5
 res:=[.cell 2 true 4]
 body:=(.seq (.reg [.new 1 (.t 0),.new 2 (.c (.a [(I 0),(S []),(I 0),(.n 4)]))]) (.seq (.reg [.ld 3 true 4 (.t 1),.call (some 4) (.c (Fc JH)) [(.t 3),(.c (Fc qgn))] (.ro false),.st 4 (.t 2) (.t 4)]) (.keep [2] .ret)))
def XH:AF where
 nargs:=1
 ntmps:=13
 res:=[.tmp 2]
 body:=(.seq (.reg [.mv 2 (.c (B false))]) (.seq (.reg [.mv 3 (.t 0),.bin 4 .eql (.t 3) (.c (U8 32)),.mv 5 (.t 4),.gd 5 false (some 6) (.mv 6 (.t 0)),.gd 5 false (some 7) (.bin 7 .eql (.t 6) (.c (U8 9))),.pick 8 (.t 5) (.c (B true)) (.t 7),.mv 9 (.t 8),.gd 9 false (some 10) (.mv 10 (.t 0)),.gd 9 false (some 11) (.bin 11 .eql (.t 10) (.c (U8 10))),.pick 12 (.t 9) (.c (B true)) (.t 11),.mv 2 (.t 12)]) (.keep [2] .ret)))
def Qx:AF where
 nargs:=0
 ntmps:=2
 res:=[.tmp 0]
 body:=(.seq (.reg [.mv 0 (.c (.n 1))]) (.seq (.reg [.mks 1 1 [(.c (S [112,40,97,41])),(.c (S [112,40,98,41])),(.c (S [112,40,99,41])),(.c (S [113,40,88,41,32,58,45,32,112,40,88,41])),(.c (S [113,40,122,41])),(.c (S [114,40,88,44,32,89,41,32,58,45,32,112,40,88,41,44,32,113,40,89,41])),(.c (S [97,112,112,40,91,93,44,32,76,44,32,76,41])),(.c (S [97,112,112,40,91,72,124,84,93,44,32,76,44,32,91,72,124,82,93,41,32,58,45,32,97,112,112,40,84,44,32,76,44,32,82,41])),(.c (S [108,101,110,40,91,93,44,32,48,41])),(.c (S [108,101,110,40,91,95,124,84,93,44,32,78,41,32,58,45,32,108,101,110,40,84,44,32,77,41,44,32,78,32,105,115,32,77,32,43,32,49])),(.c (S [115,40,88,41,32,58,45,32,112,40,88,41,44,32,33])),(.c (S [115,40,122,41])),(.c (S [116,40,88,41,32,58,45,32,40,112,40,88,41,32,45,62,32,116,114,117,101,32,59,32,88,32,61,32,110,111,110,101,41])),(.c (S [117,40,88,41,32,58,45,32,92,43,32,112,40,88,41])),(.c (S [119,40,88,41,32,58,45,32,112,40,88,41,44,32,119,114,105,116,101,40,88,41])),(.c (S [99,40,88,41,32,58,45,32,99,97,116,99,104,40,112,40,88,41,44,32,95,44,32,116,114,117,101,41])),(.c (S [101,40,88,41,32,58,45,32,99,97,116,99,104,40,116,104,114,111,119,40,88,41,44,32,89,44,32,119,114,105,116,101,40,89,41,41])),(.c (S [110,40,88,41,32,58,45,32,88,32,105,115,32,51,32,47,47,32,48])),(.c (S [109,40,88,41,32,58,45,32,99,97,116,99,104,40,110,40,88,41,44,32,101,114,114,111,114,40,69,44,32,95,41,44,32,40,88,32,61,32,69,41,41])),(.c (S [97,100,100,40,88,41,32,58,45,32,97,115,115,101,114,116,122,40,112,40,88,41,41])),(.c (S [100,101,108,40,88,41,32,58,45,32,114,101,116,114,97,99,116,40,112,40,88,41,41])),(.c (S [108,111,111,112,32,58,45,32,108,111,111,112])),(.c (S [118,40,88,41,32,58,45,32,99,97,108,108,40,112,44,32,88,41])),(.c (S [100,40,88,44,32,89,41,32,58,45,32,88,32,61,32,89,32,59,32,89,32,61,32,98])),(.c (S [103,40,102,40,88,41,44,32,88,41])),(.c (S [103,40,104,40,88,41,44,32,88,41])),(.c (S [103,40,49,44,32,111,110,101,41])),(.c (S [107,40,88,41,32,58,45,32,117,110,107,110,111,119,110,40,88,41])),(.c (S [121,40,88,41,32,58,45,32,112,40,88,41,44,32,97,115,115,101,114,116,122,40,112,40,100,41,41,44,32,88,32,61,32,98]))],.mv 0 (.t 1)]) (.keep [0] .ret)))
def qcj:AC:=(.seq (.seq (.reg [.mv 6 (.t 5),.mv 7 (.t 0),.len 8 (.t 7),.bin 9 .lss (.t 6) (.t 8)]) (.keep [0,1,5,9] (.cond (.t 9) .skip (.keep [] (.exit 0))))) (.keep [0,1,5] (.seq (.block 1 (.seq (.reg [.mv 12 (.t 0),.mv 13 (.t 5),.ia 14 1 (.t 12) (.t 13),.ld 15 false 1 (.t 14),.mv 16 (.t 1),.bin 17 .eql (.t 15) (.t 16)]) (.keep [0,1,5,17] (.cond (.t 17) (.seq (.reg [.mv 18 (.t 5),.mv 4 (.t 18)]) (.keep [4] .ret)) .skip)))) (.keep [0,1,5] (.reg [.mv 10 (.t 5),.bin 11 .add (.t 10) (.c (I 1)),.mv 5 (.t 11)])))))
def Kl:Lp:=⟨[0,1,5],[(2,0)],qcj⟩
@[go_sem] theorem qvk:Kl.ls=[0,1,5]:=rfl
@[go_sem] theorem qvj:Kl.ks=[(2,0)]:=rfl
@[go_sem] theorem qvi:Kl.body=qcj:=rfl
def Xz:AF where
 nargs:=2
 ntmps:=19
 res:=[.tmp 4]
 body:=(.seq (.reg [.mv 4 (.c (I 0))]) (.seq (.seq (.reg [.mv 5 (.c (I 0))]) (.block 0 (lpC Kl))) (.keep [] (.seq (.reg [.mv 4 (.c (I (-1)))]) (.keep [4] .ret)))))
def qco:AC:=(.seq (.seq (.reg [.mv 21 (.t 5),.fa 22 (.t 2) 3,.ld 23 false 1 (.t 22),.len 24 (.t 23),.bin 25 .lss (.t 21) (.t 24)]) (.keep [1,2,5,25] (.cond (.t 25) .skip (.keep [1] (.exit 0))))) (.keep [1,2,5] (.seq (.block 1 (.reg [.fa 28 (.t 2) 3,.ld 29 false 1 (.t 28),.mv 30 (.t 5),.ia 31 4 (.t 29) (.t 30),.ld 32 true 4 (.t 31),.mv 33 (.t 1),.call (some 34) (.c (Fc qbU)) [(.t 32),(.t 33)] (.io false),.mv 1 (.t 34)])) (.keep [1,2,5] (.reg [.mv 26 (.t 5),.bin 27 .add (.t 26) (.c (I 1)),.mv 5 (.t 27)])))))
def Kq:Lp:=⟨[1,2,5],[(0,0)],qco⟩
@[go_sem] theorem qvz:Kq.ls=[1,2,5]:=rfl
@[go_sem] theorem qvy:Kq.ks=[(0,0)]:=rfl
@[go_sem] theorem qvx:Kq.body=qco:=rfl
def XG:AF where
 nargs:=2
 ntmps:=36
 res:=[.tmp 4]
 body:=(.seq (.reg [.new 2 (.t 0),.mv 4 (.c (.n 1))]) (.seq (.seq (.reg [.fa 6 (.t 2) 0,.ld 7 false 1 (.t 6),.bin 8 .eql (.t 7) (.c (I 1)),.mv 9 (.t 8),.gd 9 true (some 10) (.mv 10 (.t 1)),.gd 9 true (some 11) (.fa 11 (.t 2) 2),.gd 9 true (some 12) (.ld 12 false 1 (.t 11)),.gd 9 true (some 13) (.call (some 13) (.c (Fc qgO)) [(.t 10),(.t 12)] (.ro true)),.gd 9 true (some 14) (.un 14 .not (.t 13)),.pick 15 (.t 9) (.t 14) (.c (B false))]) (.keep [1,2,15] (.cond (.t 15) (.reg [.mv 16 (.t 1),.fa 17 (.t 2) 2,.ld 18 false 1 (.t 17),.mks 19 1 [(.t 18)],.app 20 1 8 (.t 16) (.t 19),.mv 1 (.t 20)]) .skip))) (.keep [1,2] (.seq (.seq (.reg [.mv 5 (.c (I 0))]) (.block 0 (lpC Kq))) (.keep [1] (.seq (.reg [.mv 35 (.t 1),.mv 4 (.t 35)]) (.keep [4] .ret)))))))
def qcr:AC:=(.seq (.seq (.reg [.mv 6 (.t 4),.mv 7 (.t 0),.len 8 (.t 7),.bin 9 .lss (.t 6) (.t 8)]) (.keep [0,3,4,9] (.cond (.t 9) .skip (.keep [3] (.exit 0))))) (.keep [0,3,4] (.seq (.block 1 (.reg [.mv 12 (.t 3),.mv 13 (.t 0),.mv 14 (.t 4),.ia 15 4 (.t 13) (.t 14),.ld 16 true 4 (.t 15),.call (some 17) (.c (Fc qbV)) [(.t 16)] (.ro false),.mks 18 4 [(.t 17)],.app 19 4 56 (.t 12) (.t 18),.mv 3 (.t 19)])) (.keep [0,3,4] (.reg [.mv 10 (.t 4),.bin 11 .add (.t 10) (.c (I 1)),.mv 4 (.t 11)])))))
def Kt:Lp:=⟨[0,3,4],[(1,0)],qcr⟩
@[go_sem] theorem qv6:Kt.ls=[0,3,4]:=rfl
@[go_sem] theorem qv5:Kt.ks=[(1,0)]:=rfl
@[go_sem] theorem qv4:Kt.body=qcr:=rfl
def XQ:AF where
 nargs:=1
 ntmps:=21
 res:=[.tmp 2]
 body:=(.seq (.reg [.mv 2 (.c (.n 4))]) (.seq (.reg [.mks 5 4 [],.mv 3 (.t 5)]) (.seq (.seq (.reg [.mv 4 (.c (I 0))]) (.block 0 (lpC Kt))) (.keep [3] (.seq (.reg [.mv 20 (.t 3),.mv 2 (.t 20)]) (.keep [2] .ret))))))
def qch:AC:=(.seq (.seq (.reg [.mv 10 (.t 0),.bin 11 .neq (.t 10) (.c (I 0))]) (.cond (.t 11) .skip (.keep [3,4] (.exit 0)))) (.keep [0,3,4] (.block 1 (.seq (.reg [.mv 12 (.t 0),.bin 13 .rem (.t 12) (.c (I 10)),.mv 5 (.t 13)]) (.seq (.seq (.reg [.mv 14 (.t 5),.bin 15 .lss (.t 14) (.c (I 0))]) (.cond (.t 15) (.reg [.mv 16 (.t 5),.un 17 .neg (.t 16),.mv 5 (.t 17)]) .skip)) (.keep [0,3,4,5] (.seq (.reg [.mv 18 (.t 5),.call (some 19) (.c (Fc qgM)) [(.t 18)] (.ro false),.mks 20 1 [(.t 19)],.str 21 (.t 20),.mv 22 (.t 4),.bin 23 .add (.t 21) (.t 22),.mv 4 (.t 23)]) (.keep [0,3,4] (.reg [.mv 24 (.t 0),.bin 25 .quo (.t 24) (.c (I 10)),.mv 0 (.t 25)])))))))))
def Kj:Lp:=⟨[0,3,4],[(1,0)],qch⟩
@[go_sem] theorem qu5:Kj.ls=[0,3,4]:=rfl
@[go_sem] theorem qu4:Kj.ks=[(1,0)]:=rfl
@[go_sem] theorem qu3:Kj.body=qch:=rfl
def Xr:AF where
 nargs:=1
 ntmps:=30
 res:=[.tmp 2]
 body:=(.seq (.reg [.mv 2 (.c (S []))]) (.seq (.seq (.reg [.mv 6 (.t 0),.bin 7 .eql (.t 6) (.c (I 0))]) (.cond (.t 7) (.seq (.reg [.mv 2 (.c (S [48]))]) (.keep [2] .ret)) .skip)) (.keep [0] (.seq (.reg [.mv 8 (.t 0),.bin 9 .lss (.t 8) (.c (I 0)),.mv 3 (.t 9)]) (.seq (.reg [.mv 4 (.c (S []))]) (.seq (.block 0 (lpC Kj)) (.keep [3,4] (.seq (.seq (.reg [.mv 26 (.t 3)]) (.cond (.t 26) (.seq (.reg [.mv 27 (.t 4),.bin 28 .add (.c (S [45])) (.t 27),.mv 2 (.t 28)]) (.keep [2] .ret)) .skip)) (.keep [4] (.seq (.reg [.mv 29 (.t 4),.mv 2 (.t 29)]) (.keep [2] .ret)))))))))))
def jI:AF where
 nargs:=1
 ntmps:=58
 res:=[.tmp 2]
 body:=(.seq (.reg [.mv 2 (.c (I 0))]) (.seq (.reg [.mv 4 (.t 0),.mv 5 (.t 0),.nilc 6 (.t 5),.fa 7 (.t 6) 2,.ld 8 false 1 (.t 7),.bin 9 .mul (.t 8) (.c (I 6364136223846793005)),.bin 10 .add (.t 9) (.c (I 1442695040888963407)),.nilc 11 (.t 4),.fa 12 (.t 11) 2,.st 1 (.t 12) (.t 10)]) (.keep [0] (.seq (.dreg [⟨0,[]⟩,⟨0,[]⟩,⟨0,[]⟩,⟨0,[(0,0),(0,1),(0,2),(0,3),(8,0),(53,0)]⟩,⟨0,[]⟩,⟨0,[]⟩,⟨0,[]⟩,⟨0,[]⟩,⟨0,[(0,0),(0,1),(0,2),(0,3),(8,0),(53,0)]⟩,⟨0,[]⟩,⟨0,[]⟩,⟨0,[]⟩,⟨0,[]⟩] [.mv 13 (.t 0),.nilc 14 (.t 13),.fa 15 (.t 14) 2,.ldq 16 false 1 (.t 15),.bin 17 .shr (.t 16) (.c (.v (.int .u64 33))),.mv 18 (.t 0),.nilc 19 (.t 18),.fa 20 (.t 19) 2,.ldq 21 false 1 (.t 20),.bin 22 .shr (.t 21) (.c (.v (.int .u64 45))),.bin 23 .xor (.t 17) (.t 22),.bin 24 .and (.t 23) (.c (I 255)),.mv 3 (.t 24)]) (.keep [0,3] (.seq (.seq (.dreg [⟨0,[]⟩,⟨0,[]⟩,⟨0,[]⟩,⟨0,[(0,0),(0,1),(0,2),(0,3),(8,0),(53,0)]⟩,⟨0,[]⟩,⟨0,[]⟩,⟨0,[]⟩,⟨0,[(0,0),(0,1),(0,2),(0,3),(8,0),(53,0)]⟩,⟨0,[(0,0),(0,1),(0,2),(0,3),(8,0),(32,0),(53,0)]⟩,⟨0,[]⟩] [.mv 25 (.t 0),.nilc 26 (.t 25),.fa 27 (.t 26) 1,.ldq 28 false 1 (.t 27),.mv 29 (.t 0),.nilc 30 (.t 29),.fa 31 (.t 30) 0,.ldq 32 false 1 (.t 31),.len 33 (.t 32),.bin 34 .lss (.t 28) (.t 33)]) (.keep [0,3,34] (.cond (.t 34) (.seq (.dreg [⟨0,[]⟩,⟨0,[]⟩,⟨0,[]⟩,⟨0,[]⟩,⟨0,[(0,0),(0,1),(0,2),(0,3),(8,0),(53,0)]⟩,⟨0,[]⟩,⟨0,[]⟩,⟨0,[]⟩,⟨0,[(0,0),(0,1),(0,2),(0,3),(8,0),(53,0)]⟩,⟨0,[(0,0),(0,1),(0,2),(0,3),(8,0),(39,0),(43,0),(53,0)]⟩,⟨0,[(0,0),(0,1),(0,2),(0,3),(8,0),(39,0),(43,0),(53,0)]⟩,⟨0,[]⟩,⟨0,[]⟩,⟨0,[]⟩,⟨0,[]⟩] [.mv 35 (.t 3),.mv 36 (.t 0),.nilc 37 (.t 36),.fa 38 (.t 37) 0,.ldq 39 false 1 (.t 38),.mv 40 (.t 0),.nilc 41 (.t 40),.fa 42 (.t 41) 1,.ldq 43 false 1 (.t 42),.ia 44 1 (.t 39) (.t 43),.ldq 45 false 1 (.t 44),.int 46 .i64 (.t 45),.bin 47 .add (.t 35) (.t 46),.bin 48 .and (.t 47) (.c (I 255)),.mv 3 (.t 48)]) (.keep [0,3] (.reg [.mv 49 (.t 0),.mv 50 (.t 0),.nilc 51 (.t 50),.fa 52 (.t 51) 1,.ld 53 false 1 (.t 52),.bin 54 .add (.t 53) (.c (I 1)),.nilc 55 (.t 49),.fa 56 (.t 55) 1,.st 1 (.t 56) (.t 54)]))) .skip))) (.keep [0,3] (.seq (.reg [.mv 57 (.t 3),.mv 2 (.t 57)]) (.keep [0,2] .ret)))))))))
def YQ:AF where
 nargs:=1
 ntmps:=5
 res:=[.tmp 2]
 body:=(.seq (.reg [.new 1 (.t 0),.mv 2 (.c (.n 1))]) (.seq (.reg [.ld 3 true 4 (.t 1),.call (some 4) (.c (Fc qbM)) [(.c (.n 1)),(.t 3)] (.io false),.mv 2 (.t 4)]) (.keep [2] .ret)))
def qb4:AC:=(.seq (.reg [.bin 22 .lss (.t 21) (.t 20)]) (.seq (.cond (.t 22) .skip (.keep [4,5] (.exit 0))) (.keep [1,4,5,19,20,21] (.seq (.block 1 (.seq (.reg [.ia 23 4 (.t 19) (.t 21),.ld 24 true 4 (.t 23),.new 7 (.c (.a [(I 0),(S []),(I 0),(.n 4)])),.st 4 (.t 7) (.t 24)]) (.keep [1,4,5,7,19,20,21] (.dreg [⟨0,[]⟩,⟨0,[(5,0),(100000,0),(100000,1),(100000,2),(100000,3),(100000,4),(100000,5)]⟩,⟨0,[(7,0)]⟩,⟨0,[]⟩,⟨2,[(0,0),(0,1),(0,2),(0,3),(1,0),(1,1),(1,2),(1,3),(19,0),(24,0),(27,0),(100000,0),(100000,1),(100000,2),(100000,3),(100000,4),(100000,5)]⟩,⟨1,[]⟩,⟨1,[(0,0),(0,1),(0,2),(0,3),(1,0),(1,1),(1,2),(1,3),(19,0),(24,0),(27,0),(29,0),(29,1),(29,2),(29,3),(30,0),(500000,0),(100000,0),(100000,1),(100000,2),(100000,3),(100000,4),(100000,5)]⟩,⟨0,[]⟩,⟨1,[(5,0),(100000,0),(100000,1),(100000,2),(100000,3),(100000,4),(100000,5)]⟩] [.fa 25 (.t 5) 3,.ldq 26 false 1 (.t 25),.ldq 27 true 4 (.t 7),.mv 28 (.t 1),.call (some 29) (.c (Fc JH)) [(.t 27),(.t 28)] (.ro false),.mks 30 4 [(.t 29)],.app 31 4 56 (.t 26) (.t 30),.fa 32 (.t 5) 3,.st 1 (.t 32) (.t 31)])))) (.keep [1,4,5,19,20,21] (.reg [.bin 33 .add (.t 21) (.c (I 1)),.mv 21 (.t 33)]))))))
def X6:Lp:=⟨[1,4,5,19,20,21],[(2,0)],qb4⟩
@[go_sem] theorem qul:X6.ls=[1,4,5,19,20,21]:=rfl
@[go_sem] theorem quk:X6.ks=[(2,0)]:=rfl
@[go_sem] theorem quj:X6.body=qb4:=rfl
def YY:AF where
 nargs:=2
 ntmps:=35
 res:=[.cell 4 true 4]
 body:=(.seq (.reg [.new 2 (.t 0),.new 4 (.c (.a [(I 0),(S []),(I 0),(.n 4)]))]) (.seq (.reg [.ld 8 true 4 (.t 2),.new 5 (.c (.a [(I 0),(S []),(I 0),(.n 4)])),.st 4 (.t 5) (.t 8)]) (.seq (.reg [.fa 9 (.t 5) 3,.st 1 (.t 9) (.c (.n 4))]) (.seq (.seq (.reg [.fa 10 (.t 2) 0,.ld 11 false 1 (.t 10),.bin 12 .eql (.t 11) (.c (I 1))]) (.cond (.t 12) (.reg [.mv 13 (.t 1),.fa 14 (.t 2) 2,.ld 15 false 1 (.t 14),.call (some 16) (.t 13) [(.t 15)] (.ro false),.fa 17 (.t 5) 2,.st 1 (.t 17) (.t 16)]) .skip)) (.keep [1,2,4,5] (.seq (.seq (.reg [.fa 18 (.t 2) 3,.ld 19 false 1 (.t 18),.len 20 (.t 19),.mv 21 (.c (I 0))]) (.keep [1,4,5,19,20,21] (.block 0 (lpC X6)))) (.keep [4,5] (.seq (.reg [.ld 34 true 4 (.t 5),.st 4 (.t 4) (.t 34)]) (.keep [4] .ret)))))))))
def YL:AF where
 nargs:=1
 ntmps:=8
 res:=[.tmp 2]
 body:=(.seq (.reg [.mv 2 (.c (B false))]) (.seq (.reg [.mks 4 1 [(.c (S [116,114,117,101,47,48])),(.c (S [102,97,105,108,47,48])),(.c (S [33,47,48])),(.c (S [44,47,50])),(.c (S [59,47,50])),(.c (S [45,62,47,50])),(.c (S [92,43,47,49])),(.c (S [99,97,108,108,47,49])),(.c (S [99,97,108,108,47,50])),(.c (S [99,97,108,108,47,51])),(.c (S [99,97,116,99,104,47,51])),(.c (S [116,104,114,111,119,47,49])),(.c (S [61,47,50])),(.c (S [92,61,47,50])),(.c (S [61,61,47,50])),(.c (S [105,115,47,50])),(.c (S [60,47,50])),(.c (S [61,58,61,47,50])),(.c (S [118,97,114,47,49])),(.c (S [97,116,111,109,47,49])),(.c (S [119,114,105,116,101,47,49])),(.c (S [97,115,115,101,114,116,122,47,49])),(.c (S [114,101,116,114,97,99,116,47,49])),(.c (S [58,45,47,50])),(.c (S [58,45,47,49])),(.c (S [45,45,62,47,50]))],.mv 3 (.t 4)]) (.seq (.reg [.mv 5 (.t 3),.mv 6 (.t 0),.call (some 7) (.c (Fc qgG)) [(.t 5),(.t 6)] (.ro false),.mv 2 (.t 7)]) (.keep [2] .ret))))
def YW:AF where
 nargs:=3
 ntmps:=10
 res:=[.tmp 4]
 body:=(.seq (.reg [.mv 4 (.c (I 0))]) (.seq (.dreg [⟨0,[(1,0),(1,1),(1,2),(1,3)]⟩,⟨0,[(2,0),(2,1),(2,2),(2,3)]⟩,⟨0,[]⟩,⟨2,[(0,0),(0,1),(0,2),(0,3),(2,0),(2,1),(2,2),(2,3),(6,0)]⟩,⟨0,[]⟩,⟨0,[]⟩] [.ldq 5 false 1 (.t 1),.ldq 6 false 1 (.t 2),.mv 7 (.t 0),.call (some 8) (.c (Fc qbQ)) [(.t 6),(.t 7)] (.ro false),.bin 9 .add (.t 5) (.t 8),.mv 4 (.t 9)]) (.keep [4] .ret)))
def qcf:AC:=(.seq (.reg [.bin 9 .lss (.t 8) (.t 7)]) (.seq (.cond (.t 9) .skip (.keep [] (.exit 0))) (.keep [0,1,7,8] (.seq (.block 1 (.seq (.reg [.mv 10 (.t 8),.mv 5 (.t 10)]) (.seq (.reg [.mv 11 (.t 1),.mv 12 (.t 0),.mv 13 (.t 5),.ia 14 1 (.t 12) (.t 13),.ld 15 false 1 (.t 14),.bin 16 .eql (.t 11) (.t 15)]) (.keep [0,1,5,7,8,16] (.cond (.t 16) (.seq (.reg [.mv 17 (.t 5),.mv 4 (.t 17)]) (.keep [4] .ret)) .skip))))) (.keep [0,1,7,8] (.reg [.bin 18 .add (.t 8) (.c (I 1)),.mv 8 (.t 18)]))))))
def Kh:Lp:=⟨[0,1,7,8],[(2,0)],qcf⟩
@[go_sem] theorem quZ:Kh.ls=[0,1,7,8]:=rfl
@[go_sem] theorem quY:Kh.ks=[(2,0)]:=rfl
@[go_sem] theorem quX:Kh.body=qcf:=rfl
def Xn:AF where
 nargs:=2
 ntmps:=19
 res:=[.tmp 4]
 body:=(.seq (.reg [.mv 4 (.c (I 0))]) (.seq (.seq (.reg [.mv 6 (.t 0),.len 7 (.t 6),.mv 8 (.c (I 0))]) (.block 0 (lpC Kh))) (.keep [] (.seq (.reg [.mv 4 (.c (I (-1)))]) (.keep [4] .ret)))))
def Z0:AC:=(.seq (.seq (.reg [.mv 20 (.t 5),.len 21 (.t 20),.mv 22 (.t 4),.bin 23 .lss (.t 21) (.t 22)]) (.keep [3,4,5,23] (.cond (.t 23) .skip (.keep [5] (.exit 0))))) (.keep [3,4,5] (.block 1 (.reg [.mv 24 (.t 5),.mv 25 (.t 3),.call (some 26) (.c (Fc XZ)) [(.t 25)] (.io false),.mks 27 3 [(.t 26)],.app 28 3 40 (.t 24) (.t 27),.mv 5 (.t 28)]))))
def ji:Lp:=⟨[3,4,5],[(1,0)],Z0⟩
@[go_sem] theorem qvO:ji.ls=[3,4,5]:=rfl
@[go_sem] theorem qvN:ji.ks=[(1,0)]:=rfl
@[go_sem] theorem qvM:ji.body=Z0:=rfl
def jK:AF where
 nargs:=1
 ntmps:=30
 res:=[.tmp 2]
 body:=(.seq (.reg [.mv 2 (.c (.n 3))]) (.seq (.reg [.mv 6 (.t 0),.call (some 7) (.c (Fc XV)) [(.t 6)] (.ro false),.mv 3 (.t 7)]) (.seq (.reg [.mv 8 (.t 0),.len 9 (.t 8),.bin 10 .quo (.t 9) (.c (I 10)),.bin 11 .add (.c (I 3)) (.t 10),.mv 4 (.t 11)]) (.keep [3,4] (.seq (.seq (.reg [.mv 12 (.t 4),.bin 13 .gtr (.t 12) (.c (I 9))]) (.cond (.t 13) (.reg [.mv 4 (.c (I 9))]) .skip)) (.keep [3,4] (.seq (.reg [.mv 14 (.t 3),.call (some 15) (.c (Fc XY)) [(.t 14)] (.io false),.bin 16 .add (.t 15) (.c (S [112,40,97,41,46,10,112,40,98,41,46,10])),.build 17 (.a [(I 0),(S []),(S [])]) [(0,1,(.c (I 3))),(1,1,(.c (S [111,110,101]))),(2,1,(.t 16))],.build 18 (.a [(I 0),(S []),(S [])]) [(0,1,(.c (I 1))),(1,1,(.c (S [111,110,101])))],.mks 19 3 [(.t 17),(.t 18)],.mv 5 (.t 19)]) (.keep [3,4,5] (.seq (.block 0 (lpC ji)) (.keep [5] (.seq (.reg [.mv 29 (.t 5),.mv 2 (.t 29)]) (.keep [2] .ret))))))))))))
def Kv:AC:=(.seq (.seq (.reg [.mv 9 (.t 6),.mv 10 (.t 0),.bin 11 .lss (.t 9) (.t 10)]) (.cond (.t 11) .skip (.keep [5] (.exit 0)))) (.keep [0,1,5,6] (.seq (.block 1 (.reg [.mv 14 (.t 5),.mv 15 (.t 6),.mv 16 (.t 1),.ia 17 1 (.t 14) (.t 15),.st 1 (.t 17) (.t 16)])) (.keep [0,1,5,6] (.reg [.mv 12 (.t 6),.bin 13 .add (.t 12) (.c (I 1)),.mv 6 (.t 13)])))))
def ZQ:Lp:=⟨[0,1,5,6],[(2,0)],Kv⟩
@[go_sem] theorem qve:ZQ.ls=[0,1,5,6]:=rfl
@[go_sem] theorem qvd:ZQ.ks=[(2,0)]:=rfl
@[go_sem] theorem qvc:ZQ.body=Kv:=rfl
def Qu:AF where
 nargs:=2
 ntmps:=20
 res:=[.tmp 4]
 body:=(.seq (.reg [.mv 4 (.c (S []))]) (.seq (.reg [.mv 7 (.t 0),.mk 8 1 (U8 0) 1 (.t 7) (.t 7),.mv 5 (.t 8)]) (.seq (.seq (.reg [.mv 6 (.c (I 0))]) (.block 0 (lpC ZQ))) (.keep [5] (.seq (.reg [.mv 18 (.t 5),.str 19 (.t 18),.mv 4 (.t 19)]) (.keep [4] .ret))))))
def jG:AF where
 nargs:=2
 ntmps:=15
 res:=[.tmp 4,.tmp 5]
 body:=(.seq (.reg [.mv 4 (.c (S [])),.mv 5 (.c (B false))]) (.seq (.seq (.reg [.mv 6 (.t 0),.mv 7 (.t 1),.call (some 8) (.c (Fc JL)) [(.t 6),(.t 7)] (.ro true),.un 9 .not (.t 8)]) (.keep [0,1,9] (.cond (.t 9) (.seq (.reg [.mv 10 (.t 0),.mv 4 (.t 10),.mv 5 (.c (B false))]) (.keep [4,5] .ret)) .skip))) (.keep [0,1] (.seq (.reg [.mv 11 (.t 0),.mv 12 (.t 1),.slen 13 (.t 12),.ssl 14 (.t 11) (some (.t 13)) none,.mv 4 (.t 14),.mv 5 (.c (B true))]) (.keep [4,5] .ret)))))
def jF:AF where
 nargs:=1
 ntmps:=13
 res:=[.tmp 2]
 body:=(.seq (.reg [.mv 2 (.c (B false))]) (.seq (.reg [.mv 3 (.t 0),.slen 4 (.t 3),.call (some 5) (.c (Fc je)) [(.t 4),(.c (I 1)),(.c (I 8))] (.ro false),.mv 6 (.t 5),.gd 6 true (some 7) (.mv 7 (.t 0)),.gd 6 true (some 8) (.call (some 8) (.c (Fc JJ)) [(.t 7),(.c (I 0)),(.c (Fc ZL))] (.ro false)),.gd 6 true (some 9) (.mv 9 (.t 0)),.gd 6 true (some 10) (.slen 10 (.t 9)),.gd 6 true (some 11) (.bin 11 .eql (.t 8) (.t 10)),.pick 12 (.t 6) (.t 11) (.c (B false)),.mv 2 (.t 12)]) (.keep [2] .ret)))
def jd:AF where
 nargs:=2
 ntmps:=25
 res:=[.tmp 4,.tmp 5]
 body:=(.seq (.reg [.mv 4 (.c (S [])),.mv 5 (.c (B false))]) (.seq (.reg [.mv 7 (.t 1),.slen 8 (.t 7),.bin 9 .add (.t 8) (.c (I 1)),.mv 6 (.t 9)]) (.keep [0,1,6] (.seq (.seq (.reg [.mv 10 (.t 0),.slen 11 (.t 10),.mv 12 (.t 6),.bin 13 .lss (.t 11) (.t 12),.mv 14 (.t 13),.gd 14 false (some 15) (.mv 15 (.t 0)),.gd 14 false (some 16) (.mv 16 (.t 6)),.gd 14 false (some 17) (.ssl 17 (.t 15) none (some (.t 16))),.gd 14 false (some 18) (.mv 18 (.t 1)),.gd 14 false (some 19) (.bin 19 .add (.t 18) (.c (S [32]))),.gd 14 false (some 20) (.bin 20 .neq (.t 17) (.t 19)),.pick 21 (.t 14) (.c (B true)) (.t 20)]) (.keep [0,6,21] (.cond (.t 21) (.seq (.reg [.mv 4 (.c (S [])),.mv 5 (.c (B false))]) (.keep [4,5] .ret)) .skip))) (.keep [0,6] (.seq (.reg [.mv 22 (.t 0),.mv 23 (.t 6),.ssl 24 (.t 22) (some (.t 23)) none,.mv 4 (.t 24),.mv 5 (.c (B true))]) (.keep [4,5] .ret)))))))
def Z2:AC:=(.seq (.seq (.reg [.mv 9 (.t 7),.mv 10 (.t 0),.len 11 (.t 10),.bin 12 .lss (.t 9) (.t 11)]) (.keep [0,6,7,12] (.cond (.t 12) .skip (.keep [] (.exit 0))))) (.keep [0,6,7] (.seq (.block 1 (.seq (.seq (.reg [.mv 15 (.t 0),.mv 16 (.t 7),.ia 17 1 (.t 15) (.t 16),.ld 18 false 1 (.t 17),.bin 19 .eql (.t 18) (.c (S [101,110,100]))]) (.keep [0,6,7,19] (.cond (.t 19) (.seq (.reg [.mv 20 (.t 6),.mv 21 (.t 7),.bin 22 .add (.t 21) (.c (I 1)),.mv 4 (.t 20),.mv 5 (.t 22)]) (.keep [4,5] .ret)) .skip))) (.keep [0,6,7] (.reg [.mv 23 (.t 6),.mv 24 (.t 0),.mv 25 (.t 7),.ia 26 1 (.t 24) (.t 25),.ld 27 false 1 (.t 26),.bin 28 .add (.t 23) (.t 27),.bin 29 .add (.t 28) (.c (S [10])),.mv 6 (.t 29)])))) (.keep [0,6,7] (.reg [.mv 13 (.t 7),.bin 14 .add (.t 13) (.c (I 1)),.mv 7 (.t 14)])))))
def jj:Lp:=⟨[0,6,7],[(2,0)],Z2⟩
@[go_sem] theorem qvU:jj.ls=[0,6,7]:=rfl
@[go_sem] theorem qvT:jj.ks=[(2,0)]:=rfl
@[go_sem] theorem qvS:jj.body=Z2:=rfl
def jM:AF where
 nargs:=2
 ntmps:=30
 res:=[.tmp 4,.tmp 5]
 body:=(.seq (.reg [.mv 4 (.c (S [])),.mv 5 (.c (I 0))]) (.seq (.reg [.mv 6 (.c (S []))]) (.seq (.seq (.reg [.mv 8 (.t 1),.mv 7 (.t 8)]) (.block 0 (lpC jj))) (.keep [] (.seq (.reg [.mv 4 (.c (S [])),.mv 5 (.c (I (-1)))]) (.keep [4,5] .ret))))))
def ZZ:AC:=(.seq (.seq (.reg [.mv 4 (.t 3),.mv 5 (.t 0),.slen 6 (.t 5),.bin 7 .lss (.t 4) (.t 6)]) (.keep [0,3,7] (.cond (.t 7) .skip (.keep [0] (.exit 0))))) (.keep [0,3] (.seq (.block 1 (.seq (.reg [.mv 10 (.t 0),.mv 11 (.t 3),.ix 12 (.t 10) (.t 11),.call (some 13) (.c (Fc XW)) [(.t 12)] (.ro true),.un 14 .not (.t 13)]) (.keep [0,3,14] (.cond (.t 14) (.seq (.reg [.mv 2 (.c (B false))]) (.keep [2] .ret)) .skip)))) (.keep [0,3] (.reg [.mv 8 (.t 3),.bin 9 .add (.t 8) (.c (I 1)),.mv 3 (.t 9)])))))
def ZS:Lp:=⟨[0,3],[(1,0)],ZZ⟩
@[go_sem] theorem qvI:ZS.ls=[0,3]:=rfl
@[go_sem] theorem qvH:ZS.ks=[(1,0)]:=rfl
@[go_sem] theorem qvG:ZS.body=ZZ:=rfl
def jJ:AF where
 nargs:=1
 ntmps:=18
 res:=[.tmp 2]
 body:=(.seq (.reg [.mv 2 (.c (B false))]) (.seq (.seq (.reg [.mv 3 (.c (I 0))]) (.block 0 (lpC ZS))) (.keep [0] (.seq (.reg [.mv 15 (.t 0),.slen 16 (.t 15),.call (some 17) (.c (Fc jP)) [(.t 16),(.c (I 1)),(.c (I 8))] (.ro false),.mv 2 (.t 17)]) (.keep [2] .ret)))))
def Xd:AF where
 nargs:=2
 ntmps:=19
 res:=[.tmp 4]
 body:=(.seq (.reg [.new 2 (.t 0),.mv 4 (.c (I 0))]) (.seq (.reg [.mv 5 (.t 1),.fa 6 (.t 2) 1,.ld 7 false 1 (.t 6),.slen 8 (.t 7),.bin 9 .sub (.t 5) (.t 8),.mv 1 (.t 9)]) (.keep [1,2] (.seq (.seq (.reg [.mv 10 (.t 1),.bin 11 .lss (.t 10) (.c (I 0))]) (.cond (.t 11) (.seq (.reg [.mv 4 (.c (I (-1)))]) (.keep [4] .ret)) .skip)) (.keep [1,2] (.seq (.reg [.fa 12 (.t 2) 3,.ld 13 false 1 (.t 12),.mv 14 (.t 1),.call (some 15) (.c (Fc qgA)) [(.t 13),(.t 14)] (.ro false),.mv 1 (.t 15)]) (.keep [1] (.seq (.seq (.reg [.mv 16 (.t 1),.bin 17 .lss (.t 16) (.c (I 0))]) (.cond (.t 17) (.seq (.reg [.mv 4 (.c (I (-1)))]) (.keep [4] .ret)) .skip)) (.keep [1] (.seq (.reg [.mv 18 (.t 1),.mv 4 (.t 18)]) (.keep [4] .ret)))))))))))
def Xj:AF where
 nargs:=1
 ntmps:=18
 res:=[.cell 2 true 4]
 body:=(.seq (.reg [.new 1 (.t 0),.new 2 (.c (.a [(I 0),(S []),(I 0),(.n 4)]))]) (.seq (.reg [.new 3 (.c (.a [(I 0),(S []),(I 0),(.n 4)]))]) (.seq (.reg [.fa 4 (.t 1) 0,.ld 5 false 1 (.t 4),.fa 6 (.t 3) 0,.st 1 (.t 6) (.t 5)]) (.keep [1,2,3] (.seq (.reg [.fa 7 (.t 1) 1,.ld 8 false 1 (.t 7),.fa 9 (.t 3) 1,.st 1 (.t 9) (.t 8)]) (.keep [1,2,3] (.seq (.reg [.fa 10 (.t 1) 2,.ld 11 false 1 (.t 10),.fa 12 (.t 3) 2,.st 1 (.t 12) (.t 11)]) (.keep [1,2,3] (.seq (.reg [.fa 13 (.t 1) 3,.ld 14 false 1 (.t 13),.call (some 15) (.c (Fc qgE)) [(.t 14)] (.ro false),.fa 16 (.t 3) 3,.st 1 (.t 16) (.t 15)]) (.keep [2,3] (.seq (.reg [.ld 17 true 4 (.t 3),.st 4 (.t 2) (.t 17)]) (.keep [2] .ret))))))))))))
def Y7:AF where
 nargs:=2
 ntmps:=26
 res:=[.tmp 4]
 body:=(.seq (.reg [.new 2 (.t 0),.new 3 (.t 1),.mv 4 (.c (B false))]) (.seq (.seq (.reg [.fa 5 (.t 2) 0,.ld 6 false 1 (.t 5),.fa 7 (.t 3) 0,.ld 8 false 1 (.t 7),.bin 9 .neq (.t 6) (.t 8)]) (.keep [2,3,9] (.cond (.t 9) (.seq (.reg [.mv 4 (.c (B false))]) (.keep [4] .ret)) .skip))) (.keep [2,3] (.seq (.seq (.reg [.fa 10 (.t 2) 1,.ld 11 false 1 (.t 10),.fa 12 (.t 3) 1,.ld 13 false 1 (.t 12),.bin 14 .neq (.t 11) (.t 13)]) (.keep [2,3,14] (.cond (.t 14) (.seq (.reg [.mv 4 (.c (B false))]) (.keep [4] .ret)) .skip))) (.keep [2,3] (.seq (.seq (.reg [.fa 15 (.t 2) 2,.ld 16 false 1 (.t 15),.fa 17 (.t 3) 2,.ld 18 false 1 (.t 17),.bin 19 .neq (.t 16) (.t 18)]) (.keep [2,3,19] (.cond (.t 19) (.seq (.reg [.mv 4 (.c (B false))]) (.keep [4] .ret)) .skip))) (.keep [2,3] (.seq (.seq (.reg [.fa 20 (.t 2) 3,.ld 21 false 1 (.t 20),.fa 22 (.t 3) 3,.ld 23 false 1 (.t 22),.call (some 24) (.c (Fc qgw)) [(.t 21),(.t 23)] (.ro true),.un 25 .not (.t 24)]) (.keep [25] (.cond (.t 25) (.seq (.reg [.mv 4 (.c (B false))]) (.keep [4] .ret)) .skip))) (.keep [] (.seq (.reg [.mv 4 (.c (B true))]) (.keep [4] .ret)))))))))))
def Qw:AF where
 nargs:=2
 ntmps:=12
 res:=[.tmp 4]
 body:=(.seq (.reg [.mv 4 (.c (S []))]) (.seq (.reg [.mv 5 (.t 1),.mv 6 (.t 0),.mv 7 (.t 1),.len 8 (.t 7),.call (some 9) (.c (Fc kG)) [(.t 6),(.t 8)] (.io false),.ia 10 1 (.t 5) (.t 9),.ld 11 false 1 (.t 10),.mv 4 (.t 11)]) (.keep [0,4] .ret)))
def qb3:AC:=(.seq (.seq (.reg [.mv 4 (.t 3),.mv 5 (.t 0),.slen 6 (.t 5),.bin 7 .lss (.t 4) (.t 6)]) (.keep [0,3,7] (.cond (.t 7) .skip (.keep [0] (.exit 0))))) (.keep [0,3] (.seq (.block 1 (.seq (.reg [.mv 10 (.t 0),.mv 11 (.t 3),.ix 12 (.t 10) (.t 11),.int 13 .i64 (.t 12),.call (some 14) (.c (Fc je)) [(.t 13),(.c (I 33)),(.c (I 126))] (.ro true),.un 15 .not (.t 14),.mv 16 (.t 15),.gd 16 false (some 17) (.mv 17 (.t 0)),.gd 16 false (some 18) (.mv 18 (.t 3)),.gd 16 false (some 19) (.ix 19 (.t 17) (.t 18)),.gd 16 false (some 20) (.bin 20 .eql (.t 19) (.c (U8 39))),.pick 21 (.t 16) (.c (B true)) (.t 20),.mv 22 (.t 21),.gd 22 false (some 23) (.mv 23 (.t 0)),.gd 22 false (some 24) (.mv 24 (.t 3)),.gd 22 false (some 25) (.ix 25 (.t 23) (.t 24)),.gd 22 false (some 26) (.bin 26 .eql (.t 25) (.c (U8 34))),.pick 27 (.t 22) (.c (B true)) (.t 26)]) (.keep [0,3,27] (.cond (.t 27) (.seq (.reg [.mv 2 (.c (B false))]) (.keep [2] .ret)) .skip)))) (.keep [0,3] (.reg [.mv 8 (.t 3),.bin 9 .add (.t 8) (.c (I 1)),.mv 3 (.t 9)])))))
def X5:Lp:=⟨[0,3],[(1,0)],qb3⟩
@[go_sem] theorem qui:X5.ls=[0,3]:=rfl
@[go_sem] theorem quh:X5.ks=[(1,0)]:=rfl
@[go_sem] theorem qug:X5.body=qb3:=rfl
def YX:AF where
 nargs:=1
 ntmps:=31
 res:=[.tmp 2]
 body:=(.seq (.reg [.mv 2 (.c (B false))]) (.seq (.seq (.reg [.mv 3 (.c (I 0))]) (.block 0 (lpC X5))) (.keep [0] (.seq (.reg [.mv 28 (.t 0),.slen 29 (.t 28),.call (some 30) (.c (Fc je)) [(.t 29),(.c (I 1)),(.c (I 20))] (.ro false),.mv 2 (.t 30)]) (.keep [2] .ret)))))
def XD:AF where
 nargs:=1
 ntmps:=69
 res:=[.tmp 2]
 body:=(.seq (.reg [.new 1 (.t 0),.mv 2 (.c (B false))]) (.seq (.seq (.reg [.fa 3 (.t 1) 0,.ld 4 false 1 (.t 3)]) (.block 0 (.seq (.reg [.bin 6 .eql (.t 4) (.c (I 1)),.mv 5 (.t 6)]) (.cond (.t 5) (.seq (.reg [.fa 7 (.t 1) 2,.ld 8 false 1 (.t 7),.call (some 9) (.c (Fc jP)) [(.t 8),(.c (I 0)),(.c (I 99999))] (.ro false),.mv 10 (.t 9),.gd 10 true (some 11) (.fa 11 (.t 1) 1),.gd 10 true (some 12) (.ld 12 false 1 (.t 11)),.gd 10 true (some 13) (.bin 13 .eql (.t 12) (.c (S []))),.pick 14 (.t 10) (.t 13) (.c (B false)),.mv 15 (.t 14),.gd 15 true (some 16) (.fa 16 (.t 1) 3),.gd 15 true (some 17) (.ld 17 false 1 (.t 16)),.gd 15 true (some 18) (.len 18 (.t 17)),.gd 15 true (some 19) (.bin 19 .eql (.t 18) (.c (I 0))),.pick 20 (.t 15) (.t 19) (.c (B false)),.mv 2 (.t 20)]) (.keep [2] .ret)) (.seq (.reg [.bin 22 .eql (.t 4) (.c (I 2)),.mv 21 (.t 22)]) (.cond (.t 21) (.seq (.reg [.fa 23 (.t 1) 1,.ld 24 false 1 (.t 23),.call (some 25) (.c (Fc qbS)) [(.t 24)] (.ro false),.mv 26 (.t 25),.gd 26 true (some 27) (.fa 27 (.t 1) 2),.gd 26 true (some 28) (.ld 28 false 1 (.t 27)),.gd 26 true (some 29) (.bin 29 .eql (.t 28) (.c (I 0))),.pick 30 (.t 26) (.t 29) (.c (B false)),.mv 31 (.t 30),.gd 31 true (some 32) (.fa 32 (.t 1) 3),.gd 31 true (some 33) (.ld 33 false 1 (.t 32)),.gd 31 true (some 34) (.len 34 (.t 33)),.gd 31 true (some 35) (.bin 35 .eql (.t 34) (.c (I 0))),.pick 36 (.t 31) (.t 35) (.c (B false)),.mv 2 (.t 36)]) (.keep [2] .ret)) (.seq (.reg [.bin 38 .eql (.t 4) (.c (I 3)),.mv 37 (.t 38)]) (.cond (.t 37) (.seq (.reg [.fa 39 (.t 1) 2,.ld 40 false 1 (.t 39),.call (some 41) (.c (Fc jP)) [(.t 40),(.c (I (-999999999))),(.c (I 999999999))] (.ro false),.mv 42 (.t 41),.gd 42 true (some 43) (.fa 43 (.t 1) 1),.gd 42 true (some 44) (.ld 44 false 1 (.t 43)),.gd 42 true (some 45) (.bin 45 .eql (.t 44) (.c (S []))),.pick 46 (.t 42) (.t 45) (.c (B false)),.mv 47 (.t 46),.gd 47 true (some 48) (.fa 48 (.t 1) 3),.gd 47 true (some 49) (.ld 49 false 1 (.t 48)),.gd 47 true (some 50) (.len 50 (.t 49)),.gd 47 true (some 51) (.bin 51 .eql (.t 50) (.c (I 0))),.pick 52 (.t 47) (.t 51) (.c (B false)),.mv 2 (.t 52)]) (.keep [2] .ret)) (.seq (.reg [.bin 54 .eql (.t 4) (.c (I 4)),.mv 53 (.t 54)]) (.cond (.t 53) (.seq (.reg [.fa 55 (.t 1) 1,.ld 56 false 1 (.t 55),.call (some 57) (.c (Fc qbS)) [(.t 56)] (.ro false),.mv 58 (.t 57),.gd 58 true (some 59) (.fa 59 (.t 1) 2),.gd 58 true (some 60) (.ld 60 false 1 (.t 59)),.gd 58 true (some 61) (.bin 61 .eql (.t 60) (.c (I 0))),.pick 62 (.t 58) (.t 61) (.c (B false)),.mv 63 (.t 62),.gd 63 true (some 64) (.fa 64 (.t 1) 3),.gd 63 true (some 65) (.ld 65 false 1 (.t 64)),.gd 63 true (some 66) (.len 66 (.t 65)),.gd 63 true (some 67) (.call (some 67) (.c (Fc jP)) [(.t 66),(.c (I 1)),(.c (I 5))] (.ro false)),.pick 68 (.t 63) (.t 67) (.c (B false)),.mv 2 (.t 68)]) (.keep [2] .ret)) .skip)))))))))) (.keep [] (.seq (.reg [.mv 2 (.c (B false))]) (.keep [2] .ret)))))
def YT:AF where
 nargs:=1
 ntmps:=4
 res:=[.tmp 2]
 body:=(.seq (.reg [.mv 2 (.c (I 0))]) (.seq (.reg [.mv 3 (.t 0),.mv 2 (.t 3)]) (.keep [2] .ret)))
def jb:AF where
 nargs:=1
 ntmps:=9
 res:=[.tmp 2]
 body:=(.seq (.reg [.mv 2 (.c (B false))]) (.seq (.reg [.mv 3 (.t 0),.bin 4 .geq (.t 3) (.c (U8 97)),.mv 5 (.t 4),.gd 5 true (some 6) (.mv 6 (.t 0)),.gd 5 true (some 7) (.bin 7 .leq (.t 6) (.c (U8 122))),.pick 8 (.t 5) (.t 7) (.c (B false)),.mv 2 (.t 8)]) (.keep [2] .ret)))
def XK:AF where
 nargs:=1
 ntmps:=13
 res:=[.tmp 2]
 body:=(.seq (.reg [.mv 2 (.c (B false))]) (.seq (.reg [.mv 3 (.t 0),.bin 4 .geq (.t 3) (.c (U8 65)),.mv 5 (.t 4),.gd 5 true (some 6) (.mv 6 (.t 0)),.gd 5 true (some 7) (.bin 7 .leq (.t 6) (.c (U8 90))),.pick 8 (.t 5) (.t 7) (.c (B false)),.mv 9 (.t 8),.gd 9 false (some 10) (.mv 10 (.t 0)),.gd 9 false (some 11) (.bin 11 .eql (.t 10) (.c (U8 95))),.pick 12 (.t 9) (.c (B true)) (.t 11),.mv 2 (.t 12)]) (.keep [2] .ret)))
def qcp:AC:=(.seq (.seq (.reg [.mv 5 (.t 1),.mv 6 (.t 0),.slen 7 (.t 6),.bin 8 .lss (.t 5) (.t 7),.mv 9 (.t 8),.gd 9 true (some 10) (.mv 10 (.t 0)),.gd 9 true (some 11) (.mv 11 (.t 1)),.gd 9 true (some 12) (.ix 12 (.t 10) (.t 11)),.gd 9 true (some 13) (.call (some 13) (.c (Fc qgU)) [(.t 12)] (.ro true)),.pick 14 (.t 9) (.t 13) (.c (B false))]) (.keep [0,1,14] (.cond (.t 14) .skip (.keep [1] (.exit 0))))) (.keep [0,1] (.block 1 (.reg [.mv 15 (.t 1),.bin 16 .add (.t 15) (.c (I 1)),.mv 1 (.t 16)]))))
def Kr:Lp:=⟨[0,1],[(2,0)],qcp⟩
@[go_sem] theorem qvC:Kr.ls=[0,1]:=rfl
@[go_sem] theorem qvB:Kr.ks=[(2,0)]:=rfl
@[go_sem] theorem qvA:Kr.body=qcp:=rfl
def XL:AF where
 nargs:=2
 ntmps:=18
 res:=[.tmp 4]
 body:=(.seq (.reg [.mv 4 (.c (I 0))]) (.seq (.block 0 (lpC Kr)) (.keep [1] (.seq (.reg [.mv 17 (.t 1),.mv 4 (.t 17)]) (.keep [4] .ret)))))
def XJ:AF where
 nargs:=1
 ntmps:=9
 res:=[.tmp 2]
 body:=(.seq (.reg [.mv 2 (.c (B false))]) (.seq (.reg [.mv 3 (.t 0),.bin 4 .geq (.t 3) (.c (U8 48)),.mv 5 (.t 4),.gd 5 true (some 6) (.mv 6 (.t 0)),.gd 5 true (some 7) (.bin 7 .leq (.t 6) (.c (U8 57))),.pick 8 (.t 5) (.t 7) (.c (B false)),.mv 2 (.t 8)]) (.keep [2] .ret)))
def XI:AF where
 nargs:=2
 ntmps:=42
 res:=[.tmp 4]
 body:=(.seq (.reg [.mv 4 (.c (B false))]) (.seq (.reg [.mv 5 (.t 0),.mv 6 (.t 1),.ix 7 (.t 5) (.t 6),.bin 8 .eql (.t 7) (.c (U8 46)),.mv 9 (.t 8),.gd 9 true (some 10) (.mv 10 (.t 1)),.gd 9 true (some 11) (.bin 11 .eql (.t 10) (.c (I 0))),.gd 9 true (some 12) (.mv 12 (.t 11)),.gd 12 false (some 13) (.mv 13 (.t 0)),.gd 12 false (some 14) (.mv 14 (.t 1)),.gd 12 false (some 15) (.bin 15 .sub (.t 14) (.c (I 1))),.gd 12 false (some 16) (.ix 16 (.t 13) (.t 15)),.gd 12 false (some 17) (.call (some 17) (.c (Fc qgK)) [(.t 16)] (.ro false)),.gd 12 false (some 18) (.un 18 .not (.t 17)),.gd 9 true (some 19) (.pick 19 (.t 12) (.c (B true)) (.t 18)),.pick 20 (.t 9) (.t 19) (.c (B false)),.mv 21 (.t 20),.gd 21 true (some 22) (.mv 22 (.t 1)),.gd 21 true (some 23) (.bin 23 .add (.t 22) (.c (I 1))),.gd 21 true (some 24) (.mv 24 (.t 0)),.gd 21 true (some 25) (.slen 25 (.t 24)),.gd 21 true (some 26) (.bin 26 .eql (.t 23) (.t 25)),.gd 21 true (some 27) (.mv 27 (.t 26)),.gd 27 false (some 28) (.mv 28 (.t 0)),.gd 27 false (some 29) (.mv 29 (.t 1)),.gd 27 false (some 30) (.bin 30 .add (.t 29) (.c (I 1))),.gd 27 false (some 31) (.ix 31 (.t 28) (.t 30)),.gd 27 false (some 32) (.call (some 32) (.c (Fc qgR)) [(.t 31)] (.ro false)),.gd 21 true (some 33) (.pick 33 (.t 27) (.c (B true)) (.t 32)),.gd 21 true (some 34) (.mv 34 (.t 33)),.gd 34 false (some 35) (.mv 35 (.t 0)),.gd 34 false (some 36) (.mv 36 (.t 1)),.gd 34 false (some 37) (.bin 37 .add (.t 36) (.c (I 1))),.gd 34 false (some 38) (.ix 38 (.t 35) (.t 37)),.gd 34 false (some 39) (.bin 39 .eql (.t 38) (.c (U8 37))),.gd 21 true (some 40) (.pick 40 (.t 34) (.c (B true)) (.t 39)),.pick 41 (.t 21) (.t 40) (.c (B false)),.mv 4 (.t 41)]) (.keep [4] .ret)))
def qci:AC:=(.seq (.seq (.reg [.mv 5 (.t 4),.mv 6 (.t 3),.slen 7 (.t 6),.bin 8 .lss (.t 5) (.t 7)]) (.keep [0,3,4,8] (.cond (.t 8) .skip (.keep [] (.exit 0))))) (.keep [0,3,4] (.seq (.block 1 (.seq (.reg [.mv 11 (.t 3),.mv 12 (.t 4),.ix 13 (.t 11) (.t 12),.mv 14 (.t 0),.bin 15 .eql (.t 13) (.t 14)]) (.keep [0,3,4,15] (.cond (.t 15) (.seq (.reg [.mv 2 (.c (B true))]) (.keep [2] .ret)) .skip)))) (.keep [0,3,4] (.reg [.mv 9 (.t 4),.bin 10 .add (.t 9) (.c (I 1)),.mv 4 (.t 10)])))))
def Kk:Lp:=⟨[0,3,4],[(1,0)],qci⟩
@[go_sem] theorem qvb:Kk.ls=[0,3,4]:=rfl
@[go_sem] theorem qva:Kk.ks=[(1,0)]:=rfl
@[go_sem] theorem qu9:Kk.body=qci:=rfl
def Xu:AF where
 nargs:=1
 ntmps:=16
 res:=[.tmp 2]
 body:=(.seq (.reg [.mv 2 (.c (B false))]) (.seq (.reg [.mv 3 (.c (S [43,45,42,47,92,94,60,62,61,126,58,46,63,64,35,38,36]))]) (.seq (.seq (.reg [.mv 4 (.c (I 0))]) (.block 0 (lpC Kk))) (.keep [] (.seq (.reg [.mv 2 (.c (B false))]) (.keep [2] .ret))))))
def Xq:AF where
 nargs:=1
 ntmps:=32
 res:=[.tmp 2]
 body:=(.seq (.reg [.mv 2 (.c (B false))]) (.seq (.seq (.reg [.mv 3 (.t 0)]) (.block 0 (.seq (.seq (.reg [.bin 5 .eql (.t 3) (.c (S [116,114,117,101,47,48])),.mv 4 (.t 5)]) (.cond (.t 4) .skip (.seq (.reg [.bin 6 .eql (.t 3) (.c (S [102,97,105,108,47,48])),.mv 4 (.t 6)]) (.cond (.t 4) .skip (.seq (.reg [.bin 7 .eql (.t 3) (.c (S [33,47,48])),.mv 4 (.t 7)]) (.cond (.t 4) .skip (.seq (.reg [.bin 8 .eql (.t 3) (.c (S [44,47,50])),.mv 4 (.t 8)]) (.cond (.t 4) .skip (.seq (.reg [.bin 9 .eql (.t 3) (.c (S [59,47,50])),.mv 4 (.t 9)]) (.cond (.t 4) .skip (.seq (.reg [.bin 10 .eql (.t 3) (.c (S [45,62,47,50])),.mv 4 (.t 10)]) (.cond (.t 4) .skip (.seq (.reg [.bin 11 .eql (.t 3) (.c (S [92,43,47,49])),.mv 4 (.t 11)]) (.cond (.t 4) .skip (.seq (.reg [.bin 12 .eql (.t 3) (.c (S [99,97,108,108,47,49])),.mv 4 (.t 12)]) (.cond (.t 4) .skip (.seq (.reg [.bin 13 .eql (.t 3) (.c (S [99,97,108,108,47,50])),.mv 4 (.t 13)]) (.cond (.t 4) .skip (.seq (.reg [.bin 14 .eql (.t 3) (.c (S [99,97,108,108,47,51])),.mv 4 (.t 14)]) (.cond (.t 4) .skip (.seq (.reg [.bin 15 .eql (.t 3) (.c (S [99,97,116,99,104,47,51])),.mv 4 (.t 15)]) (.cond (.t 4) .skip (.reg [.bin 16 .eql (.t 3) (.c (S [116,104,114,111,119,47,49])),.mv 4 (.t 16)]))))))))))))))))))))))) (.keep [3,4] (.cond (.t 4) (.seq (.reg [.mv 2 (.c (B true))]) (.keep [2] .ret)) (.seq (.seq (.reg [.bin 18 .eql (.t 3) (.c (S [61,47,50])),.mv 17 (.t 18)]) (.cond (.t 17) .skip (.seq (.reg [.bin 19 .eql (.t 3) (.c (S [92,61,47,50])),.mv 17 (.t 19)]) (.cond (.t 17) .skip (.seq (.reg [.bin 20 .eql (.t 3) (.c (S [61,61,47,50])),.mv 17 (.t 20)]) (.cond (.t 17) .skip (.seq (.reg [.bin 21 .eql (.t 3) (.c (S [105,115,47,50])),.mv 17 (.t 21)]) (.cond (.t 17) .skip (.seq (.reg [.bin 22 .eql (.t 3) (.c (S [60,47,50])),.mv 17 (.t 22)]) (.cond (.t 17) .skip (.seq (.reg [.bin 23 .eql (.t 3) (.c (S [61,58,61,47,50])),.mv 17 (.t 23)]) (.cond (.t 17) .skip (.seq (.reg [.bin 24 .eql (.t 3) (.c (S [118,97,114,47,49])),.mv 17 (.t 24)]) (.cond (.t 17) .skip (.seq (.reg [.bin 25 .eql (.t 3) (.c (S [97,116,111,109,47,49])),.mv 17 (.t 25)]) (.cond (.t 17) .skip (.seq (.reg [.bin 26 .eql (.t 3) (.c (S [119,114,105,116,101,47,49])),.mv 17 (.t 26)]) (.cond (.t 17) .skip (.seq (.reg [.bin 27 .eql (.t 3) (.c (S [97,115,115,101,114,116,122,47,49])),.mv 17 (.t 27)]) (.cond (.t 17) .skip (.seq (.reg [.bin 28 .eql (.t 3) (.c (S [114,101,116,114,97,99,116,47,49])),.mv 17 (.t 28)]) (.cond (.t 17) .skip (.seq (.reg [.bin 29 .eql (.t 3) (.c (S [58,45,47,50])),.mv 17 (.t 29)]) (.cond (.t 17) .skip (.seq (.reg [.bin 30 .eql (.t 3) (.c (S [58,45,47,49])),.mv 17 (.t 30)]) (.cond (.t 17) .skip (.reg [.bin 31 .eql (.t 3) (.c (S [45,45,62,47,50])),.mv 17 (.t 31)]))))))))))))))))))))))))))) (.keep [17] (.cond (.t 17) (.seq (.reg [.mv 2 (.c (B true))]) (.keep [2] .ret)) .skip)))))))) (.keep [] (.seq (.reg [.mv 2 (.c (B false))]) (.keep [2] .ret)))))
def qcl:AC:=(.seq (.seq (.reg [.mv 6 (.t 5),.mv 7 (.t 0),.len 8 (.t 7),.bin 9 .lss (.t 6) (.t 8)]) (.keep [0,1,5,9] (.cond (.t 9) .skip (.keep [] (.exit 0))))) (.keep [0,1,5] (.seq (.block 1 (.seq (.reg [.mv 12 (.t 0),.mv 13 (.t 5),.ia 14 1 (.t 12) (.t 13),.ld 15 false 1 (.t 14),.mv 16 (.t 1),.bin 17 .eql (.t 15) (.t 16)]) (.keep [0,1,5,17] (.cond (.t 17) (.seq (.reg [.mv 4 (.c (B true))]) (.keep [4] .ret)) .skip)))) (.keep [0,1,5] (.reg [.mv 10 (.t 5),.bin 11 .add (.t 10) (.c (I 1)),.mv 5 (.t 11)])))))
def Kn:Lp:=⟨[0,1,5],[(2,0)],qcl⟩
@[go_sem] theorem qvq:Kn.ls=[0,1,5]:=rfl
@[go_sem] theorem qvp:Kn.ks=[(2,0)]:=rfl
@[go_sem] theorem qvo:Kn.body=qcl:=rfl
def XB:AF where
 nargs:=2
 ntmps:=18
 res:=[.tmp 4]
 body:=(.seq (.reg [.mv 4 (.c (B false))]) (.seq (.seq (.reg [.mv 5 (.c (I 0))]) (.block 0 (lpC Kn))) (.keep [] (.seq (.reg [.mv 4 (.c (B false))]) (.keep [4] .ret)))))
def Xx:AF where
 nargs:=1
 ntmps:=12
 res:=[.tmp 2]
 body:=(.seq (.reg [.mv 2 (.c (U8 0))]) (.seq (.seq (.reg [.mv 3 (.t 0),.bin 4 .lss (.t 3) (.c (I 10))]) (.cond (.t 4) (.seq (.reg [.mv 5 (.t 0),.bin 6 .add (.c (I 48)) (.t 5),.int 7 .u8 (.t 6),.mv 2 (.t 7)]) (.keep [2] .ret)) .skip)) (.keep [0] (.seq (.reg [.mv 8 (.t 0),.bin 9 .add (.c (I 97)) (.t 8),.bin 10 .sub (.t 9) (.c (I 10)),.int 11 .u8 (.t 10),.mv 2 (.t 11)]) (.keep [2] .ret)))))
def qb2:AC:=(.seq (.reg [.bin 26 .lss (.t 25) (.t 24)]) (.seq (.cond (.t 26) .skip (.keep [0] (.exit 0))) (.keep [0,23,24,25] (.seq (.block 1 (.seq (.reg [.ia 27 4 (.t 23) (.t 25),.ld 28 true 4 (.t 27),.new 6 (.c (.a [(I 0),(S []),(I 0),(.n 4)])),.st 4 (.t 6) (.t 28)]) (.keep [0,6,23,24,25] (.reg [.mv 29 (.t 0),.ld 30 true 4 (.t 6),.call (some 31) (.c (Fc qbM)) [(.t 29),(.t 30)] (.io false),.mv 0 (.t 31)])))) (.keep [0,23,24,25] (.reg [.bin 32 .add (.t 25) (.c (I 1)),.mv 25 (.t 32)]))))))
def X4:Lp:=⟨[0,23,24,25],[(0,0)],qb2⟩
@[go_sem] theorem quf:X4.ls=[0,23,24,25]:=rfl
@[go_sem] theorem que:X4.ks=[(0,0)]:=rfl
@[go_sem] theorem qud:X4.body=qb2:=rfl
def YR:AF where
 nargs:=2
 ntmps:=34
 res:=[.tmp 4]
 body:=(.seq (.reg [.new 3 (.t 1),.mv 4 (.c (.n 1))]) (.seq (.seq (.reg [.fa 7 (.t 3) 0,.ld 8 false 1 (.t 7),.bin 9 .eql (.t 8) (.c (I 1)),.mv 10 (.t 9),.gd 10 true (some 11) (.mv 11 (.t 0)),.gd 10 true (some 12) (.fa 12 (.t 3) 2),.gd 10 true (some 13) (.ld 13 false 1 (.t 12)),.gd 10 true (some 14) (.call (some 14) (.c (Fc qgF)) [(.t 11),(.t 13)] (.ro true)),.gd 10 true (some 15) (.un 15 .not (.t 14)),.pick 16 (.t 10) (.t 15) (.c (B false))]) (.keep [0,3,16] (.cond (.t 16) (.reg [.mv 17 (.t 0),.fa 18 (.t 3) 2,.ld 19 false 1 (.t 18),.mks 20 1 [(.t 19)],.app 21 1 8 (.t 17) (.t 20),.mv 0 (.t 21)]) .skip))) (.keep [0,3] (.seq (.seq (.reg [.fa 22 (.t 3) 3,.ld 23 false 1 (.t 22),.len 24 (.t 23),.mv 25 (.c (I 0))]) (.keep [0,23,24,25] (.block 0 (lpC X4)))) (.keep [0] (.seq (.reg [.mv 33 (.t 0),.mv 4 (.t 33)]) (.keep [4] .ret)))))))
def Xm:AF where
 nargs:=2
 ntmps:=9
 res:=[.tmp 4]
 body:=(.seq (.reg [.mv 4 (.c (B false))]) (.seq (.reg [.mv 5 (.t 0),.mv 6 (.t 1),.call (some 7) (.c (Fc qgH)) [(.t 5),(.t 6)] (.ro false),.bin 8 .geq (.t 7) (.c (I 0)),.mv 4 (.t 8)]) (.keep [4] .ret)))
def xA:AC:=(.seq (.seq (.reg [.mv 7 (.t 5),.mv 8 (.t 0),.call (some 9) (.c (Fc kG)) [(.t 8),(.c (I 6))] (.io true),.bin 10 .lss (.t 7) (.t 9)]) (.keep [0,3,4,5,10] (.cond (.t 10) .skip (.keep [0,3] (.exit 0))))) (.keep [0,3,4,5] (.seq (.block 1 (.seq (.reg [.mv 13 (.t 0),.call (some 14) (.c (Fc kG)) [(.t 13),(.c (I 12))] (.io true)]) (.block 2 (.seq (.reg [.bin 22 .eql (.t 14) (.c (I 0)),.mv 21 (.t 22)]) (.cond (.t 21) (.reg [.mv 23 (.t 3),.bin 24 .add (.t 23) (.c (S [58,45,32,105,110,99,108,117,100,101,40,116,119,111,41,46,10])),.mv 3 (.t 24)]) (.seq (.reg [.bin 26 .eql (.t 14) (.c (I 1)),.mv 25 (.t 26)]) (.cond (.t 25) (.reg [.mv 27 (.t 3),.bin 28 .add (.t 27) (.c (S [58,45,32,105,102,40,112,40,97,41,41,46,10])),.mv 29 (.t 0),.mv 30 (.t 4),.call (some 31) (.c (Fc jf)) [(.t 29),(.t 30)] (.io false),.bin 32 .add (.t 28) (.t 31),.bin 33 .add (.t 32) (.c (S [46,10,58,45,32,101,108,115,101,46,10,122,40,49,41,46,10,58,45,32,101,110,100,105,102,46,10])),.mv 3 (.t 33)]) (.seq (.reg [.bin 35 .eql (.t 14) (.c (I 2)),.mv 34 (.t 35)]) (.cond (.t 34) (.reg [.mv 36 (.t 3),.bin 37 .add (.t 36) (.c (S [58,45,32,111,112,101,110,40,47,40,111,44,32,49,41,41,46,10])),.mv 3 (.t 37)]) (.seq (.reg [.bin 39 .eql (.t 14) (.c (I 3)),.mv 38 (.t 39)]) (.cond (.t 38) (.reg [.mv 40 (.t 3),.bin 41 .add (.t 40) (.c (S [115,32,45,45,62,32,91,97,93,44,32,115,46,10,115,32,45,45,62,32,91,93,46,10])),.mv 3 (.t 41)]) (.seq (.reg [.bin 43 .eql (.t 14) (.c (I 4)),.mv 42 (.t 43)]) (.cond (.t 42) (.reg [.mv 44 (.t 3),.bin 45 .add (.t 44) (.c (S [101,120,112,97,110,100,40,111,108,100,40,88,41,44,32,112,40,88,41,41,46,10,111,108,100,40,107,41,46,10])),.mv 3 (.t 45)]) (.seq (.reg [.bin 47 .eql (.t 14) (.c (I 5)),.mv 46 (.t 47)]) (.cond (.t 46) (.reg [.mv 48 (.t 3),.bin 49 .add (.t 48) (.c (S [58,45,32,119,114,105,116,101,40,120,41,46,10,58,45,32,102,97,105,108,46,10])),.mv 3 (.t 49)]) (.seq (.reg [.bin 51 .eql (.t 14) (.c (I 6)),.mv 50 (.t 51)]) (.cond (.t 50) (.reg [.mv 52 (.t 3),.mv 53 (.t 0),.mks 54 1 [(.c (S [97,32,98,46,10])),(.c (S [58,45,32,101,108,115,101,46,10])),(.c (S [58,45,32,105,102,40,116,114,117,101,41,46,10])),(.c (S [58,45,32,101,110,100,105,102,46,10])),(.c (S [88,46,10])),(.c (S [116,114,117,101,46,10])),(.c (S [58,45,32,97,115,115,101,114,116,122,40,112,40,110,41,41,46,10])),(.c (S [58,45,32,105,110,99,108,117,100,101,40,110,111,110,101,41,46,10]))],.call (some 55) (.c (Fc jf)) [(.t 53),(.t 54)] (.io false),.bin 56 .add (.t 52) (.t 55),.mv 3 (.t 56)]) (.reg [.mv 15 (.t 3),.mv 16 (.t 0),.mv 17 (.t 4),.call (some 18) (.c (Fc jf)) [(.t 16),(.t 17)] (.io false),.bin 19 .add (.t 15) (.t 18),.bin 20 .add (.t 19) (.c (S [46,10])),.mv 3 (.t 20)])))))))))))))))))) (.keep [0,3,4,5] (.reg [.mv 11 (.t 5),.bin 12 .add (.t 11) (.c (I 1)),.mv 5 (.t 12)])))))
def jh:Lp:=⟨[0,3,4,5],[(1,0)],xA⟩
@[go_sem] theorem qvL:jh.ls=[0,3,4,5]:=rfl
@[go_sem] theorem qvK:jh.ks=[(1,0)]:=rfl
@[go_sem] theorem qvJ:jh.body=xA:=rfl
def Qz:AF where
 nargs:=1
 ntmps:=58
 res:=[.tmp 2]
 body:=(.seq (.reg [.mv 2 (.c (S []))]) (.seq (.reg [.mv 3 (.c (S []))]) (.seq (.reg [.call (some 6) (.c (Fc JV)) [] (.ro false),.mv 4 (.t 6)]) (.seq (.seq (.reg [.mv 5 (.c (I 0))]) (.block 0 (lpC jh))) (.keep [0,3] (.seq (.reg [.mv 57 (.t 3),.mv 2 (.t 57)]) (.keep [0,2] .ret)))))))
def jc:AF where
 nargs:=1
 ntmps:=25
 res:=[.cell 2 true 3]
 body:=(.seq (.reg [.new 2 (.c (.a [(I 0),(S []),(S [])]))]) (.seq (.seq (.reg [.mv 3 (.t 0),.call (some 4) (.c (Fc kG)) [(.t 3),(.c (I 6))] (.io true)]) (.block 0 (.seq (.seq (.reg [.bin 6 .eql (.t 4) (.c (I 0)),.mv 5 (.t 6)]) (.cond (.t 5) .skip (.reg [.bin 7 .eql (.t 4) (.c (I 1)),.mv 5 (.t 7)]))) (.keep [0,2,4,5] (.cond (.t 5) (.seq (.reg [.mv 8 (.t 0),.mks 9 1 [(.c (S [111,110,101])),(.c (S [116,119,111]))],.call (some 10) (.c (Fc jf)) [(.t 8),(.t 9)] (.io false),.mv 11 (.t 0),.call (some 12) (.c (Fc XY)) [(.t 11)] (.io false),.build 13 (.a [(I 0),(S []),(S [])]) [(0,1,(.c (I 3))),(1,1,(.t 10)),(2,1,(.t 12))],.st 3 (.t 2) (.t 13)]) (.keep [0,2] .ret)) (.seq (.reg [.bin 15 .eql (.t 4) (.c (I 2)),.mv 14 (.t 15)]) (.cond (.t 14) (.seq (.reg [.mv 16 (.t 0),.mks 17 1 [(.c (S [111,110,101])),(.c (S [116,119,111])),(.c (S [110,111,110,101]))],.call (some 18) (.c (Fc jf)) [(.t 16),(.t 17)] (.io false),.build 19 (.a [(I 0),(S []),(S [])]) [(0,1,(.c (I 1))),(1,1,(.t 18))],.st 3 (.t 2) (.t 19)]) (.keep [0,2] .ret)) .skip))))))) (.keep [0,2] (.seq (.reg [.mv 20 (.t 0),.call (some 21) (.c (Fc JW)) [] (.ro false),.call (some 22) (.c (Fc jf)) [(.t 20),(.t 21)] (.io false),.bin 23 .add (.t 22) (.c (S [46])),.build 24 (.a [(I 0),(S []),(S [])]) [(0,1,(.c (I 2))),(2,1,(.t 23))],.st 3 (.t 2) (.t 24)]) (.keep [0,2] .ret)))))
def jH:AF where
 nargs:=2
 ntmps:=18
 res:=[.tmp 4]
 body:=(.seq (.reg [.mv 4 (.c (B false))]) (.seq (.reg [.mv 5 (.t 0),.slen 6 (.t 5),.mv 7 (.t 1),.slen 8 (.t 7),.bin 9 .geq (.t 6) (.t 8),.mv 10 (.t 9),.gd 10 true (some 11) (.mv 11 (.t 0)),.gd 10 true (some 12) (.mv 12 (.t 1)),.gd 10 true (some 13) (.slen 13 (.t 12)),.gd 10 true (some 14) (.ssl 14 (.t 11) none (some (.t 13))),.gd 10 true (some 15) (.mv 15 (.t 1)),.gd 10 true (some 16) (.bin 16 .eql (.t 14) (.t 15)),.pick 17 (.t 10) (.t 16) (.c (B false)),.mv 4 (.t 17)]) (.keep [4] .ret)))
def ZX:AC:=(.seq (.seq (.reg [.mv 7 (.t 1),.mv 8 (.t 0),.slen 9 (.t 8),.bin 10 .lss (.t 7) (.t 9),.mv 11 (.t 10),.gd 11 true (some 12) (.mv 12 (.t 2)),.gd 11 true (some 13) (.mv 13 (.t 0)),.gd 11 true (some 14) (.mv 14 (.t 1)),.gd 11 true (some 15) (.ix 15 (.t 13) (.t 14)),.gd 11 true (some 16) (.call (some 16) (.t 12) [(.t 15)] (.ro true)),.pick 17 (.t 11) (.t 16) (.c (B false))]) (.keep [0,1,2,17] (.cond (.t 17) .skip (.keep [1] (.exit 0))))) (.keep [0,1,2] (.block 1 (.reg [.mv 18 (.t 1),.bin 19 .add (.t 18) (.c (I 1)),.mv 1 (.t 19)]))))
def ZO:Lp:=⟨[0,1,2],[(3,0)],ZX⟩
@[go_sem] theorem qup:ZO.ls=[0,1,2]:=rfl
@[go_sem] theorem qun:ZO.ks=[(3,0)]:=rfl
@[go_sem] theorem qum:ZO.body=ZX:=rfl
def Qo:AF where
 nargs:=3
 ntmps:=21
 res:=[.tmp 6]
 body:=(.seq (.reg [.mv 6 (.c (I 0))]) (.seq (.block 0 (lpC ZO)) (.keep [1] (.seq (.reg [.mv 20 (.t 1),.mv 6 (.t 20)]) (.keep [6] .ret)))))
def k8:AF where
 nargs:=1
 ntmps:=9
 res:=[.tmp 2]
 body:=(.seq (.reg [.mv 2 (.c (B false))]) (.seq (.reg [.mv 3 (.t 0),.bin 4 .geq (.t 3) (.c (U8 97)),.mv 5 (.t 4),.gd 5 true (some 6) (.mv 6 (.t 0)),.gd 5 true (some 7) (.bin 7 .leq (.t 6) (.c (U8 122))),.pick 8 (.t 5) (.t 7) (.c (B false)),.mv 2 (.t 8)]) (.keep [2] .ret)))
def qcb:AC:=(.seq (.seq (.reg [.mv 12 (.t 5),.mv 13 (.t 0),.len 14 (.t 13),.bin 15 .lss (.t 12) (.t 14)]) (.keep [0,1,5,15] (.cond (.t 15) .skip (.keep [1] (.exit 0))))) (.keep [0,1,5] (.seq (.block 1 (.seq (.reg [.mv 18 (.t 0),.mv 19 (.t 5),.ia 20 4 (.t 18) (.t 19),.ld 21 true 4 (.t 20),.mv 22 (.t 1),.call (some 23) (.c (Fc JP)) [(.t 21),(.t 22)] (.ro false),.mv 1 (.t 23)]) (.keep [0,1,5] (.seq (.reg [.mv 24 (.t 1),.bin 25 .lss (.t 24) (.c (I 0))]) (.cond (.t 25) (.seq (.reg [.mv 4 (.c (I (-1)))]) (.keep [4] .ret)) .skip))))) (.keep [0,1,5] (.reg [.mv 16 (.t 5),.bin 17 .add (.t 16) (.c (I 1)),.mv 5 (.t 17)])))))
def Kd:Lp:=⟨[0,1,5],[(2,0)],qcb⟩
@[go_sem] theorem quN:Kd.ls=[0,1,5]:=rfl
@[go_sem] theorem quM:Kd.ks=[(2,0)]:=rfl
@[go_sem] theorem quL:Kd.body=qcb:=rfl
def Xe:AF where
 nargs:=2
 ntmps:=27
 res:=[.tmp 4]
 body:=(.seq (.reg [.mv 4 (.c (I 0))]) (.seq (.reg [.mv 6 (.t 1),.mv 7 (.t 0),.len 8 (.t 7),.bin 9 .sub (.t 6) (.t 8),.mv 1 (.t 9)]) (.keep [0,1] (.seq (.seq (.reg [.mv 10 (.t 1),.bin 11 .lss (.t 10) (.c (I 0))]) (.cond (.t 11) (.seq (.reg [.mv 4 (.c (I (-1)))]) (.keep [4] .ret)) .skip)) (.keep [0,1] (.seq (.seq (.reg [.mv 5 (.c (I 0))]) (.block 0 (lpC Kd))) (.keep [1] (.seq (.reg [.mv 26 (.t 1),.mv 4 (.t 26)]) (.keep [4] .ret)))))))))
def qce:AC:=(.seq (.seq (.reg [.mv 8 (.t 4),.mv 9 (.t 0),.len 10 (.t 9),.bin 11 .lss (.t 8) (.t 10)]) (.keep [0,3,4,11] (.cond (.t 11) .skip (.keep [3] (.exit 0))))) (.keep [0,3,4] (.seq (.block 1 (.reg [.mv 14 (.t 3),.mv 15 (.t 4),.mv 16 (.t 0),.mv 17 (.t 4),.ia 18 4 (.t 16) (.t 17),.ld 19 true 4 (.t 18),.call (some 20) (.c (Fc JQ)) [(.t 19)] (.ro false),.ia 21 4 (.t 14) (.t 15),.st 4 (.t 21) (.t 20)])) (.keep [0,3,4] (.reg [.mv 12 (.t 4),.bin 13 .add (.t 12) (.c (I 1)),.mv 4 (.t 13)])))))
def Kg:Lp:=⟨[0,3,4],[(1,0)],qce⟩
@[go_sem] theorem quW:Kg.ls=[0,3,4]:=rfl
@[go_sem] theorem quV:Kg.ks=[(1,0)]:=rfl
@[go_sem] theorem quU:Kg.body=qce:=rfl
def Xk:AF where
 nargs:=1
 ntmps:=23
 res:=[.tmp 2]
 body:=(.seq (.reg [.mv 2 (.c (.n 4))]) (.seq (.reg [.mv 5 (.t 0),.len 6 (.t 5),.mk 7 4 (.a [(I 0),(S []),(I 0),(.n 4)]) 56 (.t 6) (.t 6),.mv 3 (.t 7)]) (.keep [0,3] (.seq (.seq (.reg [.mv 4 (.c (I 0))]) (.block 0 (lpC Kg))) (.keep [3] (.seq (.reg [.mv 22 (.t 3),.mv 2 (.t 22)]) (.keep [2] .ret)))))))
def qb8:AC:=(.seq (.seq (.reg [.mv 11 (.t 5),.mv 12 (.t 0),.len 13 (.t 12),.bin 14 .lss (.t 11) (.t 13)]) (.keep [0,1,5,14] (.cond (.t 14) .skip (.keep [] (.exit 0))))) (.keep [0,1,5] (.seq (.block 1 (.seq (.dreg [⟨0,[]⟩,⟨0,[]⟩,⟨0,[(0,0),(0,1),(0,2),(0,3),(100000,0),(100000,1),(100000,2),(100000,3),(100000,4),(100000,5)]⟩,⟨0,[(0,0),(0,1),(0,2),(0,3),(100000,0),(100000,1),(100000,2),(100000,3),(100000,4),(100000,5)]⟩,⟨0,[]⟩,⟨0,[]⟩,⟨0,[(1,0),(1,1),(1,2),(1,3),(100000,0),(100000,1),(100000,2),(100000,3),(100000,4),(100000,5)]⟩,⟨0,[(1,0),(1,1),(1,2),(1,3),(100000,0),(100000,1),(100000,2),(100000,3),(100000,4),(100000,5)]⟩,⟨2,[(0,0),(0,1),(0,2),(0,3),(1,0),(1,1),(1,2),(1,3),(20,0),(24,0),(100000,0),(100000,1),(100000,2),(100000,3),(100000,4),(100000,5)]⟩,⟨0,[]⟩] [.mv 17 (.t 0),.mv 18 (.t 5),.ia 19 4 (.t 17) (.t 18),.ldq 20 true 4 (.t 19),.mv 21 (.t 1),.mv 22 (.t 5),.ia 23 4 (.t 21) (.t 22),.ldq 24 true 4 (.t 23),.call (some 25) (.c (Fc JO)) [(.t 20),(.t 24)] (.ro true),.un 26 .not (.t 25)]) (.keep [0,1,5,26] (.cond (.t 26) (.seq (.reg [.mv 4 (.c (B false))]) (.keep [4] .ret)) .skip)))) (.keep [0,1,5] (.reg [.mv 15 (.t 5),.bin 16 .add (.t 15) (.c (I 1)),.mv 5 (.t 16)])))))
def Ka:Lp:=⟨[0,1,5],[(2,0)],qb8⟩
@[go_sem] theorem quE:Ka.ls=[0,1,5]:=rfl
@[go_sem] theorem quD:Ka.ks=[(2,0)]:=rfl
@[go_sem] theorem quC:Ka.body=qb8:=rfl
def Y8:AF where
 nargs:=2
 ntmps:=27
 res:=[.tmp 4]
 body:=(.seq (.reg [.mv 4 (.c (B false))]) (.seq (.seq (.reg [.mv 6 (.t 0),.len 7 (.t 6),.mv 8 (.t 1),.len 9 (.t 8),.bin 10 .neq (.t 7) (.t 9)]) (.keep [0,1,10] (.cond (.t 10) (.seq (.reg [.mv 4 (.c (B false))]) (.keep [4] .ret)) .skip))) (.keep [0,1] (.seq (.seq (.reg [.mv 5 (.c (I 0))]) (.block 0 (lpC Ka))) (.keep [] (.seq (.reg [.mv 4 (.c (B true))]) (.keep [4] .ret)))))))
def qcm:AC:=(.seq (.seq (.reg [.mv 4 (.t 3),.mv 5 (.t 0),.slen 6 (.t 5),.bin 7 .lss (.t 4) (.t 6)]) (.keep [0,3,7] (.cond (.t 7) .skip (.keep [0] (.exit 0))))) (.keep [0,3] (.seq (.block 1 (.seq (.reg [.mv 10 (.t 0),.mv 11 (.t 3),.ix 12 (.t 10) (.t 11),.bin 13 .lss (.t 12) (.c (U8 33)),.mv 14 (.t 13),.gd 14 false (some 15) (.mv 15 (.t 0)),.gd 14 false (some 16) (.mv 16 (.t 3)),.gd 14 false (some 17) (.ix 17 (.t 15) (.t 16)),.gd 14 false (some 18) (.bin 18 .gtr (.t 17) (.c (U8 126))),.pick 19 (.t 14) (.c (B true)) (.t 18),.mv 20 (.t 19),.gd 20 false (some 21) (.mv 21 (.t 0)),.gd 20 false (some 22) (.mv 22 (.t 3)),.gd 20 false (some 23) (.ix 23 (.t 21) (.t 22)),.gd 20 false (some 24) (.bin 24 .eql (.t 23) (.c (U8 39))),.pick 25 (.t 20) (.c (B true)) (.t 24),.mv 26 (.t 25),.gd 26 false (some 27) (.mv 27 (.t 0)),.gd 26 false (some 28) (.mv 28 (.t 3)),.gd 26 false (some 29) (.ix 29 (.t 27) (.t 28)),.gd 26 false (some 30) (.bin 30 .eql (.t 29) (.c (U8 34))),.pick 31 (.t 26) (.c (B true)) (.t 30)]) (.keep [0,3,31] (.cond (.t 31) (.seq (.reg [.mv 2 (.c (B false))]) (.keep [2] .ret)) .skip)))) (.keep [0,3] (.reg [.mv 8 (.t 3),.bin 9 .add (.t 8) (.c (I 1)),.mv 3 (.t 9)])))))
def Ko:Lp:=⟨[0,3],[(1,0)],qcm⟩
@[go_sem] theorem qvt:Ko.ls=[0,3]:=rfl
@[go_sem] theorem qvs:Ko.ks=[(1,0)]:=rfl
@[go_sem] theorem qvr:Ko.body=qcm:=rfl
def XC:AF where
 nargs:=1
 ntmps:=35
 res:=[.tmp 2]
 body:=(.seq (.reg [.mv 2 (.c (B false))]) (.seq (.seq (.reg [.mv 3 (.c (I 0))]) (.block 0 (lpC Ko))) (.keep [0] (.seq (.reg [.mv 32 (.t 0),.slen 33 (.t 32),.call (some 34) (.c (Fc jP)) [(.t 33),(.c (I 1)),(.c (I 20))] (.ro false),.mv 2 (.t 34)]) (.keep [2] .ret)))))
def XM:AF where
 nargs:=1
 ntmps:=13
 res:=[.tmp 2]
 body:=(.seq (.reg [.mv 2 (.c (B false))]) (.seq (.reg [.mv 3 (.t 0),.call (some 4) (.c (Fc XW)) [(.t 3)] (.ro false),.mv 5 (.t 4),.gd 5 false (some 6) (.mv 6 (.t 0)),.gd 5 false (some 7) (.call (some 7) (.c (Fc qgT)) [(.t 6)] (.ro false)),.pick 8 (.t 5) (.c (B true)) (.t 7),.mv 9 (.t 8),.gd 9 false (some 10) (.mv 10 (.t 0)),.gd 9 false (some 11) (.call (some 11) (.c (Fc qgS)) [(.t 10)] (.ro false)),.pick 12 (.t 9) (.c (B true)) (.t 11),.mv 2 (.t 12)]) (.keep [2] .ret)))
def Xl:AF where
 nargs:=2
 ntmps:=9
 res:=[.tmp 4]
 body:=(.seq (.reg [.mv 4 (.c (B false))]) (.seq (.reg [.mv 5 (.t 0),.mv 6 (.t 1),.call (some 7) (.c (Fc qbQ)) [(.t 5),(.t 6)] (.ro false),.bin 8 .geq (.t 7) (.c (I 0)),.mv 4 (.t 8)]) (.keep [4] .ret)))
def qcg:AC:=(.seq (.reg [.bin 9 .lss (.t 8) (.t 7)]) (.seq (.cond (.t 9) .skip (.keep [] (.exit 0))) (.keep [0,1,7,8] (.seq (.block 1 (.seq (.reg [.mv 10 (.t 8),.mv 5 (.t 10)]) (.seq (.reg [.mv 11 (.t 1),.mv 12 (.t 0),.mv 13 (.t 5),.ia 14 1 (.t 12) (.t 13),.ld 15 false 1 (.t 14),.bin 16 .eql (.t 11) (.t 15)]) (.keep [0,1,5,7,8,16] (.cond (.t 16) (.seq (.reg [.mv 17 (.t 5),.mv 4 (.t 17)]) (.keep [4] .ret)) .skip))))) (.keep [0,1,7,8] (.reg [.bin 18 .add (.t 8) (.c (I 1)),.mv 8 (.t 18)]))))))
def Ki:Lp:=⟨[0,1,7,8],[(2,0)],qcg⟩
@[go_sem] theorem qu2:Ki.ls=[0,1,7,8]:=rfl
@[go_sem] theorem qu1:Ki.ks=[(2,0)]:=rfl
@[go_sem] theorem qu0:Ki.body=qcg:=rfl
def Xo:AF where
 nargs:=2
 ntmps:=19
 res:=[.tmp 4]
 body:=(.seq (.reg [.mv 4 (.c (I 0))]) (.seq (.seq (.reg [.mv 6 (.t 0),.len 7 (.t 6),.mv 8 (.c (I 0))]) (.block 0 (lpC Ki))) (.keep [] (.seq (.reg [.mv 4 (.c (I (-1)))]) (.keep [4] .ret)))))
def Qy:AF where
 nargs:=0
 ntmps:=2
 res:=[.tmp 0]
 body:=(.seq (.reg [.mv 0 (.c (.n 1))]) (.seq (.reg [.mks 1 1 [(.c (S [112,40,88,41])),(.c (S [113,40,88,41])),(.c (S [114,40,88,44,32,89,41])),(.c (S [97,112,112,40,88,44,32,89,44,32,91,97,44,32,98,93,41])),(.c (S [108,101,110,40,91,97,44,32,98,93,44,32,78,41])),(.c (S [115,40,88,41])),(.c (S [116,40,88,41])),(.c (S [117,40,122,41])),(.c (S [119,40,88,41,44,32,102,97,105,108])),(.c (S [99,40,88,41])),(.c (S [101,40,98,97,108,108,41])),(.c (S [110,40,88,41])),(.c (S [109,40,88,41])),(.c (S [97,100,100,40,101,41,44,32,112,40,88,41])),(.c (S [100,101,108,40,88,41,44,32,112,40,89,41])),(.c (S [108,111,111,112])),(.c (S [118,40,88,41])),(.c (S [100,40,88,44,32,89,41])),(.c (S [103,40,104,40,97,41,44,32,89,41])),(.c (S [103,40,88,44,32,89,41])),(.c (S [107,40,49,41])),(.c (S [121,40,88,41])),(.c (S [88,32,61,32,102,40,88,41])),(.c (S [99,97,116,99,104,40,102,97,105,108,44,32,95,44,32,116,114,117,101,41])),(.c (S [40,112,40,88,41,44,32,33,32,59,32,113,40,88,41,41])),(.c (S [92,43,32,112,40,122,41])),(.c (S [119,114,105,116,101,40,88,41,44,32,88,32,61,32,49])),(.c (S [88])),(.c (S [51])),(.c (S [116,104,114,111,119,40,102,40,88,41,41])),(.c (S [99,97,116,99,104,40,112,40,88,41,44,32,95,44,32,116,114,117,101,41,44,32,116,104,114,111,119,40,120,41])),(.c (S [40,112,40,88,41,32,45,62,32,113,40,89,41,32,59,32,116,114,117,101,41])),(.c (S [99,97,108,108,40,97,112,112,40,91,97,93,41,44,32,88,44,32,89,41])),(.c (S [112,40,88,41,44,32,97,115,115,101,114,116,122,40,40,112,50,40,89,41,32,58,45,32,112,40,89,41,41,41,44,32,112,50,40,90,41])),(.c (S [97,116,111,109,40,88,41])),(.c (S [114,101,116,114,97,99,116,40,40,113,40,88,41,32,58,45,32,112,40,88,41,41,41])),(.c (S [88,32,61,61,32,88,44,32,88,32,92,61,32,97])),(.c (S [112,40,88,41,44,32,88,32,61,61,32,98])),(.c (S [97,112,112,40,88,44,32,91,99,124,89,93,44,32,90,41]))],.mv 0 (.t 1)]) (.keep [0] .ret)))
def Y1:AF where
 nargs:=1
 ntmps:=9
 res:=[.tmp 2]
 body:=(.seq (.reg [.mv 2 (.c (B false))]) (.seq (.reg [.mv 3 (.t 0),.bin 4 .geq (.t 3) (.c (U8 65)),.mv 5 (.t 4),.gd 5 true (some 6) (.mv 6 (.t 0)),.gd 5 true (some 7) (.bin 7 .leq (.t 6) (.c (U8 90))),.pick 8 (.t 5) (.t 7) (.c (B false)),.mv 2 (.t 8)]) (.keep [2] .ret)))
def Y2:AF where
 nargs:=1
 ntmps:=17
 res:=[.tmp 2]
 body:=(.seq (.reg [.mv 2 (.c (B false))]) (.seq (.reg [.mv 3 (.t 0),.call (some 4) (.c (Fc ZL)) [(.t 3)] (.ro false),.mv 5 (.t 4),.gd 5 false (some 6) (.mv 6 (.t 0)),.gd 5 false (some 7) (.call (some 7) (.c (Fc qgs)) [(.t 6)] (.ro false)),.pick 8 (.t 5) (.c (B true)) (.t 7),.mv 9 (.t 8),.gd 9 false (some 10) (.mv 10 (.t 0)),.gd 9 false (some 11) (.call (some 11) (.c (Fc qgo)) [(.t 10)] (.ro false)),.pick 12 (.t 9) (.c (B true)) (.t 11),.mv 13 (.t 12),.gd 13 false (some 14) (.mv 14 (.t 0)),.gd 13 false (some 15) (.bin 15 .eql (.t 14) (.c (U8 95))),.pick 16 (.t 13) (.c (B true)) (.t 15),.mv 2 (.t 16)]) (.keep [2] .ret)))
def YU:AF where
 nargs:=1
 ntmps:=9
 res:=[.tmp 2]
 body:=(.seq (.reg [.mv 2 (.c (B false))]) (.seq (.reg [.mv 3 (.t 0),.bin 4 .geq (.t 3) (.c (U8 48)),.mv 5 (.t 4),.gd 5 true (some 6) (.mv 6 (.t 0)),.gd 5 true (some 7) (.bin 7 .leq (.t 6) (.c (U8 57))),.pick 8 (.t 5) (.t 7) (.c (B false)),.mv 2 (.t 8)]) (.keep [2] .ret)))
def YO:AF where
 nargs:=1
 ntmps:=6
 res:=[.tmp 2]
 body:=(.seq (.reg [.mv 2 (.c (B false))]) (.seq (.reg [.mv 3 (.t 0),.call (some 4) (.c (Fc qgX)) [(.c (S [43,45,42,47,92,94,60,62,61,126,58,46,63,64,35,38,36])),(.t 3)] (.ro false),.bin 5 .geq (.t 4) (.c (I 0)),.mv 2 (.t 5)]) (.keep [2] .ret)))
def K8:Nat→Option AE
 |10=>some (.fn kD)
 |11=>some (.fn Xb)
 |13=>some (.fn Xh)
 |15=>some (.fn Y5)
 |20=>some (.fn Qq)
 |39=>some (.fn Xp)
 |_=>none
def K9:Nat→Option AE
 |67=>some (.fn YM)
 |68=>some (.fn Xs)
 |69=>some (.fn Qr)
 |70=>some (.fn x6)
 |71=>some (.fn ja)
 |72=>some (.fn jE)
 |73=>some (.fn Xa)
 |74=>some (.fn Xc)
 |75=>some (.fn Xg)
 |76=>some (.fn Xi)
 |77=>some (.fn Y4)
 |78=>some (.fn Y6)
 |82=>some (.fn Qp)
 |84=>some (.fn YN)
 |92=>some (.fn Qv)
 |93=>some (.fn Xy)
 |98=>some (.fn YP)
 |100=>some (.fn Xv)
 |102=>some (.fn YK)
 |_=>none
def Ja:Nat→Option AE
 |119=>some (.fn Xw)
 |120=>some (.fn XN)
 |121=>some (.fn XP)
 |132=>some (.fn Qs)
 |139=>some (.fn Qt)
 |144=>some (.fn Y0)
 |150=>some (.fn XF)
 |155=>some (.fn YV)
 |156=>some (.fn XO)
 |_=>none
def Jb:Nat→Option AE
 |157=>some (.fn xR)
 |158=>some (.prim Qh)
 |159=>some (.prim Qm)
 |160=>some (.fn k9)
 |161=>some (.fn QA)
 |162=>some (.fn xx)
 |163=>some (.fn jN)
 |164=>some (.fn jL)
 |165=>some (.fn x7)
 |166=>some (.fn xy)
 |167=>some (.fn Qn)
 |170=>some (.fn Y9)
 |171=>some (.fn Xf)
 |172=>some (.fn Y3)
 |175=>some (.fn Xt)
 |189=>some (.fn YZ)
 |194=>some (.fn XA)
 |195=>some (.fn XE)
 |198=>some (.fn YS)
 |200=>some (.fn XH)
 |205=>some (.fn Qx)
 |209=>some (.fn Xz)
 |210=>some (.fn XG)
 |_=>none
def Jc:Nat→Option AE
 |211=>some (.fn XQ)
 |212=>some (.fn Xr)
 |219=>some (.fn jI)
 |224=>some (.fn YQ)
 |225=>some (.fn YY)
 |228=>some (.fn YL)
 |234=>some (.fn YW)
 |235=>some (.fn Xn)
 |236=>some (.fn jK)
 |237=>some (.fn Qu)
 |246=>some (.fn jG)
 |247=>some (.fn jF)
 |248=>some (.fn jd)
 |249=>some (.fn jM)
 |250=>some (.fn jJ)
 |251=>some (.prim jX)
 |256=>some (.fn Xd)
 |257=>some (.fn Xj)
 |258=>some (.fn Y7)
 |261=>some (.fn Qw)
 |_=>none
def Jd:Nat→Option AE
 |266=>some (.fn YX)
 |270=>some (.prim qaG)
 |271=>some (.fn XD)
 |272=>some (.fn YT)
 |273=>some (.fn jb)
 |274=>some (.fn XK)
 |275=>some (.fn XL)
 |276=>some (.fn XJ)
 |278=>some (.fn XI)
 |279=>some (.fn Xu)
 |284=>some (.fn Xq)
 |285=>some (.fn XB)
 |286=>some (.fn Xx)
 |294=>some (.fn YR)
 |296=>some (.fn Xm)
 |301=>some (.fn Qz)
 |302=>some (.fn jc)
 |310=>some (.fn jH)
 |311=>some (.fn Qo)
 |312=>some (.fn k8)
 |_=>none
def Je:Nat→Option AE
 |321=>some (.fn Xe)
 |322=>some (.fn Xk)
 |323=>some (.fn Y8)
 |330=>some (.fn XC)
 |331=>some (.fn XM)
 |343=>some (.fn Xl)
 |344=>some (.fn Xo)
 |346=>some (.fn Qy)
 |375=>some (.prim qaF)
 |_=>none
def Jf:Nat→Option AE
 |396=>some (.fn Y1)
 |397=>some (.fn Y2)
 |398=>some (.fn YU)
 |399=>some (.fn YO)
 |_=>none
def qa6:Nat→Option AE
 |_=>none
def ql(n:Nat):Option AE:=
 match K8 n with
 |some e=>some e
 |none=>
 match K9 n with
 |some e=>some e
 |none=>
 match Ja n with
 |some e=>some e
 |none=>
 match Jb n with
 |some e=>some e
 |none=>
 match Jc n with
 |some e=>some e
 |none=>
 match Jd n with
 |some e=>some e
 |none=>
 match Je n with
 |some e=>some e
 |none=>
 match Jf n with
 |some e=>some e
 |none=>
 qa6 n
theorem qeJ:ql JM=some (.fn kD):=rfl
theorem qk8:ql JN=some (.fn Qq):=rfl
theorem qk9:ql JR=some (.fn Qr):=rfl
theorem qkZ:ql ZK=some (.fn x6):=rfl
theorem qla:ql JS=some (.fn ja):=rfl
theorem qeI:ql ZI=some (.fn jE):=rfl
theorem qk5:ql je=some (.fn Qp):=rfl
theorem qlf:ql XV=some (.fn Qv):=rfl
theorem qlc:ql kG=some (.fn Qs):=rfl
theorem qld:ql jP=some (.fn Qt):=rfl
theorem QX:ql J2=some (.fn xR):=rfl
theorem qk3:ql JI=some (.fn k9):=rfl
theorem qlr:ql ZN=some (.fn QA):=rfl
theorem qk0:ql JG=some (.fn xx):=rfl
theorem qlp:ql J1=some (.fn jN):=rfl
theorem qln:ql JZ=some (.fn jL):=rfl
theorem qeM:ql X0=some (.fn x7):=rfl
theorem qlb:ql JT=some (.fn xy):=rfl
theorem qkY:ql ZJ=some (.fn Qn):=rfl
theorem qli:ql JV=some (.fn Qx):=rfl
theorem qeK:ql jO=some (.fn jI):=rfl
theorem qeL:ql JY=some (.fn jK):=rfl
theorem qle:ql JU=some (.fn Qu):=rfl
theorem qk6:ql JK=some (.fn jG):=rfl
theorem qk1:ql XU=some (.fn jF):=rfl
theorem qlm:ql ZM=some (.fn jd):=rfl
theorem qlo:ql J0=some (.fn jM):=rfl
theorem qlk:ql XX=some (.fn jJ):=rfl
theorem qlg:ql jf=some (.fn Qw):=rfl
theorem qlh:ql XW=some (.fn jb):=rfl
theorem qll:ql XY=some (.fn Qz):=rfl
theorem qa1:ql XZ=some (.fn jc):=rfl
theorem qk7:ql JL=some (.fn jH):=rfl
theorem qk4:ql JJ=some (.fn Qo):=rfl
theorem qk2:ql ZL=some (.fn k8):=rfl
theorem qlj:ql JW=some (.fn Qy):=rfl
theorem qls:ql J3=some (.prim Qh):=rfl
theorem qlt:ql qbX=some (.prim Qm):=rfl
theorem qlq:ql qbW=some (.prim jX):=rfl
end Go.Vm
