import Derived.Test.YtcaejgdpplbcbaaGreatDoorT03
set_option autoImplicit false
set_option maxRecDepth 100000
namespace Go.Vm
abbrev qDj:Nat:=0
abbrev qAO:Nat:=1
abbrev qAP:Nat:=2
abbrev qC0:Nat:=3
abbrev qCZ:Nat:=4
abbrev qfY:Nat:=5
abbrev qC1:Nat:=6
abbrev qCX:Nat:=7
abbrev qCY:Nat:=8
abbrev qC3:Nat:=9
abbrev qC2:Nat:=10
abbrev qDh:Nat:=11
abbrev qEo:Nat:=12
abbrev qDi:Nat:=13
abbrev qBA:Nat:=14
abbrev qC4:Nat:=15
abbrev qEn:Nat:=16
abbrev qBz:Nat:=17
abbrev qDa:Nat:=18
abbrev qC6:Nat:=19
abbrev qfZ:Nat:=20
abbrev qgc:Nat:=21
abbrev qf8:Nat:=22
abbrev qf9:Nat:=23
abbrev qga:Nat:=24
abbrev qap:Nat:=25
abbrev qdH:Nat:=26
abbrev qdk:Nat:=27
abbrev qdE:Nat:=28
abbrev qfS:Nat:=29
abbrev qge:Nat:=30
abbrev qao:Nat:=31
abbrev qax:Nat:=32
abbrev qEb:Nat:=33
abbrev qay:Nat:=34
abbrev qD4:Nat:=35
abbrev qEh:Nat:=36
abbrev qdC:Nat:=37
abbrev qEp:Nat:=38
abbrev qdD:Nat:=39
abbrev qgg:Nat:=40
abbrev qD5:Nat:=41
abbrev qA3:Nat:=42
abbrev qAS:Nat:=43
abbrev qf4:Nat:=44
abbrev qDe:Nat:=45
abbrev qAV:Nat:=46
abbrev qBs:Nat:=47
abbrev qA4:Nat:=48
abbrev qD3:Nat:=49
abbrev qD2:Nat:=50
abbrev qDX:Nat:=51
abbrev qD6:Nat:=52
abbrev qD0:Nat:=53
abbrev qDY:Nat:=54
abbrev qDf:Nat:=55
abbrev qEl:Nat:=56
abbrev qD1:Nat:=57
abbrev qEc:Nat:=58
abbrev qEa:Nat:=59
abbrev qBo:Nat:=60
abbrev qEk:Nat:=61
abbrev qD7:Nat:=62
abbrev qBa:Nat:=63
abbrev qEd:Nat:=64
abbrev qD8:Nat:=65
abbrev qEm:Nat:=66
abbrev qBg:Nat:=67
abbrev qEf:Nat:=68
abbrev qD9:Nat:=69
abbrev qBk:Nat:=70
abbrev qEi:Nat:=71
abbrev qAZ:Nat:=72
abbrev qpy:Nat:=73
abbrev qpz:Nat:=74
abbrev qpC:Nat:=75
abbrev qpD:Nat:=76
abbrev qpu:Nat:=77
abbrev qpv:Nat:=78
abbrev qET:Nat:=79
abbrev qdP:Nat:=80
abbrev qBi:Nat:=81
abbrev Qm:Nat:=82
abbrev qBL:Nat:=83
abbrev qBj:Nat:=84
abbrev qAY:Nat:=85
abbrev qDN:Nat:=86
abbrev qA2:Nat:=87
abbrev qC9:Nat:=88
abbrev qDb:Nat:=89
abbrev qC5:Nat:=90
abbrev qC7:Nat:=91
abbrev ZW:Nat:=92
abbrev KK:Nat:=93
abbrev qgb:Nat:=94
abbrev Qn:Nat:=95
abbrev qf7:Nat:=96
abbrev qgw:Nat:=97
abbrev YZ:Nat:=98
abbrev KI:Nat:=99
abbrev je:Nat:=100
abbrev Y6:Nat:=101
abbrev qdj:Nat:=102
abbrev qar:Nat:=103
abbrev qdr:Nat:=104
abbrev Za:Nat:=105
abbrev qgD:Nat:=106
abbrev ZX:Nat:=107
abbrev xd:Nat:=108
abbrev qdp:Nat:=109
abbrev ZS:Nat:=110
abbrev Zc:Nat:=111
abbrev qdI:Nat:=112
abbrev qdG:Nat:=113
abbrev ZV:Nat:=114
abbrev qgA:Nat:=115
abbrev qgy:Nat:=116
abbrev qdO:Nat:=117
abbrev qEr:Nat:=118
abbrev qpH:Nat:=119
abbrev qgz:Nat:=120
abbrev ZY:Nat:=121
abbrev xt:Nat:=122
abbrev qEX:Nat:=123
abbrev qB1:Nat:=124
abbrev qBH:Nat:=125
abbrev qDF:Nat:=126
abbrev qBK:Nat:=127
abbrev qgx:Nat:=128
abbrev qDH:Nat:=129
abbrev qAW:Nat:=130
abbrev qBG:Nat:=131
abbrev xF:Nat:=132
abbrev qEU:Nat:=133
abbrev qEV:Nat:=134
abbrev qgF:Nat:=135
abbrev qEY:Nat:=136
abbrev qDg:Nat:=137
abbrev qES:Nat:=138
abbrev Y4:Nat:=139
abbrev qCw:Nat:=140
abbrev qBB:Nat:=141
abbrev qAU:Nat:=142
abbrev qBu:Nat:=143
abbrev Y2:Nat:=144
abbrev qA9:Nat:=145
abbrev qBU:Nat:=146
abbrev qEC:Nat:=147
abbrev qEy:Nat:=148
abbrev qEs:Nat:=149
abbrev Ze:Nat:=150
abbrev qEu:Nat:=151
abbrev qBb:Nat:=152
abbrev qBI:Nat:=153
abbrev qER:Nat:=154
abbrev qpm:Nat:=155
abbrev qgC:Nat:=156
abbrev qE4:Nat:=157
abbrev qFg:Nat:=158
abbrev qFh:Nat:=159
abbrev qB4:Nat:=160
abbrev qFd:Nat:=161
abbrev qBn:Nat:=162
abbrev qE2:Nat:=163
abbrev qE0:Nat:=164
abbrev qE3:Nat:=165
abbrev qEj:Nat:=166
abbrev qan:Nat:=167
abbrev qBq:Nat:=168
abbrev qBw:Nat:=169
abbrev qpx:Nat:=170
abbrev qpB:Nat:=171
abbrev qpt:Nat:=172
abbrev KL:Nat:=173
abbrev qEg:Nat:=174
abbrev qgf:Nat:=175
abbrev qDZ:Nat:=176
abbrev qgG:Nat:=177
abbrev qBJ:Nat:=178
abbrev qDL:Nat:=179
abbrev qDQ:Nat:=180
abbrev qDU:Nat:=181
abbrev qDW:Nat:=182
abbrev qDd:Nat:=183
abbrev qDc:Nat:=184
abbrev qC8:Nat:=185
abbrev qgs:Nat:=186
abbrev jf:Nat:=187
abbrev qf6:Nat:=188
abbrev qav:Nat:=189
abbrev qdB:Nat:=190
abbrev qdv:Nat:=191
abbrev qdw:Nat:=192
abbrev qdx:Nat:=193
abbrev qaA:Nat:=194
abbrev qaD:Nat:=195
abbrev qgE:Nat:=196
abbrev ZU:Nat:=197
abbrev qdo:Nat:=198
abbrev Zd:Nat:=199
abbrev qdJ:Nat:=200
abbrev qgn:Nat:=201
abbrev qgp:Nat:=202
abbrev z6:Nat:=203
abbrev Qo:Nat:=204
abbrev qaI:Nat:=205
abbrev qaw:Nat:=206
abbrev qgd:Nat:=207
abbrev qdN:Nat:=208
abbrev qpI:Nat:=209
abbrev qjt:Nat:=210
abbrev qgH:Nat:=211
abbrev KJ:Nat:=212
abbrev qgt:Nat:=213
abbrev qgu:Nat:=214
abbrev qEH:Nat:=215
abbrev qB2:Nat:=216
abbrev qCv:Nat:=217
abbrev qdA:Nat:=218
abbrev Y3:Nat:=219
abbrev qEW:Nat:=220
abbrev qEK:Nat:=221
abbrev qBN:Nat:=222
abbrev qCu:Nat:=223
abbrev qpl:Nat:=224
abbrev Y0:Nat:=225
abbrev qBv:Nat:=226
abbrev qBR:Nat:=227
abbrev qA1:Nat:=228
abbrev qEx:Nat:=229
abbrev qEt:Nat:=230
abbrev qdn:Nat:=231
abbrev qEe:Nat:=232
abbrev qEL:Nat:=233
abbrev qpn:Nat:=234
abbrev qjr:Nat:=235
abbrev qEG:Nat:=236
abbrev qEq:Nat:=237
abbrev qFk:Nat:=238
abbrev qFn:Nat:=239
abbrev qFq:Nat:=240
abbrev qFl:Nat:=241
abbrev qFm:Nat:=242
abbrev qFp:Nat:=243
abbrev qFo:Nat:=244
abbrev qFr:Nat:=245
abbrev qCT:Nat:=246
abbrev qBP:Nat:=247
abbrev qEZ:Nat:=248
abbrev qE1:Nat:=249
abbrev qED:Nat:=250
abbrev qju:Nat:=251
abbrev qDB:Nat:=252
abbrev qBr:Nat:=253
abbrev qBx:Nat:=254
abbrev qpo:Nat:=255
abbrev qf1:Nat:=256
abbrev qf2:Nat:=257
abbrev qf0:Nat:=258
abbrev qEA:Nat:=259
abbrev qDS:Nat:=260
abbrev jK:Nat:=261
abbrev qaE:Nat:=262
abbrev qaC:Nat:=263
abbrev qgi:Nat:=264
abbrev qf5:Nat:=265
abbrev qds:Nat:=266
abbrev qfV:Nat:=267
abbrev KF:Nat:=268
abbrev qdq:Nat:=269
abbrev qjv:Nat:=270
abbrev qgj:Nat:=271
abbrev qaq:Nat:=272
abbrev qdK:Nat:=273
abbrev qaG:Nat:=274
abbrev qgm:Nat:=275
abbrev qaF:Nat:=276
abbrev qgl:Nat:=277
abbrev qgk:Nat:=278
abbrev qaz:Nat:=279
abbrev jL:Nat:=280
abbrev qdL:Nat:=281
abbrev qgv:Nat:=282
abbrev qgB:Nat:=283
abbrev qf3:Nat:=284
abbrev qpJ:Nat:=285
abbrev qgh:Nat:=286
abbrev qdF:Nat:=287
abbrev qEI:Nat:=288
abbrev qBC:Nat:=289
abbrev qps:Nat:=290
abbrev qEQ:Nat:=291
abbrev qCx:Nat:=292
abbrev qCt:Nat:=293
abbrev qjp:Nat:=294
abbrev qBQ:Nat:=295
abbrev qpG:Nat:=296
abbrev qEz:Nat:=297
abbrev qEw:Nat:=298
abbrev qEv:Nat:=299
abbrev qEN:Nat:=300
abbrev qEE:Nat:=301
abbrev qEF:Nat:=302
abbrev qFj:Nat:=303
abbrev qFc:Nat:=304
abbrev qFe:Nat:=305
abbrev qFi:Nat:=306
abbrev qFt:Nat:=307
abbrev qFb:Nat:=308
abbrev qFs:Nat:=309
abbrev qCU:Nat:=310
abbrev Y1:Nat:=311
abbrev qas:Nat:=312
abbrev qCL:Nat:=313
abbrev qDI:Nat:=314
abbrev qBM:Nat:=315
abbrev qA0:Nat:=316
abbrev qBm:Nat:=317
abbrev qBp:Nat:=318
abbrev qB3:Nat:=319
abbrev qBy:Nat:=320
abbrev qpA:Nat:=321
abbrev qpE:Nat:=322
abbrev qpw:Nat:=323
abbrev qDO:Nat:=324
abbrev qdl:Nat:=325
abbrev qfT:Nat:=326
abbrev qE5:Nat:=327
abbrev qE8:Nat:=328
abbrev qE7:Nat:=329
abbrev qaB:Nat:=330
abbrev qgo:Nat:=331
abbrev Zf:Nat:=332
abbrev Qp:Nat:=333
abbrev Y5:Nat:=334
abbrev qaH:Nat:=335
abbrev qgr:Nat:=336
abbrev qEJ:Nat:=337
abbrev qBt:Nat:=338
abbrev qBD:Nat:=339
abbrev qEO:Nat:=340
abbrev qEP:Nat:=341
abbrev qBS:Nat:=342
abbrev qpF:Nat:=343
abbrev qjs:Nat:=344
abbrev qEM:Nat:=345
abbrev qEB:Nat:=346
abbrev qFu:Nat:=347
abbrev qCB:Nat:=348
abbrev qCV:Nat:=349
abbrev qFx:Nat:=350
abbrev qFf:Nat:=351
abbrev qFv:Nat:=352
abbrev qCK:Nat:=353
abbrev qA7:Nat:=354
abbrev qBf:Nat:=355
abbrev qBE:Nat:=356
abbrev qBl:Nat:=357
abbrev qAT:Nat:=358
abbrev qA8:Nat:=359
abbrev qDM:Nat:=360
abbrev qdm:Nat:=361
abbrev qfW:Nat:=362
abbrev qE9:Nat:=363
abbrev qFa:Nat:=364
abbrev qdM:Nat:=365
abbrev qgq:Nat:=366
abbrev jM:Nat:=367
abbrev qDG:Nat:=368
abbrev qDC:Nat:=369
abbrev qBT:Nat:=370
abbrev qCW:Nat:=371
abbrev qCF:Nat:=372
abbrev qCC:Nat:=373
abbrev qCE:Nat:=374
abbrev qaJ:Nat:=375
abbrev qFw:Nat:=376
abbrev qCS:Nat:=377
abbrev qCR:Nat:=378
abbrev qCN:Nat:=379
abbrev qCO:Nat:=380
abbrev qBZ:Nat:=381
abbrev qBX:Nat:=382
abbrev qBY:Nat:=383
abbrev qBW:Nat:=384
abbrev qDE:Nat:=385
abbrev qBF:Nat:=386
abbrev Zb:Nat:=387
abbrev qau:Nat:=388
abbrev qCi:Nat:=389
abbrev qCo:Nat:=390
abbrev qCe:Nat:=391
abbrev qCh:Nat:=392
abbrev qDR:Nat:=393
abbrev qDV:Nat:=394
abbrev qfU:Nat:=395
abbrev qdy:Nat:=396
abbrev qdz:Nat:=397
abbrev KH:Nat:=398
abbrev KG:Nat:=399
abbrev qdt:Nat:=400
abbrev qCz:Nat:=401
abbrev qCG:Nat:=402
abbrev qDJ:Nat:=403
abbrev qCD:Nat:=404
abbrev qCH:Nat:=405
abbrev qCQ:Nat:=406
abbrev qDk:Nat:=407
abbrev qCM:Nat:=408
abbrev qCP:Nat:=409
abbrev qDl:Nat:=410
abbrev qDD:Nat:=411
abbrev qB0:Nat:=412
abbrev qBh:Nat:=413
abbrev qA6:Nat:=414
abbrev qBc:Nat:=415
abbrev qAX:Nat:=416
abbrev qAR:Nat:=417
abbrev qfX:Nat:=418
abbrev qB5:Nat:=419
abbrev qCj:Nat:=420
abbrev qDT:Nat:=421
abbrev qDm:Nat:=422
abbrev qDn:Nat:=423
abbrev qDK:Nat:=424
abbrev qpr:Nat:=425
abbrev qCr:Nat:=426
abbrev qCs:Nat:=427
abbrev qCq:Nat:=428
abbrev qat:Nat:=429
abbrev qdu:Nat:=430
abbrev ZT:Nat:=431
abbrev qpp:Nat:=432
abbrev qjq:Nat:=433
abbrev qpq:Nat:=434
abbrev qCc:Nat:=435
abbrev qCb:Nat:=436
abbrev qCl:Nat:=437
abbrev qB7:Nat:=438
abbrev qB9:Nat:=439
abbrev qCd:Nat:=440
abbrev qCk:Nat:=441
abbrev qB8:Nat:=442
abbrev qCa:Nat:=443
abbrev qDP:Nat:=444
abbrev qBV:Nat:=445
abbrev qCm:Nat:=446
abbrev qCf:Nat:=447
abbrev qA5:Nat:=448
abbrev qCn:Nat:=449
abbrev qBO:Nat:=450
abbrev qCp:Nat:=451
abbrev qB6:Nat:=452
abbrev qCg:Nat:=453
abbrev qBd:Nat:=454
abbrev qDA:Nat:=455
abbrev qBe:Nat:=456
abbrev qDs:Nat:=457
abbrev qDt:Nat:=458
abbrev qDw:Nat:=459
abbrev qDx:Nat:=460
abbrev qDy:Nat:=461
abbrev qDz:Nat:=462
abbrev qDu:Nat:=463
abbrev qDv:Nat:=464
abbrev qDq:Nat:=465
abbrev qDr:Nat:=466
abbrev qDo:Nat:=467
abbrev qDp:Nat:=468
abbrev qCA:Nat:=469
abbrev qCI:Nat:=470
abbrev qCJ:Nat:=471
abbrev qE6:Nat:=472
abbrev qCy:Nat:=473
abbrev qFy:Nat:=474
abbrev qFz:Nat:=475
abbrev qFA:Nat:=476
abbrev qFB:Nat:=477
abbrev qFC:Nat:=478
abbrev qFD:Nat:=479
abbrev qFE:Nat:=480
abbrev qAQ:Nat:=481
def qje:AC:=
 (.keep [3,4,5,6] (.seq (.dreg [⟨0,[(3,0)]⟩,⟨2,[(0,0),(0,1),(0,2),(0,3),(10,0),(10,1),(10,2),(10,3),(17,0)]⟩,⟨0,[(3,0)]⟩,⟨2,[(0,0),(0,1),(0,2),(0,3),(10,0),(10,1),(10,2),(10,3),(19,0)]⟩,⟨0,[]⟩,⟨0,[]⟩,⟨0,[(4,0)]⟩,⟨2,[(0,0),(0,1),(0,2),(0,3),(12,0),(12,1),(12,2),(12,3),(23,0)]⟩,⟨0,[(4,0)]⟩,⟨2,[(0,0),(0,1),(0,2),(0,3),(12,0),(12,1),(12,2),(12,3),(25,0)]⟩,⟨0,[]⟩,⟨0,[]⟩,⟨0,[]⟩,⟨0,[(5,0)]⟩,⟨2,[(0,0),(0,1),(0,2),(0,3),(14,0),(14,1),(14,2),(14,3),(30,0)]⟩,⟨0,[(5,0)]⟩,⟨2,[(0,0),(0,1),(0,2),(0,3),(14,0),(14,1),(14,2),(14,3),(32,0)]⟩,⟨0,[]⟩,⟨0,[]⟩,⟨0,[]⟩,⟨0,[(6,0)]⟩,⟨2,[(0,0),(0,1),(0,2),(0,3),(16,0),(16,1),(16,2),(16,3),(37,0)]⟩,⟨0,[(6,0)]⟩,⟨2,[(0,0),(0,1),(0,2),(0,3),(16,0),(16,1),(16,2),(16,3),(39,0)]⟩,⟨0,[]⟩,⟨0,[]⟩,⟨0,[]⟩] [.ldq 17 true 4 (.t 3),.call (some 18) (.c (Fc qap)) [(.t 17)] (.ro false),.ldq 19 true 4 (.t 3),.call (some 20) (.c (Fc qdH)) [(.t 19)] (.ro false),.bin 21 .eql (.t 18) (.t 20),.mv 22 (.t 21),.gd 22 true (some 23) (.ldq 23 true 9 (.t 4)),.gd 22 true (some 24) (.call (some 24) (.c (Fc qdk)) [(.t 23)] (.ro false)),.gd 22 true (some 25) (.ldq 25 true 9 (.t 4)),.gd 22 true (some 26) (.call (some 26) (.c (Fc qdE)) [(.t 25)] (.ro false)),.gd 22 true (some 27) (.bin 27 .eql (.t 24) (.t 26)),.pick 28 (.t 22) (.t 27) (.c (B false)),.mv 29 (.t 28),.gd 29 true (some 30) (.ldq 30 true 2 (.t 5)),.gd 29 true (some 31) (.call (some 31) (.c (Fc qfS)) [(.t 30)] (.ro false)),.gd 29 true (some 32) (.ldq 32 true 2 (.t 5)),.gd 29 true (some 33) (.call (some 33) (.c (Fc qge)) [(.t 32)] (.ro false)),.gd 29 true (some 34) (.bin 34 .eql (.t 31) (.t 33)),.pick 35 (.t 29) (.t 34) (.c (B false)),.mv 36 (.t 35),.gd 36 true (some 37) (.ldq 37 true 4 (.t 6)),.gd 36 true (some 38) (.call (some 38) (.c (Fc qao)) [(.t 37)] (.ro false)),.gd 36 true (some 39) (.ldq 39 true 4 (.t 6)),.gd 36 true (some 40) (.call (some 40) (.c (Fc qax)) [(.t 39)] (.ro false)),.gd 36 true (some 41) (.bin 41 .eql (.t 38) (.t 40)),.pick 42 (.t 36) (.t 41) (.c (B false)),.mv 2 (.t 42)]) (.keep [2] .ret)))
def qjf:AC:=
 (.keep [0,3] (.seq (.reg [.mv 11 (.t 0),.call (some 12) (.c (Fc qf8)) [(.t 11)] (.ro true),.new 4 (.c (.a [(I 0),(S []),(I 0),(.n 4),(I 0),(S []),(I 0),(.n 4),(S [])])),.st 9 (.t 4) (.t 12)]) (.keep [0,3,4] (.seq (.reg [.mv 13 (.t 0),.call (some 14) (.c (Fc qf9)) [(.t 13)] (.ro true),.new 5 (.c (.a [(.n 9),(.n 1)])),.st 2 (.t 5) (.t 14)]) (.keep [0,3,4,5] (.seq (.reg [.mv 15 (.t 0),.call (some 16) (.c (Fc qga)) [(.t 15)] (.ro true),.new 6 (.c (.a [(I 0),(S []),(I 0),(.n 4)])),.st 4 (.t 6) (.t 16)]) qje))))))
def YF:AF where
 nargs:=1
 ntmps:=43
 res:=[.tmp 2]
 body:=(.seq (.reg [.mv 2 (.c (B false))]) (.seq (.seq (.reg [.mv 7 (.t 0),.call (some 8) (.c (Fc qfZ)) [(.t 7)] (.ro true)]) (.cond (.t 8) (.seq (.reg [.mv 2 (.c (B true))]) (.keep [2] .ret)) .skip)) (.keep [0] (.seq (.reg [.mv 9 (.t 0),.call (some 10) (.c (Fc qgc)) [(.t 9)] (.ro true),.new 3 (.c (.a [(I 0),(S []),(I 0),(.n 4)])),.st 4 (.t 3) (.t 10)]) qjf))))
def qcV:AF where
 nargs:=2
 ntmps:=18
 res:=[.tmp 4]
 body:=(.seq (.reg [.new 2 (.t 0),.mv 4 (.c (I 0))]) (.seq (.reg [.fa 5 (.t 2) 0,.ld 6 false 1 (.t 5),.mv 7 (.t 1),.call (some 8) (.c (Fc qpy)) [(.t 6),(.t 7)] (.ro false),.mv 1 (.t 8)]) (.keep [1,2] (.seq (.seq (.reg [.mv 9 (.t 1),.bin 10 .lss (.t 9) (.c (I 0))]) (.cond (.t 10) (.seq (.reg [.mv 4 (.c (I (-1)))]) (.keep [4] .ret)) .skip)) (.keep [1,2] (.seq (.reg [.fa 11 (.t 2) 1,.ld 12 false 1 (.t 11),.mv 13 (.t 1),.call (some 14) (.c (Fc qpz)) [(.t 12),(.t 13)] (.ro false),.mv 1 (.t 14)]) (.keep [1] (.seq (.seq (.reg [.mv 15 (.t 1),.bin 16 .lss (.t 15) (.c (I 0))]) (.cond (.t 16) (.seq (.reg [.mv 4 (.c (I (-1)))]) (.keep [4] .ret)) .skip)) (.keep [1] (.seq (.reg [.mv 17 (.t 1),.mv 4 (.t 17)]) (.keep [4] .ret)))))))))))
def qc1:AF where
 nargs:=1
 ntmps:=13
 res:=[.cell 2 true 2]
 body:=(.seq (.reg [.new 1 (.t 0),.new 2 (.c (.a [(.n 9),(.n 1)]))]) (.seq (.reg [.new 3 (.c (.a [(.n 9),(.n 1)]))]) (.seq (.reg [.fa 4 (.t 1) 0,.ld 5 false 1 (.t 4),.call (some 6) (.c (Fc qpC)) [(.t 5)] (.ro false),.fa 7 (.t 3) 0,.st 1 (.t 7) (.t 6)]) (.keep [1,2,3] (.seq (.reg [.fa 8 (.t 1) 1,.ld 9 false 1 (.t 8),.call (some 10) (.c (Fc qpD)) [(.t 9)] (.ro false),.fa 11 (.t 3) 1,.st 1 (.t 11) (.t 10)]) (.keep [2,3] (.seq (.reg [.ld 12 true 2 (.t 3),.st 2 (.t 2) (.t 12)]) (.keep [2] .ret))))))))
def qcP:AF where
 nargs:=2
 ntmps:=17
 res:=[.tmp 4]
 body:=(.seq (.reg [.new 2 (.t 0),.new 3 (.t 1),.mv 4 (.c (B false))]) (.seq (.seq (.reg [.fa 5 (.t 2) 0,.ld 6 false 1 (.t 5),.fa 7 (.t 3) 0,.ld 8 false 1 (.t 7),.call (some 9) (.c (Fc qpu)) [(.t 6),(.t 8)] (.ro true),.un 10 .not (.t 9)]) (.keep [2,3,10] (.cond (.t 10) (.seq (.reg [.mv 4 (.c (B false))]) (.keep [4] .ret)) .skip))) (.keep [2,3] (.seq (.seq (.reg [.fa 11 (.t 2) 1,.ld 12 false 1 (.t 11),.fa 13 (.t 3) 1,.ld 14 false 1 (.t 13),.call (some 15) (.c (Fc qpv)) [(.t 12),(.t 14)] (.ro true),.un 16 .not (.t 15)]) (.keep [16] (.cond (.t 16) (.seq (.reg [.mv 4 (.c (B false))]) (.keep [4] .ret)) .skip))) (.keep [] (.seq (.reg [.mv 4 (.c (B true))]) (.keep [4] .ret)))))))
def X2:AF where
 nargs:=1
 ntmps:=6
 res:=[.tmp 2]
 body:=(.seq (.reg [.mv 2 (.c (B false))]) (.seq (.reg [.mv 3 (.t 0),.len 4 (.t 3),.bin 5 .gtr (.t 4) (.c (I 1048576)),.mv 2 (.t 5)]) (.keep [2] .ret)))
def YJ:AF where
 nargs:=1
 ntmps:=21
 res:=[.cell 2 true 4]
 body:=(.seq (.reg [.new 2 (.c (.a [(I 0),(S []),(I 0),(.n 4)]))]) (.seq (.reg [.mv 7 (.t 0),.call (some 8) (.c (Fc ZW)) [(.t 7)] (.ro false),.mv 3 (.t 8)]) (.seq (.seq (.reg [.mv 9 (.t 3),.call (some 10) (.c (Fc KK)) [(.t 9),(.c (I 2))] (.io true)]) (.cond (.t 10) (.seq (.reg [.mv 12 (.t 0),.call (some 13) (.c (Fc qgb)) [(.t 12)] (.ro false),.call (some 14) (.c (Fc qay)) [(.t 13)] (.ro false),.mv 11 (.t 14),.ext 15 (.t 11) 0,.ext 16 (.t 11) 1,.ext 17 (.t 11) 2,.new 4 (.c (.a [(I 0),(S []),(I 0),(.n 4)])),.st 4 (.t 4) (.t 15),.mv 5 (.t 16),.mv 6 (.t 17)]) (.keep [2,4] (.seq (.reg [.ld 18 true 4 (.t 4),.st 4 (.t 2) (.t 18)]) (.keep [2] .ret)))) .skip)) (.keep [2,3] (.seq (.reg [.mv 19 (.t 3),.call (some 20) (.c (Fc Qn)) [(.t 19)] (.io false),.st 4 (.t 2) (.t 20)]) (.keep [2] .ret))))))
def X5:AF where
 nargs:=1
 ntmps:=5
 res:=[.cell 2 true 9]
 body:=(.seq (.reg [.new 2 (.c (.a [(I 0),(S []),(I 0),(.n 4),(I 0),(S []),(I 0),(.n 4),(S [])]))]) (.seq (.reg [.mv 3 (.t 0),.call (some 4) (.c (Fc qf7)) [(.t 3)] (.ro false),.st 9 (.t 2) (.t 4)]) (.keep [2] .ret)))
def X6:AF where
 nargs:=1
 ntmps:=6
 res:=[.cell 2 true 2]
 body:=(.seq (.reg [.new 2 (.c (.a [(.n 9),(.n 1)]))]) (.seq (.reg [.mv 3 (.t 0),.call (some 4) (.c (Fc ZW)) [(.t 3)] (.ro false),.call (some 5) (.c (Fc qgw)) [(.t 4)] (.io false),.st 2 (.t 2) (.t 5)]) (.keep [2] .ret)))
def X7:AF where
 nargs:=1
 ntmps:=6
 res:=[.cell 2 true 4]
 body:=(.seq (.reg [.new 2 (.c (.a [(I 0),(S []),(I 0),(.n 4)]))]) (.seq (.reg [.mv 3 (.t 0),.call (some 4) (.c (Fc ZW)) [(.t 3)] (.ro false),.call (some 5) (.c (Fc Qn)) [(.t 4)] (.io false),.st 4 (.t 2) (.t 5)]) (.keep [2] .ret)))
def YA:AF where
 nargs:=1
 ntmps:=8
 res:=[.tmp 2]
 body:=(.seq (.reg [.new 1 (.t 0),.mv 2 (.c (S []))]) (.seq (.seq (.reg [.ld 3 true 4 (.t 1),.call (some 4) (.c (Fc YZ)) [(.t 3)] (.ro true),.un 5 .not (.t 4)]) (.cond (.t 5) (.seq (.reg [.mv 2 (.c (S []))]) (.keep [2] .ret)) .skip)) (.keep [1] (.seq (.reg [.ld 6 true 4 (.t 1),.call (some 7) (.c (Fc KI)) [(.t 6)] (.ro false),.mv 2 (.t 7)]) (.keep [2] .ret)))))
def YN:AF where
 nargs:=1
 ntmps:=8
 res:=[.tmp 2]
 body:=(.seq (.reg [.new 1 (.t 0),.mv 2 (.c (S []))]) (.seq (.seq (.reg [.ld 3 true 4 (.t 1),.call (some 4) (.c (Fc je)) [(.t 3)] (.ro true),.un 5 .not (.t 4)]) (.cond (.t 5) (.seq (.reg [.mv 2 (.c (S []))]) (.keep [2] .ret)) .skip)) (.keep [1] (.seq (.reg [.ld 6 true 4 (.t 1),.call (some 7) (.c (Fc Y6)) [(.t 6)] (.ro false),.mv 2 (.t 7)]) (.keep [2] .ret)))))
def qed:AC:=(.seq (.seq (.reg [.ld 37 true 4 (.t 4),.call (some 38) (.c (Fc qdr)) [(.t 37),(.c (S [44])),(.c (I 2))] (.ro true)]) (.cond (.t 38) .skip (.keep [3,4] (.exit 0)))) (.keep [3,4] (.seq (.block 1 (.reg [.mv 43 (.t 3),.fa 44 (.t 4) 3,.ld 45 false 1 (.t 44),.ia 46 4 (.t 45) (.c (I 0)),.ld 47 true 4 (.t 46),.call (some 48) (.c (Fc Za)) [(.t 47),(.c (I 999))] (.ro false),.bin 49 .add (.c (S [10,32,32,32,32])) (.t 48),.bin 50 .add (.t 49) (.c (S [44])),.bin 51 .add (.t 43) (.t 50),.mv 3 (.t 51)])) (.keep [3,4] (.reg [.fa 39 (.t 4) 3,.ld 40 false 1 (.t 39),.ia 41 4 (.t 40) (.c (I 1)),.ld 42 true 4 (.t 41),.st 4 (.t 4) (.t 42)])))))
def qaK:Lp:=⟨[3,4],[(1,0)],qed⟩
@[go_sem] theorem qFT:qaK.ls=[3,4]:=rfl
@[go_sem] theorem qFS:qaK.ks=[(1,0)]:=rfl
@[go_sem] theorem qFR:qaK.body=qed:=rfl
def Qb:AF where
 nargs:=1
 ntmps:=58
 res:=[.tmp 2]
 body:=(.seq (.reg [.new 1 (.t 0),.mv 2 (.c (S []))]) (.seq (.seq (.reg [.fa 5 (.t 1) 0,.ld 6 true 4 (.t 5),.call (some 7) (.c (Fc YZ)) [(.t 6)] (.ro true),.un 8 .not (.t 7),.mv 9 (.t 8),.gd 9 false (some 10) (.fa 10 (.t 1) 4),.gd 9 false (some 11) (.ld 11 true 4 (.t 10)),.gd 9 false (some 12) (.call (some 12) (.c (Fc YZ)) [(.t 11)] (.ro true)),.gd 9 false (some 13) (.un 13 .not (.t 12)),.pick 14 (.t 9) (.c (B true)) (.t 13),.mv 15 (.t 14),.gd 15 false (some 16) (.fa 16 (.t 1) 0),.gd 15 false (some 17) (.ld 17 true 4 (.t 16)),.gd 15 false (some 18) (.call (some 18) (.c (Fc qao)) [(.t 17)] (.ro true)),.gd 15 false (some 19) (.bin 19 .gtr (.t 18) (.c (I 1199))),.pick 20 (.t 15) (.c (B true)) (.t 19)]) (.keep [1,20] (.cond (.t 20) (.seq (.reg [.ld 21 true 9 (.t 1),.call (some 22) (.c (Fc qdj)) [(.t 21)] (.ro false),.call (some 23) (.c (Fc qap)) [(.t 22)] (.ro false),.bin 24 .add (.t 23) (.c (S [32,46,10])),.mv 2 (.t 24)]) (.keep [2] .ret)) .skip))) (.keep [1] (.seq (.reg [.fa 25 (.t 1) 0,.ld 26 true 4 (.t 25),.call (some 27) (.c (Fc qap)) [(.t 26)] (.ro false),.mv 3 (.t 27)]) (.keep [1,3] (.seq (.seq (.reg [.fa 28 (.t 1) 4,.ld 29 true 4 (.t 28),.call (some 30) (.c (Fc qar)) [(.t 29),(.c (S [116,114,117,101]))] (.ro true)]) (.cond (.t 30) (.seq (.reg [.mv 31 (.t 3),.bin 32 .add (.t 31) (.c (S [46,10])),.mv 2 (.t 32)]) (.keep [2] .ret)) .skip)) (.keep [1,3] (.seq (.reg [.mv 33 (.t 3),.bin 34 .add (.t 33) (.c (S [32,58,45])),.mv 3 (.t 34)]) (.seq (.reg [.fa 35 (.t 1) 4,.ld 36 true 4 (.t 35),.new 4 (.c (.a [(I 0),(S []),(I 0),(.n 4)])),.st 4 (.t 4) (.t 36)]) (.keep [3,4] (.seq (.block 0 (lpC qaK)) (.keep [3,4] (.seq (.reg [.mv 52 (.t 3),.bin 53 .add (.t 52) (.c (S [10,32,32,32,32])),.ld 54 true 4 (.t 4),.call (some 55) (.c (Fc Za)) [(.t 54),(.c (I 999))] (.ro false),.bin 56 .add (.t 53) (.t 55),.bin 57 .add (.t 56) (.c (S [46,10])),.mv 2 (.t 57)]) (.keep [2] .ret))))))))))))))
def qei:AC:=(.seq (.seq (.reg [.ld 37 true 4 (.t 4),.call (some 38) (.c (Fc ZX)) [(.t 37),(.c (S [44])),(.c (I 2))] (.ro true)]) (.cond (.t 38) .skip (.keep [3,4] (.exit 0)))) (.keep [3,4] (.block 1 (.seq (.reg [.mv 39 (.t 3),.bin 40 .add (.t 39) (.c (S [10,32,32,32,32])),.fa 41 (.t 4) 3,.ld 42 false 1 (.t 41),.ia 43 4 (.t 42) (.c (I 0)),.ld 44 true 4 (.t 43),.call (some 45) (.c (Fc xd)) [(.t 44),(.c (I 999))] (.ro false),.bin 46 .add (.t 40) (.t 45),.bin 47 .add (.t 46) (.c (S [44])),.mv 3 (.t 47)]) (.keep [3,4] (.reg [.fa 48 (.t 4) 3,.ld 49 false 1 (.t 48),.ia 50 4 (.t 49) (.c (I 1)),.ld 51 true 4 (.t 50),.st 4 (.t 4) (.t 51)]))))))
def qaT:Lp:=⟨[3,4],[(1,0)],qei⟩
@[go_sem] theorem qHi:qaT.ls=[3,4]:=rfl
@[go_sem] theorem qHh:qaT.ks=[(1,0)]:=rfl
@[go_sem] theorem qHg:qaT.body=qei:=rfl
def Qe:AF where
 nargs:=1
 ntmps:=58
 res:=[.tmp 2]
 body:=(.seq (.reg [.new 1 (.t 0),.mv 2 (.c (S []))]) (.seq (.seq (.reg [.fa 5 (.t 1) 0,.ld 6 true 4 (.t 5),.call (some 7) (.c (Fc je)) [(.t 6)] (.ro true),.un 8 .not (.t 7),.mv 9 (.t 8),.gd 9 false (some 10) (.fa 10 (.t 1) 4),.gd 9 false (some 11) (.ld 11 true 4 (.t 10)),.gd 9 false (some 12) (.call (some 12) (.c (Fc je)) [(.t 11)] (.ro true)),.gd 9 false (some 13) (.un 13 .not (.t 12)),.pick 14 (.t 9) (.c (B true)) (.t 13),.mv 15 (.t 14),.gd 15 false (some 16) (.fa 16 (.t 1) 0),.gd 15 false (some 17) (.ld 17 true 4 (.t 16)),.gd 15 false (some 18) (.call (some 18) (.c (Fc qax)) [(.t 17)] (.ro true)),.gd 15 false (some 19) (.bin 19 .gtr (.t 18) (.c (I 1199))),.pick 20 (.t 15) (.c (B true)) (.t 19)]) (.keep [1,20] (.cond (.t 20) (.seq (.reg [.ld 21 true 9 (.t 1),.call (some 22) (.c (Fc qdD)) [(.t 21)] (.ro false),.call (some 23) (.c (Fc qdH)) [(.t 22)] (.ro false),.bin 24 .add (.t 23) (.c (S [32,46,10])),.mv 2 (.t 24)]) (.keep [2] .ret)) .skip))) (.keep [1] (.seq (.reg [.fa 25 (.t 1) 0,.ld 26 true 4 (.t 25),.call (some 27) (.c (Fc Y6)) [(.t 26)] (.ro false),.mv 3 (.t 27)]) (.keep [1,3] (.seq (.seq (.reg [.fa 28 (.t 1) 4,.ld 29 true 4 (.t 28),.call (some 30) (.c (Fc qgD)) [(.t 29)] (.ro true)]) (.cond (.t 30) (.seq (.reg [.mv 31 (.t 3),.bin 32 .add (.t 31) (.c (S [46,10])),.mv 2 (.t 32)]) (.keep [2] .ret)) .skip)) (.keep [1,3] (.seq (.reg [.mv 33 (.t 3),.bin 34 .add (.t 33) (.c (S [32,58,45])),.mv 3 (.t 34)]) (.seq (.reg [.fa 35 (.t 1) 4,.ld 36 true 4 (.t 35),.new 4 (.c (.a [(I 0),(S []),(I 0),(.n 4)])),.st 4 (.t 4) (.t 36)]) (.keep [3,4] (.seq (.block 0 (lpC qaT)) (.keep [3,4] (.seq (.reg [.mv 52 (.t 3),.bin 53 .add (.t 52) (.c (S [10,32,32,32,32])),.ld 54 true 4 (.t 4),.call (some 55) (.c (Fc xd)) [(.t 54),(.c (I 999))] (.ro false),.bin 56 .add (.t 53) (.t 55),.bin 57 .add (.t 56) (.c (S [46,10])),.mv 2 (.t 57)]) (.keep [2] .ret))))))))))))))
def qee:AC:=(.seq (.reg [.bin 10 .lss (.t 9) (.t 8)]) (.seq (.cond (.t 10) .skip (.keep [3] (.exit 0))) (.keep [3,7,8,9] (.seq (.block 1 (.seq (.reg [.ia 11 9 (.t 7) (.t 9),.ld 12 true 9 (.t 11),.new 5 (.c (.a [(I 0),(S []),(I 0),(.n 4),(I 0),(S []),(I 0),(.n 4),(S [])])),.st 9 (.t 5) (.t 12)]) (.keep [3,5,7,8,9] (.reg [.mv 13 (.t 3),.ld 14 true 9 (.t 5),.call (some 15) (.c (Fc qdk)) [(.t 14)] (.ro false),.bin 16 .add (.t 13) (.t 15),.mv 3 (.t 16)])))) (.keep [3,7,8,9] (.reg [.bin 17 .add (.t 9) (.c (I 1)),.mv 9 (.t 17)]))))))
def qaL:Lp:=⟨[3,7,8,9],[(1,0)],qee⟩
@[go_sem] theorem qFW:qaL.ls=[3,7,8,9]:=rfl
@[go_sem] theorem qFV:qaL.ks=[(1,0)]:=rfl
@[go_sem] theorem qFU:qaL.body=qee:=rfl
def XM:AF where
 nargs:=1
 ntmps:=19
 res:=[.tmp 2]
 body:=(.seq (.reg [.new 1 (.t 0),.mv 2 (.c (S []))]) (.seq (.reg [.mv 3 (.c (S []))]) (.seq (.seq (.reg [.fa 6 (.t 1) 0,.ld 7 false 1 (.t 6),.len 8 (.t 7),.mv 9 (.c (I 0))]) (.keep [3,7,8,9] (.block 0 (lpC qaL)))) (.keep [3] (.seq (.reg [.mv 18 (.t 3),.mv 2 (.t 18)]) (.keep [2] .ret))))))
def qej:AC:=(.seq (.seq (.reg [.mv 5 (.t 4),.fa 6 (.t 1) 0,.ld 7 false 1 (.t 6),.len 8 (.t 7),.bin 9 .lss (.t 5) (.t 8)]) (.keep [1,3,4,9] (.cond (.t 9) .skip (.keep [3] (.exit 0))))) (.keep [1,3,4] (.seq (.block 1 (.reg [.mv 12 (.t 3),.fa 13 (.t 1) 0,.ld 14 false 1 (.t 13),.mv 15 (.t 4),.ia 16 9 (.t 14) (.t 15),.ld 17 true 9 (.t 16),.call (some 18) (.c (Fc qdE)) [(.t 17)] (.ro false),.bin 19 .add (.t 12) (.t 18),.mv 3 (.t 19)])) (.keep [1,3,4] (.reg [.mv 10 (.t 4),.bin 11 .add (.t 10) (.c (I 1)),.mv 4 (.t 11)])))))
def qaU:Lp:=⟨[1,3,4],[(1,0)],qej⟩
@[go_sem] theorem qHl:qaU.ls=[1,3,4]:=rfl
@[go_sem] theorem qHk:qaU.ks=[(1,0)]:=rfl
@[go_sem] theorem qHj:qaU.body=qej:=rfl
def X9:AF where
 nargs:=1
 ntmps:=21
 res:=[.tmp 2]
 body:=(.seq (.reg [.new 1 (.t 0),.mv 2 (.c (S []))]) (.seq (.reg [.mv 3 (.c (S []))]) (.seq (.seq (.reg [.mv 4 (.c (I 0))]) (.block 0 (lpC qaU))) (.keep [3] (.seq (.reg [.mv 20 (.t 3),.mv 2 (.t 20)]) (.keep [2] .ret))))))
def Yx:AF where
 nargs:=1
 ntmps:=16
 res:=[.tmp 2]
 body:=(.seq (.reg [.new 1 (.t 0),.mv 2 (.c (I 0))]) (.seq (.seq (.reg [.ld 5 true 4 (.t 1),.call (some 6) (.c (Fc qdp)) [(.t 5)] (.ro true),.un 7 .not (.t 6)]) (.cond (.t 7) (.seq (.reg [.mv 2 (.c (I 0))]) (.keep [2] .ret)) .skip)) (.keep [1] (.seq (.reg [.fa 9 (.t 1) 1,.ld 10 false 1 (.t 9),.call (some 11) (.c (Fc ZS)) [(.t 10)] (.ro false),.mv 8 (.t 11),.ext 12 (.t 8) 0,.ext 13 (.t 8) 1,.new 3 (.c (.a [(S []),(I 0),(I 0),(I 0)])),.st 4 (.t 3) (.t 12),.mv 4 (.t 13)]) (.keep [3] (.seq (.reg [.fa 14 (.t 3) 1,.ld 15 false 1 (.t 14),.mv 2 (.t 15)]) (.keep [2] .ret)))))))
def Q1:AF where
 nargs:=1
 ntmps:=24
 res:=[.tmp 2]
 body:=(.seq (.reg [.new 1 (.t 0),.mv 2 (.c (I 0))]) (.seq (.seq (.reg [.fa 5 (.t 1) 0,.ld 6 false 1 (.t 5),.bin 7 .neq (.t 6) (.c (I 4)),.mv 8 (.t 7),.gd 8 false (some 9) (.fa 9 (.t 1) 3),.gd 8 false (some 10) (.ld 10 false 1 (.t 9)),.gd 8 false (some 11) (.len 11 (.t 10)),.gd 8 false (some 12) (.bin 12 .neq (.t 11) (.c (I 2))),.pick 13 (.t 8) (.c (B true)) (.t 12)]) (.keep [1,13] (.cond (.t 13) (.seq (.reg [.mv 2 (.c (I 0))]) (.keep [2] .ret)) .skip))) (.keep [1] (.seq (.reg [.fa 15 (.t 1) 1,.ld 16 false 1 (.t 15),.call (some 17) (.c (Fc Zc)) [(.t 16)] (.ro false),.mv 14 (.t 17),.ext 18 (.t 14) 0,.ext 19 (.t 14) 1,.new 3 (.c (.a [(S []),(I 0),(I 0),(I 0)])),.st 4 (.t 3) (.t 18),.mv 4 (.t 19)]) (.keep [3,4] (.seq (.seq (.reg [.mv 20 (.t 4),.un 21 .not (.t 20)]) (.cond (.t 21) (.seq (.reg [.mv 2 (.c (I 0))]) (.keep [2] .ret)) .skip)) (.keep [3] (.seq (.reg [.fa 22 (.t 3) 1,.ld 23 false 1 (.t 22),.mv 2 (.t 23)]) (.keep [2] .ret)))))))))
def Q2:AF where
 nargs:=1
 ntmps:=35
 res:=[.cell 2 true 4,.tmp 3,.tmp 4]
 body:=(.seq (.reg [.new 2 (.c (.a [(I 0),(S []),(I 0),(.n 4)])),.mv 3 (.c (.n 1)),.mv 4 (.c (B false))]) (.seq (.reg [.mv 12 (.t 0),.call (some 13) (.c (Fc qdG)) [(.t 12)] (.ro false),.mv 11 (.t 13),.ext 14 (.t 11) 0,.ext 15 (.t 11) 1,.mv 5 (.t 14),.mv 6 (.t 15)]) (.keep [2,5] (.seq (.reg [.mv 17 (.t 5),.call (some 18) (.c (Fc ZV)) [(.t 17),(.c (I 0))] (.ro false),.mv 16 (.t 18),.ext 19 (.t 16) 0,.ext 20 (.t 16) 1,.ext 21 (.t 16) 2,.ext 22 (.t 16) 3,.new 7 (.c (.a [(I 0),(S []),(I 0),(.n 4)])),.st 4 (.t 7) (.t 19),.mv 8 (.t 20),.mv 9 (.t 21),.mv 10 (.t 22)]) (.keep [2,5,7,8,9,10] (.seq (.seq (.reg [.mv 23 (.t 10),.un 24 .not (.t 23),.mv 25 (.t 24),.gd 25 false (some 26) (.mv 26 (.t 9)),.gd 25 false (some 27) (.mv 27 (.t 5)),.gd 25 false (some 28) (.len 28 (.t 27)),.gd 25 false (some 29) (.bin 29 .neq (.t 26) (.t 28)),.pick 30 (.t 25) (.c (B true)) (.t 29)]) (.keep [2,7,8,30] (.cond (.t 30) (.seq (.reg [.build 31 (.a [(I 0),(S []),(I 0),(.n 4)]) [],.mks 32 1 [],.st 4 (.t 2) (.t 31),.mv 3 (.t 32),.mv 4 (.c (B false))]) (.keep [2,3,4] .ret)) .skip))) (.keep [2,7,8] (.seq (.reg [.ld 33 true 4 (.t 7),.mv 34 (.t 8),.st 4 (.t 2) (.t 33),.mv 3 (.t 34),.mv 4 (.c (B true))]) (.keep [2,3,4] .ret)))))))))
def QZ:AF where
 nargs:=2
 ntmps:=17
 res:=[.cell 4 true 9,.tmp 5]
 body:=(.seq (.reg [.new 2 (.t 0),.new 4 (.c (.a [(I 0),(S []),(I 0),(.n 4),(I 0),(S []),(I 0),(.n 4),(S [])])),.mv 5 (.c (B false))]) (.seq (.reg [.ld 9 true 4 (.t 2),.mv 10 (.t 1),.call (some 11) (.c (Fc qgy)) [(.t 9),(.t 10)] (.ro false),.mv 8 (.t 11),.ext 12 (.t 8) 0,.ext 13 (.t 8) 1,.new 6 (.c (.a [(I 0),(S []),(I 0),(.n 4),(I 0),(S []),(I 0),(.n 4),(S [])])),.st 9 (.t 6) (.t 12),.mv 7 (.t 13)]) (.keep [4,6,7] (.seq (.reg [.ld 14 true 9 (.t 6),.call (some 15) (.c (Fc qdO)) [(.t 14)] (.ro false),.mv 16 (.t 7),.st 9 (.t 4) (.t 15),.mv 5 (.t 16)]) (.keep [4,5] .ret)))))
def X3:AF where
 nargs:=1
 ntmps:=8
 res:=[.cell 2 true 4]
 body:=(.seq (.reg [.new 1 (.t 0),.new 2 (.c (.a [(I 0),(S []),(I 0),(.n 4)]))]) (.seq (.reg [.ld 4 true 9 (.t 1),.call (some 5) (.c (Fc qgz)) [(.t 4)] (.ro false),.new 3 (.c (.a [(I 0),(S []),(I 0),(.n 4)])),.st 4 (.t 3) (.t 5)]) (.keep [2,3] (.seq (.reg [.ld 6 true 4 (.t 3),.call (some 7) (.c (Fc ZY)) [(.t 6)] (.ro false),.st 4 (.t 2) (.t 7)]) (.keep [2] .ret)))))
def YO:AF where
 nargs:=1
 ntmps:=8
 res:=[.tmp 2]
 body:=(.seq (.reg [.new 1 (.t 0),.mv 2 (.c (S []))]) (.seq (.seq (.reg [.ld 3 true 4 (.t 1),.call (some 4) (.c (Fc je)) [(.t 3)] (.ro true),.un 5 .not (.t 4)]) (.cond (.t 5) (.seq (.reg [.mv 2 (.c (S []))]) (.keep [2] .ret)) .skip)) (.keep [1] (.seq (.reg [.ld 6 true 4 (.t 1),.call (some 7) (.c (Fc xt)) [(.t 6)] (.ro false),.mv 2 (.t 7)]) (.keep [2] .ret)))))
def qbf:AC:=(.seq (.seq (.reg [.mv 4 (.t 3),.fa 5 (.t 1) 0,.ld 6 false 1 (.t 5),.len 7 (.t 6),.bin 8 .lss (.t 4) (.t 7)]) (.keep [1,3,8] (.cond (.t 8) .skip (.keep [1] (.exit 0))))) (.keep [1,3] (.seq (.block 1 (.seq (.reg [.fa 11 (.t 1) 0,.ld 12 false 1 (.t 11),.mv 13 (.t 3),.ia 14 9 (.t 12) (.t 13),.ld 15 true 9 (.t 14),.call (some 16) (.c (Fc qgx)) [(.t 15)] (.ro true),.un 17 .not (.t 16)]) (.keep [1,3,17] (.cond (.t 17) (.seq (.reg [.mv 2 (.c (B false))]) (.keep [2] .ret)) .skip)))) (.keep [1,3] (.reg [.mv 9 (.t 3),.bin 10 .add (.t 9) (.c (I 1)),.mv 3 (.t 10)])))))
def qaR:Lp:=⟨[1,3],[(1,0)],qbf⟩
@[go_sem] theorem qHc:qaR.ls=[1,3]:=rfl
@[go_sem] theorem qHb:qaR.ks=[(1,0)]:=rfl
@[go_sem] theorem qHa:qaR.body=qbf:=rfl
def ZG:AF where
 nargs:=1
 ntmps:=28
 res:=[.tmp 2]
 body:=(.seq (.reg [.new 1 (.t 0),.mv 2 (.c (B false))]) (.seq (.seq (.reg [.mv 3 (.c (I 0))]) (.block 0 (lpC qaR))) (.keep [1] (.seq (.reg [.fa 18 (.t 1) 0,.ld 19 false 1 (.t 18),.len 20 (.t 19),.bin 21 .leq (.t 20) (.c (I 120)),.mv 22 (.t 21),.gd 22 true (some 23) (.fa 23 (.t 1) 1),.gd 22 true (some 24) (.ld 24 false 1 (.t 23)),.gd 22 true (some 25) (.len 25 (.t 24)),.gd 22 true (some 26) (.bin 26 .leq (.t 25) (.c (I 40))),.pick 27 (.t 22) (.t 26) (.c (B false)),.mv 2 (.t 27)]) (.keep [2] .ret)))))
def qcq:AF where
 nargs:=1
 ntmps:=18
 res:=[.cell 2 true 9]
 body:=(.seq (.reg [.new 1 (.t 0),.new 2 (.c (.a [(I 0),(S []),(I 0),(.n 4),(I 0),(S []),(I 0),(.n 4),(S [])]))]) (.seq (.reg [.ld 4 true 9 (.t 1),.call (some 5) (.c (Fc qdj)) [(.t 4)] (.ro false),.call (some 6) (.c (Fc qpm)) [(.t 5),(.c (I 0))] (.ro false),.new 3 (.c (.a [(I 0),(S []),(I 0),(.n 4)])),.st 4 (.t 3) (.t 6)]) (.keep [1,2,3] (.seq (.opn [(500000,(6,0),0),(500001,(6,0),1)] (.dreg [⟨0,[]⟩,⟨0,[(3,0)]⟩,⟨0,[(0,0),(0,1),(0,2),(0,3),(4,0),(5,0),(5,1),(5,2),(5,3),(6,0),(6,1),(6,2),(6,3),(8,0)]⟩,⟨0,[(0,0),(0,1),(0,2),(0,3),(1,0),(3,0),(4,0),(5,0),(5,1),(5,2),(5,3),(6,0),(6,1),(6,2),(6,3),(8,0)]⟩,⟨0,[]⟩,⟨0,[(3,0)]⟩,⟨0,[(0,0),(0,1),(0,2),(0,3),(4,0),(5,0),(5,1),(5,2),(5,3),(6,0),(6,1),(6,2),(6,3),(12,0)]⟩,⟨0,[(0,0),(0,1),(0,2),(0,3),(1,0),(3,0),(4,0),(5,0),(5,1),(5,2),(5,3),(6,0),(6,1),(6,2),(6,3),(12,0)]⟩,⟨0,[]⟩,⟨0,[(1,0)]⟩,⟨0,[]⟩,⟨1,[(2,0)]⟩] [.fa 7 (.t 3) 3,.ldq 8 false 1 (.t 7),.ia 9 4 (.t 8) (.c (I 0)),.ldq 10 true 4 (.t 9),.fa 11 (.t 3) 3,.ldq 12 false 1 (.t 11),.ia 13 4 (.t 12) (.c (I 1)),.ldq 14 true 4 (.t 13),.fa 15 (.t 1) 8,.ldq 16 false 1 (.t 15),.build 17 (.a [(I 0),(S []),(I 0),(.n 4),(I 0),(S []),(I 0),(.n 4),(S [])]) [(0,4,(.t 10)),(4,4,(.t 14)),(8,1,(.t 16))],.st 9 (.t 2) (.t 17)])) (.keep [2] .ret)))))
def qc9:AF where
 nargs:=1
 ntmps:=20
 res:=[.cell 2 true 9]
 body:=(.seq (.reg [.new 1 (.t 0),.new 2 (.c (.a [(I 0),(S []),(I 0),(.n 4),(I 0),(S []),(I 0),(.n 4),(S [])]))]) (.seq (.reg [.ld 5 true 9 (.t 1),.call (some 6) (.c (Fc qdD)) [(.t 5)] (.ro false),.new 3 (.c (.a [(I 0),(S []),(I 0),(.n 4)])),.st 4 (.t 3) (.t 6)]) (.keep [1,2,3] (.seq (.reg [.ld 7 true 4 (.t 3),.call (some 8) (.c (Fc qpH)) [(.t 7)] (.ro false),.mv 4 (.t 8)]) (.seq (.dreg [⟨0,[]⟩,⟨0,[(1,0)]⟩,⟨0,[]⟩,⟨2,[(0,0),(0,1),(0,2),(0,3),(5,0),(6,0),(6,1),(6,2),(6,3),(7,0),(8,0),(8,1),(8,2),(8,3),(10,0)]⟩,⟨0,[]⟩,⟨0,[(1,0)]⟩,⟨0,[]⟩,⟨2,[(0,0),(0,1),(0,2),(0,3),(5,0),(6,0),(6,1),(6,2),(6,3),(7,0),(8,0),(8,1),(8,2),(8,3),(14,0)]⟩,⟨0,[]⟩,⟨0,[(1,0)]⟩,⟨0,[]⟩,⟨1,[(2,0)]⟩] [.fa 9 (.t 1) 0,.ldq 10 true 4 (.t 9),.mv 11 (.t 4),.call (some 12) (.c (Fc qgC)) [(.t 10),(.t 11),(.c (I 0))] (.ro false),.fa 13 (.t 1) 4,.ldq 14 true 4 (.t 13),.mv 15 (.t 4),.call (some 16) (.c (Fc qgC)) [(.t 14),(.t 15),(.c (I 0))] (.ro false),.fa 17 (.t 1) 8,.ldq 18 false 1 (.t 17),.build 19 (.a [(I 0),(S []),(I 0),(.n 4),(I 0),(S []),(I 0),(.n 4),(S [])]) [(0,4,(.t 12)),(4,4,(.t 16)),(8,1,(.t 18))],.st 9 (.t 2) (.t 19)]) (.keep [2] .ret))))))
def qjJ:AC:=(.seq (.seq (.reg [.mv 12 (.t 5),.mv 13 (.t 0),.len 14 (.t 13),.bin 15 .lss (.t 12) (.t 14)]) (.keep [0,1,5,15] (.cond (.t 15) .skip (.keep [1] (.exit 0))))) (.keep [0,1,5] (.seq (.block 1 (.seq (.reg [.mv 18 (.t 0),.mv 19 (.t 5),.ia 20 9 (.t 18) (.t 19),.ld 21 true 9 (.t 20),.mv 22 (.t 1),.call (some 23) (.c (Fc qpx)) [(.t 21),(.t 22)] (.ro false),.mv 1 (.t 23)]) (.keep [0,1,5] (.seq (.reg [.mv 24 (.t 1),.bin 25 .lss (.t 24) (.c (I 0))]) (.cond (.t 25) (.seq (.reg [.mv 4 (.c (I (-1)))]) (.keep [4] .ret)) .skip))))) (.keep [0,1,5] (.reg [.mv 16 (.t 5),.bin 17 .add (.t 16) (.c (I 1)),.mv 5 (.t 17)])))))
def qd0:Lp:=⟨[0,1,5],[(2,0)],qjJ⟩
@[go_sem] theorem qGO:qd0.ls=[0,1,5]:=rfl
@[go_sem] theorem qGN:qd0.ks=[(2,0)]:=rfl
@[go_sem] theorem qGM:qd0.body=qjJ:=rfl
def qcU:AF where
 nargs:=2
 ntmps:=27
 res:=[.tmp 4]
 body:=(.seq (.reg [.mv 4 (.c (I 0))]) (.seq (.reg [.mv 6 (.t 1),.mv 7 (.t 0),.len 8 (.t 7),.bin 9 .sub (.t 6) (.t 8),.mv 1 (.t 9)]) (.keep [0,1] (.seq (.seq (.reg [.mv 10 (.t 1),.bin 11 .lss (.t 10) (.c (I 0))]) (.cond (.t 11) (.seq (.reg [.mv 4 (.c (I (-1)))]) (.keep [4] .ret)) .skip)) (.keep [0,1] (.seq (.seq (.reg [.mv 5 (.c (I 0))]) (.block 0 (lpC qd0))) (.keep [1] (.seq (.reg [.mv 26 (.t 1),.mv 4 (.t 26)]) (.keep [4] .ret)))))))))
def qjK:AC:=(.seq (.seq (.reg [.mv 12 (.t 5),.mv 13 (.t 0),.len 14 (.t 13),.bin 15 .lss (.t 12) (.t 14)]) (.keep [0,1,5,15] (.cond (.t 15) .skip (.keep [1] (.exit 0))))) (.keep [0,1,5] (.seq (.block 1 (.seq (.reg [.mv 18 (.t 1),.mv 19 (.t 0),.mv 20 (.t 5),.ia 21 1 (.t 19) (.t 20),.ld 22 false 1 (.t 21),.slen 23 (.t 22),.bin 24 .sub (.t 18) (.t 23),.mv 1 (.t 24)]) (.keep [0,1,5] (.seq (.reg [.mv 25 (.t 1),.bin 26 .lss (.t 25) (.c (I 0))]) (.cond (.t 26) (.seq (.reg [.mv 4 (.c (I (-1)))]) (.keep [4] .ret)) .skip))))) (.keep [0,1,5] (.reg [.mv 16 (.t 5),.bin 17 .add (.t 16) (.c (I 1)),.mv 5 (.t 17)])))))
def qd1:Lp:=⟨[0,1,5],[(2,0)],qjK⟩
@[go_sem] theorem qGR:qd1.ls=[0,1,5]:=rfl
@[go_sem] theorem qGQ:qd1.ks=[(2,0)]:=rfl
@[go_sem] theorem qGP:qd1.body=qjK:=rfl
def qcW:AF where
 nargs:=2
 ntmps:=28
 res:=[.tmp 4]
 body:=(.seq (.reg [.mv 4 (.c (I 0))]) (.seq (.reg [.mv 6 (.t 1),.mv 7 (.t 0),.len 8 (.t 7),.bin 9 .sub (.t 6) (.t 8),.mv 1 (.t 9)]) (.keep [0,1] (.seq (.seq (.reg [.mv 10 (.t 1),.bin 11 .lss (.t 10) (.c (I 0))]) (.cond (.t 11) (.seq (.reg [.mv 4 (.c (I (-1)))]) (.keep [4] .ret)) .skip)) (.keep [0,1] (.seq (.seq (.reg [.mv 5 (.c (I 0))]) (.block 0 (lpC qd1))) (.keep [1] (.seq (.reg [.mv 27 (.t 1),.mv 4 (.t 27)]) (.keep [4] .ret)))))))))
def qjM:AC:=(.seq (.seq (.reg [.mv 8 (.t 4),.mv 9 (.t 0),.len 10 (.t 9),.bin 11 .lss (.t 8) (.t 10)]) (.keep [0,3,4,11] (.cond (.t 11) .skip (.keep [3] (.exit 0))))) (.keep [0,3,4] (.seq (.block 1 (.reg [.mv 14 (.t 3),.mv 15 (.t 4),.mv 16 (.t 0),.mv 17 (.t 4),.ia 18 9 (.t 16) (.t 17),.ld 19 true 9 (.t 18),.call (some 20) (.c (Fc qpB)) [(.t 19)] (.ro false),.ia 21 9 (.t 14) (.t 15),.st 9 (.t 21) (.t 20)])) (.keep [0,3,4] (.reg [.mv 12 (.t 4),.bin 13 .add (.t 12) (.c (I 1)),.mv 4 (.t 13)])))))
def qd3:Lp:=⟨[0,3,4],[(1,0)],qjM⟩
@[go_sem] theorem qGX:qd3.ls=[0,3,4]:=rfl
@[go_sem] theorem qGW:qd3.ks=[(1,0)]:=rfl
@[go_sem] theorem qGV:qd3.body=qjM:=rfl
def qc0:AF where
 nargs:=1
 ntmps:=23
 res:=[.tmp 2]
 body:=(.seq (.reg [.mv 2 (.c (.n 9))]) (.seq (.reg [.mv 5 (.t 0),.len 6 (.t 5),.mk 7 9 (.a [(I 0),(S []),(I 0),(.n 4),(I 0),(S []),(I 0),(.n 4),(S [])]) 128 (.t 6) (.t 6),.mv 3 (.t 7)]) (.keep [0,3] (.seq (.seq (.reg [.mv 4 (.c (I 0))]) (.block 0 (lpC qd3))) (.keep [3] (.seq (.reg [.mv 22 (.t 3),.mv 2 (.t 22)]) (.keep [2] .ret)))))))
def qjN:AC:=(.seq (.seq (.reg [.mv 8 (.t 4),.mv 9 (.t 0),.len 10 (.t 9),.bin 11 .lss (.t 8) (.t 10)]) (.keep [0,3,4,11] (.cond (.t 11) .skip (.keep [3] (.exit 0))))) (.keep [0,3,4] (.seq (.block 1 (.reg [.mv 14 (.t 3),.mv 15 (.t 4),.mv 16 (.t 0),.mv 17 (.t 4),.ia 18 1 (.t 16) (.t 17),.ld 19 false 1 (.t 18),.ia 20 1 (.t 14) (.t 15),.st 1 (.t 20) (.t 19)])) (.keep [0,3,4] (.reg [.mv 12 (.t 4),.bin 13 .add (.t 12) (.c (I 1)),.mv 4 (.t 13)])))))
def qd4:Lp:=⟨[0,3,4],[(1,0)],qjN⟩
@[go_sem] theorem qG0:qd4.ls=[0,3,4]:=rfl
@[go_sem] theorem qGZ:qd4.ks=[(1,0)]:=rfl
@[go_sem] theorem qGY:qd4.body=qjN:=rfl
def qc2:AF where
 nargs:=1
 ntmps:=22
 res:=[.tmp 2]
 body:=(.seq (.reg [.mv 2 (.c (.n 1))]) (.seq (.reg [.mv 5 (.t 0),.len 6 (.t 5),.mk 7 1 (S []) 16 (.t 6) (.t 6),.mv 3 (.t 7)]) (.keep [0,3] (.seq (.seq (.reg [.mv 4 (.c (I 0))]) (.block 0 (lpC qd4))) (.keep [3] (.seq (.reg [.mv 21 (.t 3),.mv 2 (.t 21)]) (.keep [2] .ret)))))))
def qjG:AC:=(.seq (.seq (.reg [.mv 11 (.t 5),.mv 12 (.t 0),.len 13 (.t 12),.bin 14 .lss (.t 11) (.t 13)]) (.keep [0,1,5,14] (.cond (.t 14) .skip (.keep [] (.exit 0))))) (.keep [0,1,5] (.seq (.block 1 (.seq (.dreg [⟨0,[]⟩,⟨0,[]⟩,⟨0,[(0,0),(0,1),(0,2),(0,3),(100000,0),(100000,1),(100000,2),(100000,3),(100000,4),(100000,5)]⟩,⟨0,[(0,0),(0,1),(0,2),(0,3),(100000,0),(100000,1),(100000,2),(100000,3),(100000,4),(100000,5)]⟩,⟨0,[]⟩,⟨0,[]⟩,⟨0,[(1,0),(1,1),(1,2),(1,3),(100000,0),(100000,1),(100000,2),(100000,3),(100000,4),(100000,5)]⟩,⟨0,[(1,0),(1,1),(1,2),(1,3),(100000,0),(100000,1),(100000,2),(100000,3),(100000,4),(100000,5)]⟩,⟨2,[(0,0),(0,1),(0,2),(0,3),(1,0),(1,1),(1,2),(1,3),(20,0),(24,0),(100000,0),(100000,1),(100000,2),(100000,3),(100000,4),(100000,5)]⟩,⟨0,[]⟩] [.mv 17 (.t 0),.mv 18 (.t 5),.ia 19 9 (.t 17) (.t 18),.ldq 20 true 9 (.t 19),.mv 21 (.t 1),.mv 22 (.t 5),.ia 23 9 (.t 21) (.t 22),.ldq 24 true 9 (.t 23),.call (some 25) (.c (Fc qpt)) [(.t 20),(.t 24)] (.ro true),.un 26 .not (.t 25)]) (.keep [0,1,5,26] (.cond (.t 26) (.seq (.reg [.mv 4 (.c (B false))]) (.keep [4] .ret)) .skip)))) (.keep [0,1,5] (.reg [.mv 15 (.t 5),.bin 16 .add (.t 15) (.c (I 1)),.mv 5 (.t 16)])))))
def qdX:Lp:=⟨[0,1,5],[(2,0)],qjG⟩
@[go_sem] theorem qGF:qdX.ls=[0,1,5]:=rfl
@[go_sem] theorem qGE:qdX.ks=[(2,0)]:=rfl
@[go_sem] theorem qGD:qdX.body=qjG:=rfl
def qcO:AF where
 nargs:=2
 ntmps:=27
 res:=[.tmp 4]
 body:=(.seq (.reg [.mv 4 (.c (B false))]) (.seq (.seq (.reg [.mv 6 (.t 0),.len 7 (.t 6),.mv 8 (.t 1),.len 9 (.t 8),.bin 10 .neq (.t 7) (.t 9)]) (.keep [0,1,10] (.cond (.t 10) (.seq (.reg [.mv 4 (.c (B false))]) (.keep [4] .ret)) .skip))) (.keep [0,1] (.seq (.seq (.reg [.mv 5 (.c (I 0))]) (.block 0 (lpC qdX))) (.keep [] (.seq (.reg [.mv 4 (.c (B true))]) (.keep [4] .ret)))))))
def qjH:AC:=(.seq (.seq (.reg [.mv 11 (.t 5),.mv 12 (.t 0),.len 13 (.t 12),.bin 14 .lss (.t 11) (.t 13)]) (.keep [0,1,5,14] (.cond (.t 14) .skip (.keep [] (.exit 0))))) (.keep [0,1,5] (.seq (.block 1 (.seq (.dreg [⟨0,[]⟩,⟨0,[]⟩,⟨0,[(0,0),(0,1),(0,2),(0,3),(100000,0),(100000,1),(100000,2),(100000,3),(100000,4),(100000,5)]⟩,⟨0,[(0,0),(0,1),(0,2),(0,3),(100000,0),(100000,1),(100000,2),(100000,3),(100000,4),(100000,5)]⟩,⟨0,[]⟩,⟨0,[]⟩,⟨0,[(1,0),(1,1),(1,2),(1,3),(100000,0),(100000,1),(100000,2),(100000,3),(100000,4),(100000,5)]⟩,⟨0,[(1,0),(1,1),(1,2),(1,3),(100000,0),(100000,1),(100000,2),(100000,3),(100000,4),(100000,5)]⟩,⟨0,[]⟩] [.mv 17 (.t 0),.mv 18 (.t 5),.ia 19 1 (.t 17) (.t 18),.ldq 20 false 1 (.t 19),.mv 21 (.t 1),.mv 22 (.t 5),.ia 23 1 (.t 21) (.t 22),.ldq 24 false 1 (.t 23),.bin 25 .neq (.t 20) (.t 24)]) (.keep [0,1,5,25] (.cond (.t 25) (.seq (.reg [.mv 4 (.c (B false))]) (.keep [4] .ret)) .skip)))) (.keep [0,1,5] (.reg [.mv 15 (.t 5),.bin 16 .add (.t 15) (.c (I 1)),.mv 5 (.t 16)])))))
def qdY:Lp:=⟨[0,1,5],[(2,0)],qjH⟩
@[go_sem] theorem qGI:qdY.ls=[0,1,5]:=rfl
@[go_sem] theorem qGH:qdY.ks=[(2,0)]:=rfl
@[go_sem] theorem qGG:qdY.body=qjH:=rfl
def qcQ:AF where
 nargs:=2
 ntmps:=26
 res:=[.tmp 4]
 body:=(.seq (.reg [.mv 4 (.c (B false))]) (.seq (.seq (.reg [.mv 6 (.t 0),.len 7 (.t 6),.mv 8 (.t 1),.len 9 (.t 8),.bin 10 .neq (.t 7) (.t 9)]) (.keep [0,1,10] (.cond (.t 10) (.seq (.reg [.mv 4 (.c (B false))]) (.keep [4] .ret)) .skip))) (.keep [0,1] (.seq (.seq (.reg [.mv 5 (.c (I 0))]) (.block 0 (lpC qdY))) (.keep [] (.seq (.reg [.mv 4 (.c (B true))]) (.keep [4] .ret)))))))
def KA:AF where
 nargs:=1
 ntmps:=12
 res:=[.cell 2 true 2]
 body:=(.seq (.reg [.new 1 (.t 0),.new 2 (.c (.a [(.n 9),(.n 1)]))]) (.seq (.reg [.fa 3 (.t 1) 0,.ld 4 false 1 (.t 3),.call (some 5) (.c (Fc qgF)) [(.t 4)] (.ro false),.fa 6 (.t 1) 0,.st 1 (.t 6) (.t 5)]) (.keep [1,2] (.seq (.reg [.fa 7 (.t 1) 1,.ld 8 false 1 (.t 7),.call (some 9) (.c (Fc qgG)) [(.t 8)] (.ro false),.fa 10 (.t 1) 1,.st 1 (.t 10) (.t 9)]) (.keep [1,2] (.seq (.reg [.ld 11 true 2 (.t 1),.st 2 (.t 2) (.t 11)]) (.keep [2] .ret)))))))
def X0:AF where
 nargs:=3
 ntmps:=15
 res:=[.tmp 6]
 body:=(.seq (.reg [.mv 6 (.c (B false))]) (.seq (.reg [.mv 7 (.t 0),.mv 8 (.t 1),.bin 9 .geq (.t 7) (.t 8),.mv 10 (.t 9),.gd 10 true (some 11) (.mv 11 (.t 0)),.gd 10 true (some 12) (.mv 12 (.t 2)),.gd 10 true (some 13) (.bin 13 .leq (.t 11) (.t 12)),.pick 14 (.t 10) (.t 13) (.c (B false)),.mv 6 (.t 14)]) (.keep [6] .ret)))
def qcr:AF where
 nargs:=1
 ntmps:=19
 res:=[.tmp 2]
 body:=(.seq (.reg [.new 1 (.t 0),.mv 2 (.c (S []))]) (.seq (.seq (.reg [.fa 3 (.t 1) 0,.ld 4 false 1 (.t 3),.bin 5 .neq (.t 4) (.c (I 2)),.mv 6 (.t 5),.gd 6 true (some 7) (.fa 7 (.t 1) 0),.gd 6 true (some 8) (.ld 8 false 1 (.t 7)),.gd 6 true (some 9) (.bin 9 .neq (.t 8) (.c (I 4))),.pick 10 (.t 6) (.t 9) (.c (B false))]) (.keep [1,10] (.cond (.t 10) (.seq (.reg [.mv 2 (.c (S []))]) (.keep [2] .ret)) .skip))) (.keep [1] (.seq (.dreg [⟨0,[]⟩,⟨0,[(1,0)]⟩,⟨0,[]⟩,⟨0,[]⟩,⟨0,[(1,0)]⟩,⟨0,[(0,0),(0,1),(0,2),(0,3),(15,0)]⟩,⟨2,[(0,0),(0,1),(0,2),(0,3),(15,0)]⟩,⟨0,[]⟩,⟨0,[]⟩] [.fa 11 (.t 1) 1,.ldq 12 false 1 (.t 11),.bin 13 .add (.t 12) (.c (S [47])),.fa 14 (.t 1) 3,.ldq 15 false 1 (.t 14),.len 16 (.t 15),.call (some 17) (.c (Fc qan)) [(.t 16)] (.ro false),.bin 18 .add (.t 13) (.t 17),.mv 2 (.t 18)]) (.keep [2] .ret)))))
def qbi:AC:=(.seq (.seq (.reg [.mv 8 (.t 4),.mv 9 (.t 0),.len 10 (.t 9),.bin 11 .lss (.t 8) (.t 10),.mv 12 (.t 11),.gd 12 true (some 13) (.mv 13 (.t 4)),.gd 12 true (some 14) (.bin 14 .lss (.t 13) (.c (I 4000))),.pick 15 (.t 12) (.t 14) (.c (B false))]) (.keep [0,3,4,15] (.cond (.t 15) .skip (.keep [0,3] (.exit 0))))) (.keep [0,3,4] (.seq (.block 1 (.reg [.mv 18 (.t 3),.bin 19 .mul (.t 18) (.c (I 131)),.mv 20 (.t 0),.mv 21 (.t 4),.ia 22 1 (.t 20) (.t 21),.ld 23 false 1 (.t 22),.int 24 .i64 (.t 23),.bin 25 .add (.t 19) (.t 24),.bin 26 .add (.t 25) (.c (I 7)),.bin 27 .and (.t 26) (.c (I 1073741823)),.mv 3 (.t 27)])) (.keep [0,3,4] (.reg [.mv 16 (.t 4),.bin 17 .add (.t 16) (.c (I 1)),.mv 4 (.t 17)])))))
def qaX:Lp:=⟨[0,3,4],[(1,0)],qbi⟩
@[go_sem] theorem qHx:qaX.ls=[0,3,4]:=rfl
@[go_sem] theorem qHw:qaX.ks=[(1,0)]:=rfl
@[go_sem] theorem qHv:qaX.body=qbi:=rfl
def Ke:AF where
 nargs:=1
 ntmps:=32
 res:=[.tmp 2]
 body:=(.seq (.reg [.mv 2 (.c (.v (.pointer none)))]) (.seq (.reg [.mv 5 (.t 0),.len 6 (.t 5),.bin 7 .add (.c (I 95101)) (.t 6),.mv 3 (.t 7)]) (.keep [0,3] (.seq (.seq (.reg [.mv 4 (.c (I 0))]) (.block 0 (lpC qaX))) (.keep [0,3] (.seq (.reg [.mv 28 (.t 0),.mv 29 (.t 3),.build 30 (.a [(.n 1),(I 0),(I 0)]) [(0,1,(.t 28)),(2,1,(.t 29))],.new 31 (.t 30),.mv 2 (.t 31)]) (.keep [2] .ret)))))))
def Kf:AF where
 nargs:=2
 ntmps:=9
 res:=[.tmp 4]
 body:=(.seq (.reg [.mv 4 (.c (B false))]) (.seq (.reg [.mv 5 (.t 0),.mv 6 (.t 1),.call (some 7) (.c (Fc xF)) [(.t 5),(.t 6)] (.io false),.bin 8 .eql (.t 7) (.c (I 0)),.mv 4 (.t 8)]) (.keep [0,4] .ret)))
def YI:AF where
 nargs:=1
 ntmps:=14
 res:=[.tmp 2]
 body:=(.seq (.reg [.mv 2 (.c (S []))]) (.seq (.reg [.mv 4 (.t 0),.call (some 5) (.c (Fc ZW)) [(.t 4)] (.ro false),.mv 3 (.t 5)]) (.seq (.seq (.reg [.mv 6 (.t 3),.call (some 7) (.c (Fc KK)) [(.t 6),(.c (I 2))] (.io true)]) (.cond (.t 7) (.seq (.reg [.mv 8 (.t 3),.call (some 9) (.c (Fc Qn)) [(.t 8)] (.io false),.call (some 10) (.c (Fc qgg)) [(.t 9)] (.ro false),.bin 11 .add (.t 10) (.c (S [32,46])),.mv 2 (.t 11)]) (.keep [2] .ret)) .skip)) (.keep [3] (.seq (.reg [.mv 12 (.t 3),.call (some 13) (.c (Fc qgs)) [(.t 12)] (.io false),.mv 2 (.t 13)]) (.keep [2] .ret))))))
def qek:AC:=(.seq (.seq (.reg [.mv 37 (.t 6),.mv 38 (.t 4),.bin 39 .rem (.t 38) (.c (I 4)),.bin 40 .add (.c (I 38)) (.t 39),.bin 41 .lss (.t 37) (.t 40)]) (.keep [0,2,4,5,6,41] (.cond (.t 41) .skip (.keep [0,2,5] (.exit 1))))) (.keep [0,2,4,5,6] (.seq (.block 2 (.reg [.ld 44 true 4 (.t 5),.mks 45 4 [(.t 44)],.build 46 (.a [(I 0),(S []),(I 0),(.n 4)]) [(0,1,(.c (I 4))),(1,1,(.c (S [115]))),(3,1,(.t 45))],.st 4 (.t 5) (.t 46)])) (.keep [0,2,4,5,6] (.reg [.mv 42 (.t 6),.bin 43 .add (.t 42) (.c (I 1)),.mv 6 (.t 43)])))))
def qaY:Lp:=⟨[0,2,4,5,6],[(1,0)],qek⟩
@[go_sem] theorem qHA:qaY.ls=[0,2,4,5,6]:=rfl
@[go_sem] theorem qHz:qaY.ks=[(1,0)]:=rfl
@[go_sem] theorem qHy:qaY.body=qek:=rfl
def Qg:AF where
 nargs:=1
 ntmps:=48
 res:=[.cell 2 true 4]
 body:=(.seq (.reg [.new 2 (.c (.a [(I 0),(S []),(I 0),(.n 4)]))]) (.seq (.reg [.mv 7 (.t 0),.call (some 8) (.c (Fc xF)) [(.t 7),(.c (I 12))] (.io true),.mv 3 (.t 8)]) (.seq (.reg [.mv 9 (.t 0),.call (some 10) (.c (Fc xF)) [(.t 9),(.c (I 60))] (.io false),.mv 4 (.t 10)]) (.seq (.reg [.mv 11 (.t 0),.call (some 12) (.c (Fc jf)) [(.t 11),(.c (I 3))] (.io false),.new 5 (.c (.a [(I 0),(S []),(I 0),(.n 4)])),.st 4 (.t 5) (.t 12)]) (.keep [0,2,3,4,5] (.seq (.seq (.reg [.mv 13 (.t 3)]) (.block 0 (.seq (.reg [.bin 15 .eql (.t 13) (.c (I 0)),.mv 14 (.t 15)]) (.cond (.t 14) (.reg [.mv 16 (.t 4),.bin 17 .rem (.t 16) (.c (I 6)),.fa 18 (.t 5) 0,.st 1 (.t 18) (.t 17)]) (.seq (.reg [.bin 20 .eql (.t 13) (.c (I 1)),.mv 19 (.t 20)]) (.cond (.t 19) (.reg [.mks 21 1 [(.c (S [])),(.c (S [97,32,98])),(.c (S [39])),(.c (S [97,97,97,97,97,97,97,97,97,97,97,97,97,97,97,97,97,97,97,97,97]))],.mv 22 (.t 4),.bin 23 .rem (.t 22) (.c (I 4)),.ia 24 1 (.t 21) (.t 23),.ld 25 false 1 (.t 24),.fa 26 (.t 5) 1,.st 1 (.t 26) (.t 25)]) (.seq (.reg [.bin 28 .eql (.t 13) (.c (I 2)),.mv 27 (.t 28)]) (.cond (.t 27) (.reg [.mks 29 1 [(.c (I (-1))),(.c (I 100000)),(.c (I 1000000000))],.mv 30 (.t 4),.bin 31 .rem (.t 30) (.c (I 3)),.ia 32 1 (.t 29) (.t 31),.ld 33 false 1 (.t 32),.fa 34 (.t 5) 2,.st 1 (.t 34) (.t 33)]) (.seq (.reg [.bin 36 .eql (.t 13) (.c (I 3)),.mv 35 (.t 36)]) (.cond (.t 35) (.seq (.reg [.mv 6 (.c (I 0))]) (.block 1 (lpC qaY))) .skip)))))))))) (.keep [0,2,5] (.seq (.reg [.ld 47 true 4 (.t 5),.st 4 (.t 2) (.t 47)]) (.keep [0,2] .ret)))))))))
def YH:AF where
 nargs:=1
 ntmps:=15
 res:=[.cell 2 true 9]
 body:=(.seq (.reg [.new 2 (.c (.a [(I 0),(S []),(I 0),(.n 4),(I 0),(S []),(I 0),(.n 4),(S [])]))]) (.seq (.reg [.mv 4 (.t 0),.call (some 5) (.c (Fc ZW)) [(.t 4)] (.ro false),.mv 3 (.t 5)]) (.seq (.seq (.reg [.mv 6 (.t 3),.call (some 7) (.c (Fc KK)) [(.t 6),(.c (I 4))] (.io true)]) (.cond (.t 7) (.seq (.reg [.mv 8 (.t 3),.call (some 9) (.c (Fc Qn)) [(.t 8)] (.io false),.mv 10 (.t 3),.call (some 11) (.c (Fc Qn)) [(.t 10)] (.io false),.build 12 (.a [(I 0),(S []),(I 0),(.n 4),(I 0),(S []),(I 0),(.n 4),(S [])]) [(0,4,(.t 9)),(4,4,(.t 11))],.st 9 (.t 2) (.t 12)]) (.keep [2] .ret)) .skip)) (.keep [0,2] (.seq (.reg [.mv 13 (.t 0),.call (some 14) (.c (Fc qf6)) [(.t 13)] (.ro false),.st 9 (.t 2) (.t 14)]) (.keep [2] .ret))))))
def qen:AC:=(.seq (.seq (.reg [.mv 26 (.t 5),.bin 27 .lss (.t 26) (.c (I 120))]) (.cond (.t 27) .skip (.keep [0,2,4] (.exit 1)))) (.keep [0,2,4,5] (.seq (.block 2 (.dreg [⟨0,[]⟩,⟨0,[(4,0),(100000,0),(100000,1),(100000,2),(100000,3),(100000,4),(100000,5)]⟩,⟨0,[]⟩,⟨0,[(4,0),(100000,0),(100000,1),(100000,2),(100000,3),(100000,4),(100000,5)]⟩,⟨0,[(0,0),(0,1),(0,2),(0,3),(9,0),(9,1),(9,2),(9,3),(10,0),(10,1),(10,2),(10,3),(15,0),(17,0),(17,1),(17,2),(17,3),(19,0),(19,1),(19,2),(19,3),(21,0),(22,0),(31,0),(33,0),(35,0),(41,0),(100000,0),(100000,1),(100000,2),(100000,3),(100000,4),(100000,5)]⟩,⟨0,[(0,0),(0,1),(0,2),(0,3),(4,0),(9,0),(9,1),(9,2),(9,3),(10,0),(10,1),(10,2),(10,3),(15,0),(17,0),(17,1),(17,2),(17,3),(19,0),(19,1),(19,2),(19,3),(21,0),(22,0),(31,0),(33,0),(41,0),(100000,0),(100000,1),(100000,2),(100000,3),(100000,4),(100000,5)]⟩,⟨1,[]⟩,⟨1,[(0,0),(0,1),(0,2),(0,3),(9,0),(9,1),(9,2),(9,3),(10,0),(10,1),(10,2),(10,3),(15,0),(17,0),(17,1),(17,2),(17,3),(19,0),(19,1),(19,2),(19,3),(21,0),(22,0),(31,0),(33,0),(35,0),(36,0),(41,0),(500000,0),(100000,0),(100000,1),(100000,2),(100000,3),(100000,4),(100000,5)]⟩,⟨0,[]⟩,⟨1,[(4,0),(100000,0),(100000,1),(100000,2),(100000,3),(100000,4),(100000,5)]⟩] [.fa 30 (.t 4) 0,.ldq 31 false 1 (.t 30),.fa 32 (.t 4) 0,.ldq 33 false 1 (.t 32),.ia 34 9 (.t 33) (.c (I 0)),.ldq 35 true 9 (.t 34),.mks 36 9 [(.t 35)],.app 37 9 128 (.t 31) (.t 36),.fa 38 (.t 4) 0,.st 1 (.t 38) (.t 37)])) (.keep [0,2,4,5] (.reg [.mv 28 (.t 5),.bin 29 .add (.t 28) (.c (I 1)),.mv 5 (.t 29)])))))
def qa7:Lp:=⟨[0,2,4,5],[(1,0)],qen⟩
@[go_sem] theorem qIB:qa7.ls=[0,2,4,5]:=rfl
@[go_sem] theorem qIA:qa7.ks=[(1,0)]:=rfl
@[go_sem] theorem qIz:qa7.body=qen:=rfl
def Q7:AF where
 nargs:=1
 ntmps:=44
 res:=[.cell 2 true 2]
 body:=(.seq (.reg [.new 2 (.c (.a [(.n 9),(.n 1)]))]) (.seq (.reg [.mv 6 (.t 0),.call (some 7) (.c (Fc xF)) [(.t 6),(.c (I 10))] (.io true),.mv 3 (.t 7)]) (.seq (.reg [.mv 8 (.t 0),.call (some 9) (.c (Fc qgA)) [(.t 8)] (.io true),.call (some 10) (.c (Fc KL)) [(.t 9)] (.ro false),.new 4 (.c (.a [(.n 9),(.n 1)])),.st 2 (.t 4) (.t 10)]) (.keep [0,2,3,4] (.seq (.seq (.reg [.mv 11 (.t 3)]) (.block 0 (.seq (.reg [.bin 13 .eql (.t 11) (.c (I 0)),.mv 12 (.t 13)]) (.cond (.t 12) (.dreg [⟨0,[]⟩,⟨0,[(4,0)]⟩,⟨0,[]⟩,⟨1,[(0,0),(0,1),(0,2),(0,3),(100000,0),(100000,1),(100000,2),(100000,3),(100000,4),(100000,5)]⟩,⟨0,[]⟩,⟨1,[(0,0),(0,1),(0,2),(0,3),(100000,0),(100000,1),(100000,2),(100000,3),(100000,4),(100000,5)]⟩,⟨0,[]⟩,⟨1,[]⟩,⟨1,[(10,0),(21,0)]⟩,⟨0,[]⟩,⟨1,[(4,0)]⟩] [.fa 14 (.t 4) 0,.ldq 15 false 1 (.t 14),.mv 16 (.t 0),.call (some 17) (.c (Fc Qn)) [(.t 16)] (.io true),.mv 18 (.t 0),.call (some 19) (.c (Fc Qn)) [(.t 18)] (.io true),.build 20 (.a [(I 0),(S []),(I 0),(.n 4),(I 0),(S []),(I 0),(.n 4),(S [])]) [(0,4,(.t 17)),(4,4,(.t 19))],.mks 21 9 [(.t 20)],.app 22 9 128 (.t 15) (.t 21),.fa 23 (.t 4) 0,.st 1 (.t 23) (.t 22)]) (.seq (.reg [.bin 25 .eql (.t 11) (.c (I 1)),.mv 24 (.t 25)]) (.cond (.t 24) (.seq (.reg [.mv 5 (.c (I 0))]) (.block 1 (lpC qa7))) (.seq (.reg [.bin 40 .eql (.t 11) (.c (I 2)),.mv 39 (.t 40)]) (.cond (.t 39) (.reg [.mk 41 1 (S []) 16 (.c (I 41)) (.c (I 41)),.fa 42 (.t 4) 1,.st 1 (.t 42) (.t 41)]) .skip)))))))) (.keep [0,2,4] (.seq (.reg [.ld 43 true 2 (.t 4),.st 2 (.t 2) (.t 43)]) (.keep [0,2] .ret))))))))
def Yz:AF where
 nargs:=1
 ntmps:=6
 res:=[.tmp 2]
 body:=(.seq (.reg [.new 1 (.t 0),.mv 2 (.c (B false))]) (.seq (.reg [.ld 3 true 4 (.t 1),.call (some 4) (.c (Fc qav)) [(.t 3),(.c (I 1))] (.ro false),.bin 5 .leq (.t 4) (.c (I 400)),.mv 2 (.t 5)]) (.keep [2] .ret)))
def XV:AF where
 nargs:=1
 ntmps:=5
 res:=[.tmp 2]
 body:=(.seq (.reg [.new 1 (.t 0),.mv 2 (.c (S []))]) (.seq (.reg [.ld 3 true 4 (.t 1),.call (some 4) (.c (Fc qdB)) [(.t 3),(.c (Fc qdv)),(.c (Fc qdw))] (.ro false),.mv 2 (.t 4)]) (.keep [2] .ret)))
def YM:AF where
 nargs:=1
 ntmps:=10
 res:=[.tmp 2]
 body:=(.seq (.reg [.new 1 (.t 0),.mv 2 (.c (B false))]) (.seq (.reg [.ld 3 true 4 (.t 1),.call (some 4) (.c (Fc qaA)) [(.t 3),(.c (I 400))] (.ro false),.bin 5 .geq (.t 4) (.c (I 0)),.mv 6 (.t 5),.gd 6 true (some 7) (.ld 7 true 4 (.t 1)),.gd 6 true (some 8) (.call (some 8) (.c (Fc qaD)) [(.t 7),(.c (I 1))] (.ro false)),.pick 9 (.t 6) (.t 8) (.c (B false)),.mv 2 (.t 9)]) (.keep [2] .ret)))
def qbq:AC:=(.seq (.seq (.reg [.mv 59 (.t 7),.fa 60 (.t 1) 3,.ld 61 false 1 (.t 60),.len 62 (.t 61),.bin 63 .lss (.t 59) (.t 62)]) (.keep [1,6,7,63] (.cond (.t 63) .skip (.keep [6] (.exit 0))))) (.keep [1,6,7] (.seq (.block 1 (.seq (.seq (.reg [.mv 66 (.t 7),.bin 67 .gtr (.t 66) (.c (I 0))]) (.cond (.t 67) (.reg [.mv 68 (.t 6),.bin 69 .add (.t 68) (.c (S [44])),.mv 6 (.t 69)]) .skip)) (.keep [1,6,7] (.reg [.mv 70 (.t 6),.fa 71 (.t 1) 3,.ld 72 false 1 (.t 71),.mv 73 (.t 7),.ia 74 4 (.t 72) (.t 73),.ld 75 true 4 (.t 74),.call (some 76) (.c (Fc xd)) [(.t 75),(.c (I 999))] (.ro false),.bin 77 .add (.t 70) (.t 76),.mv 6 (.t 77)])))) (.keep [1,6,7] (.reg [.mv 64 (.t 7),.bin 65 .add (.t 64) (.c (I 1)),.mv 7 (.t 65)])))))
def KX:Lp:=⟨[1,6,7],[(1,0)],qbq⟩
@[go_sem] theorem qIT:KX.ls=[1,6,7]:=rfl
@[go_sem] theorem qIS:KX.ks=[(1,0)]:=rfl
@[go_sem] theorem qIR:KX.body=qbq:=rfl
def jI:AF where
 nargs:=1
 ntmps:=80
 res:=[.tmp 2]
 body:=(.seq (.reg [.new 1 (.t 0),.mv 2 (.c (S []))]) (.seq (.seq (.reg [.fa 8 (.t 1) 0,.ld 9 false 1 (.t 8),.bin 10 .neq (.t 9) (.c (I 4))]) (.cond (.t 10) (.seq (.reg [.ld 11 true 4 (.t 1),.call (some 12) (.c (Fc xt)) [(.t 11)] (.ro false),.mv 2 (.t 12)]) (.keep [2] .ret)) .skip)) (.keep [1] (.seq (.seq (.reg [.ld 13 true 4 (.t 1),.call (some 14) (.c (Fc ZX)) [(.t 13),(.c (S [46])),(.c (I 2))] (.ro true)]) (.cond (.t 14) (.seq (.reg [.ld 15 true 4 (.t 1),.call (some 16) (.c (Fc qgE)) [(.t 15)] (.ro false),.mv 2 (.t 16)]) (.keep [2] .ret)) .skip)) (.keep [1] (.seq (.reg [.fa 18 (.t 1) 1,.ld 19 false 1 (.t 18),.call (some 20) (.c (Fc Zc)) [(.t 19)] (.ro false),.mv 17 (.t 20),.ext 21 (.t 17) 0,.ext 22 (.t 17) 1,.new 3 (.c (.a [(S []),(I 0),(I 0),(I 0)])),.st 4 (.t 3) (.t 21),.mv 4 (.t 22)]) (.keep [1,3,4] (.seq (.seq (.reg [.mv 23 (.t 4),.mv 24 (.t 23),.gd 24 true (some 25) (.fa 25 (.t 1) 3),.gd 24 true (some 26) (.ld 26 false 1 (.t 25)),.gd 24 true (some 27) (.len 27 (.t 26)),.gd 24 true (some 28) (.bin 28 .eql (.t 27) (.c (I 2))),.pick 29 (.t 24) (.t 28) (.c (B false))]) (.keep [1,3,29] (.cond (.t 29) (.seq (.reg [.fa 30 (.t 1) 1,.ld 31 false 1 (.t 30),.call (some 32) (.c (Fc ZU)) [(.t 31)] (.ro false),.mv 5 (.t 32)]) (.keep [1,3,5] (.seq (.seq (.reg [.fa 33 (.t 1) 1,.ld 34 false 1 (.t 33),.bin 35 .eql (.t 34) (.c (S [44]))]) (.cond (.t 35) (.reg [.mv 5 (.c (S [44]))]) .skip)) (.keep [1,3,5] (.seq (.dreg [⟨0,[]⟩,⟨0,[(1,0)]⟩,⟨0,[(0,0),(0,1),(0,2),(0,3),(37,0),(100000,0),(100000,1),(100000,2),(100000,3),(100000,4),(100000,5)]⟩,⟨0,[(0,0),(0,1),(0,2),(0,3),(1,0),(37,0),(100000,0),(100000,1),(100000,2),(100000,3),(100000,4),(100000,5)]⟩,⟨0,[]⟩,⟨0,[(3,0)]⟩,⟨2,[(0,0),(0,1),(0,2),(0,3),(19,0),(20,0),(20,1),(20,2),(20,3),(37,0),(39,0),(41,0),(100000,0),(100000,1),(100000,2),(100000,3),(100000,4),(100000,5)]⟩,⟨0,[]⟩,⟨0,[]⟩,⟨0,[]⟩,⟨0,[]⟩,⟨0,[]⟩,⟨0,[(1,0)]⟩,⟨0,[(0,0),(0,1),(0,2),(0,3),(48,0),(100000,0),(100000,1),(100000,2),(100000,3),(100000,4),(100000,5)]⟩,⟨0,[(0,0),(0,1),(0,2),(0,3),(1,0),(48,0),(100000,0),(100000,1),(100000,2),(100000,3),(100000,4),(100000,5)]⟩,⟨0,[]⟩,⟨0,[(3,0)]⟩,⟨2,[(0,0),(0,1),(0,2),(0,3),(19,0),(20,0),(20,1),(20,2),(20,3),(48,0),(50,0),(52,0),(100000,0),(100000,1),(100000,2),(100000,3),(100000,4),(100000,5)]⟩,⟨0,[]⟩,⟨0,[]⟩] [.fa 36 (.t 1) 3,.ldq 37 false 1 (.t 36),.ia 38 4 (.t 37) (.c (I 0)),.ldq 39 true 4 (.t 38),.fa 40 (.t 3) 2,.ldq 41 false 1 (.t 40),.call (some 42) (.c (Fc xd)) [(.t 39),(.t 41)] (.ro false),.bin 43 .add (.t 42) (.c (S [32])),.mv 44 (.t 5),.bin 45 .add (.t 43) (.t 44),.bin 46 .add (.t 45) (.c (S [32])),.fa 47 (.t 1) 3,.ldq 48 false 1 (.t 47),.ia 49 4 (.t 48) (.c (I 1)),.ldq 50 true 4 (.t 49),.fa 51 (.t 3) 3,.ldq 52 false 1 (.t 51),.call (some 53) (.c (Fc xd)) [(.t 50),(.t 52)] (.ro false),.bin 54 .add (.t 46) (.t 53),.mv 2 (.t 54)]) (.keep [2] .ret)))))) .skip))) (.keep [1] (.seq (.reg [.fa 55 (.t 1) 1,.ld 56 false 1 (.t 55),.call (some 57) (.c (Fc ZU)) [(.t 56)] (.ro false),.bin 58 .add (.t 57) (.c (S [40])),.mv 6 (.t 58)]) (.keep [1,6] (.seq (.seq (.reg [.mv 7 (.c (I 0))]) (.block 0 (lpC KX))) (.keep [6] (.seq (.reg [.mv 78 (.t 6),.bin 79 .add (.t 78) (.c (S [41])),.mv 2 (.t 79)]) (.keep [2] .ret)))))))))))))))
def XK:AF where
 nargs:=1
 ntmps:=11
 res:=[.cell 2 true 4]
 body:=(.seq (.reg [.new 1 (.t 0),.new 2 (.c (.a [(I 0),(S []),(I 0),(.n 4)]))]) (.seq (.dreg [⟨0,[]⟩,⟨0,[(1,0)]⟩,⟨2,[(0,0),(0,1),(0,2),(0,3),(4,0)]⟩,⟨0,[]⟩,⟨0,[(1,0)]⟩,⟨2,[(0,0),(0,1),(0,2),(0,3),(7,0)]⟩,⟨1,[]⟩,⟨1,[(0,0),(0,1),(0,2),(0,3),(4,0),(5,0),(5,1),(5,2),(5,3),(7,0),(8,0),(8,1),(8,2),(8,3),(9,0)]⟩,⟨1,[(2,0)]⟩] [.fa 3 (.t 1) 0,.ldq 4 true 4 (.t 3),.call (some 5) (.c (Fc qdo)) [(.t 4)] (.ro false),.fa 6 (.t 1) 4,.ldq 7 true 4 (.t 6),.call (some 8) (.c (Fc qdo)) [(.t 7)] (.ro false),.mks 9 4 [(.t 5),(.t 8)],.call (some 10) (.c (Fc Y2)) [(.c (S [58,45])),(.t 9)] (.io false),.st 4 (.t 2) (.t 10)]) (.keep [2] .ret)))
def XR:AF where
 nargs:=2
 ntmps:=14
 res:=[.tmp 4]
 body:=(.seq (.reg [.new 2 (.t 0),.mv 4 (.c (B false))]) (.seq (.reg [.fa 5 (.t 2) 0,.ld 6 false 1 (.t 5),.bin 7 .eql (.t 6) (.c (I 2)),.mv 8 (.t 7),.gd 8 true (some 9) (.fa 9 (.t 2) 1),.gd 8 true (some 10) (.ld 10 false 1 (.t 9)),.gd 8 true (some 11) (.mv 11 (.t 1)),.gd 8 true (some 12) (.bin 12 .eql (.t 10) (.t 11)),.pick 13 (.t 8) (.t 12) (.c (B false)),.mv 4 (.t 13)]) (.keep [4] .ret)))
def XU:AF where
 nargs:=3
 ntmps:=23
 res:=[.tmp 6]
 body:=(.seq (.reg [.new 3 (.t 0),.mv 6 (.c (B false))]) (.seq (.reg [.fa 7 (.t 3) 0,.ld 8 false 1 (.t 7),.bin 9 .eql (.t 8) (.c (I 4)),.mv 10 (.t 9),.gd 10 true (some 11) (.fa 11 (.t 3) 1),.gd 10 true (some 12) (.ld 12 false 1 (.t 11)),.gd 10 true (some 13) (.mv 13 (.t 1)),.gd 10 true (some 14) (.bin 14 .eql (.t 12) (.t 13)),.pick 15 (.t 10) (.t 14) (.c (B false)),.mv 16 (.t 15),.gd 16 true (some 17) (.fa 17 (.t 3) 3),.gd 16 true (some 18) (.ld 18 false 1 (.t 17)),.gd 16 true (some 19) (.len 19 (.t 18)),.gd 16 true (some 20) (.mv 20 (.t 2)),.gd 16 true (some 21) (.bin 21 .eql (.t 19) (.t 20)),.pick 22 (.t 16) (.t 21) (.c (B false)),.mv 6 (.t 22)]) (.keep [6] .ret)))
def YB:AF where
 nargs:=2
 ntmps:=15
 res:=[.tmp 4]
 body:=(.seq (.reg [.new 2 (.t 0),.mv 4 (.c (S []))]) (.seq (.seq (.reg [.ld 5 true 4 (.t 2),.call (some 6) (.c (Fc qao)) [(.t 5)] (.ro true),.mv 7 (.t 1),.bin 8 .gtr (.t 6) (.t 7)]) (.keep [2,8] (.cond (.t 8) (.seq (.reg [.ld 9 true 4 (.t 2),.call (some 10) (.c (Fc KI)) [(.t 9)] (.ro false),.bin 11 .add (.c (S [40])) (.t 10),.bin 12 .add (.t 11) (.c (S [41])),.mv 4 (.t 12)]) (.keep [4] .ret)) .skip))) (.keep [2] (.seq (.reg [.ld 13 true 4 (.t 2),.call (some 14) (.c (Fc KI)) [(.t 13)] (.ro false),.mv 4 (.t 14)]) (.keep [4] .ret)))))
def Kx:AF where
 nargs:=1
 ntmps:=11
 res:=[.tmp 2]
 body:=(.seq (.reg [.new 1 (.t 0),.mv 2 (.c (B false))]) (.seq (.reg [.fa 3 (.t 1) 0,.ld 4 false 1 (.t 3),.bin 5 .eql (.t 4) (.c (I 2)),.mv 6 (.t 5),.gd 6 true (some 7) (.fa 7 (.t 1) 1),.gd 6 true (some 8) (.ld 8 false 1 (.t 7)),.gd 6 true (some 9) (.bin 9 .eql (.t 8) (.c (S [116,114,117,101]))),.pick 10 (.t 6) (.t 9) (.c (B false)),.mv 2 (.t 10)]) (.keep [2] .ret)))
def Kk:AF where
 nargs:=3
 ntmps:=23
 res:=[.tmp 6]
 body:=(.seq (.reg [.new 3 (.t 0),.mv 6 (.c (B false))]) (.seq (.reg [.fa 7 (.t 3) 0,.ld 8 false 1 (.t 7),.bin 9 .eql (.t 8) (.c (I 4)),.mv 10 (.t 9),.gd 10 true (some 11) (.fa 11 (.t 3) 1),.gd 10 true (some 12) (.ld 12 false 1 (.t 11)),.gd 10 true (some 13) (.mv 13 (.t 1)),.gd 10 true (some 14) (.bin 14 .eql (.t 12) (.t 13)),.pick 15 (.t 10) (.t 14) (.c (B false)),.mv 16 (.t 15),.gd 16 true (some 17) (.fa 17 (.t 3) 3),.gd 16 true (some 18) (.ld 18 false 1 (.t 17)),.gd 16 true (some 19) (.len 19 (.t 18)),.gd 16 true (some 20) (.mv 20 (.t 2)),.gd 16 true (some 21) (.bin 21 .eql (.t 19) (.t 20)),.pick 22 (.t 16) (.t 21) (.c (B false)),.mv 6 (.t 22)]) (.keep [6] .ret)))
def YY:AF where
 nargs:=2
 ntmps:=15
 res:=[.tmp 4]
 body:=(.seq (.reg [.new 2 (.t 0),.mv 4 (.c (S []))]) (.seq (.seq (.reg [.ld 5 true 4 (.t 2),.call (some 6) (.c (Fc qax)) [(.t 5)] (.ro true),.mv 7 (.t 1),.bin 8 .gtr (.t 6) (.t 7)]) (.keep [2,8] (.cond (.t 8) (.seq (.reg [.ld 9 true 4 (.t 2),.call (some 10) (.c (Fc Y6)) [(.t 9)] (.ro false),.bin 11 .add (.c (S [40])) (.t 10),.bin 12 .add (.t 11) (.c (S [41])),.mv 4 (.t 12)]) (.keep [4] .ret)) .skip))) (.keep [2] (.seq (.reg [.ld 13 true 4 (.t 2),.call (some 14) (.c (Fc Y6)) [(.t 13)] (.ro false),.mv 4 (.t 14)]) (.keep [4] .ret)))))
def QY:AF where
 nargs:=1
 ntmps:=23
 res:=[.tmp 2]
 body:=(.seq (.reg [.new 1 (.t 0),.mv 2 (.c (B false))]) (.seq (.reg [.fa 6 (.t 1) 1,.ld 7 false 1 (.t 6),.call (some 8) (.c (Fc ZS)) [(.t 7)] (.ro false),.mv 5 (.t 8),.ext 9 (.t 5) 0,.ext 10 (.t 5) 1,.new 3 (.c (.a [(S []),(I 0),(I 0),(I 0)])),.st 4 (.t 3) (.t 9),.mv 4 (.t 10)]) (.keep [1,4] (.seq (.reg [.mv 11 (.t 4),.mv 12 (.t 11),.gd 12 true (some 13) (.fa 13 (.t 1) 0),.gd 12 true (some 14) (.ld 14 false 1 (.t 13)),.gd 12 true (some 15) (.bin 15 .eql (.t 14) (.c (I 4))),.pick 16 (.t 12) (.t 15) (.c (B false)),.mv 17 (.t 16),.gd 17 true (some 18) (.fa 18 (.t 1) 3),.gd 17 true (some 19) (.ld 19 false 1 (.t 18)),.gd 17 true (some 20) (.len 20 (.t 19)),.gd 17 true (some 21) (.bin 21 .eql (.t 20) (.c (I 2))),.pick 22 (.t 17) (.t 21) (.c (B false)),.mv 2 (.t 22)]) (.keep [2] .ret)))))
def yG:AF where
 nargs:=1
 ntmps:=42
 res:=[.cell 2 true 4,.tmp 3]
 body:=(.seq (.reg [.new 2 (.c (.a [(S []),(I 0),(I 0),(I 0)])),.mv 3 (.c (B false))]) (.seq (.seq (.reg [.mv 4 (.t 0)]) (.block 0 (.seq (.seq (.reg [.bin 6 .eql (.t 4) (.c (S [58,45])),.mv 5 (.t 6)]) (.cond (.t 5) .skip (.reg [.bin 7 .eql (.t 4) (.c (S [45,45,62])),.mv 5 (.t 7)]))) (.keep [0,2,4,5] (.cond (.t 5) (.seq (.reg [.mv 8 (.t 0),.build 9 (.a [(S []),(I 0),(I 0),(I 0)]) [(0,1,(.t 8)),(1,1,(.c (I 1200))),(2,1,(.c (I 1199))),(3,1,(.c (I 1199)))],.st 4 (.t 2) (.t 9),.mv 3 (.c (B true))]) (.keep [2,3] .ret)) (.seq (.reg [.bin 11 .eql (.t 4) (.c (S [59])),.mv 10 (.t 11)]) (.cond (.t 10) (.seq (.reg [.mv 12 (.t 0),.build 13 (.a [(S []),(I 0),(I 0),(I 0)]) [(0,1,(.t 12)),(1,1,(.c (I 1100))),(2,1,(.c (I 1099))),(3,1,(.c (I 1100)))],.st 4 (.t 2) (.t 13),.mv 3 (.c (B true))]) (.keep [2,3] .ret)) (.seq (.reg [.bin 15 .eql (.t 4) (.c (S [45,62])),.mv 14 (.t 15)]) (.cond (.t 14) (.seq (.reg [.mv 16 (.t 0),.build 17 (.a [(S []),(I 0),(I 0),(I 0)]) [(0,1,(.t 16)),(1,1,(.c (I 1050))),(2,1,(.c (I 1049))),(3,1,(.c (I 1050)))],.st 4 (.t 2) (.t 17),.mv 3 (.c (B true))]) (.keep [2,3] .ret)) (.seq (.reg [.bin 19 .eql (.t 4) (.c (S [44])),.mv 18 (.t 19)]) (.cond (.t 18) (.seq (.reg [.mv 20 (.t 0),.build 21 (.a [(S []),(I 0),(I 0),(I 0)]) [(0,1,(.t 20)),(1,1,(.c (I 1000))),(2,1,(.c (I 999))),(3,1,(.c (I 1000)))],.st 4 (.t 2) (.t 21),.mv 3 (.c (B true))]) (.keep [2,3] .ret)) (.seq (.seq (.reg [.bin 23 .eql (.t 4) (.c (S [61])),.mv 22 (.t 23)]) (.cond (.t 22) .skip (.seq (.reg [.bin 24 .eql (.t 4) (.c (S [92,61])),.mv 22 (.t 24)]) (.cond (.t 22) .skip (.seq (.reg [.bin 25 .eql (.t 4) (.c (S [61,61])),.mv 22 (.t 25)]) (.cond (.t 22) .skip (.seq (.reg [.bin 26 .eql (.t 4) (.c (S [105,115])),.mv 22 (.t 26)]) (.cond (.t 22) .skip (.seq (.reg [.bin 27 .eql (.t 4) (.c (S [60])),.mv 22 (.t 27)]) (.cond (.t 22) .skip (.reg [.bin 28 .eql (.t 4) (.c (S [61,58,61])),.mv 22 (.t 28)]))))))))))) (.keep [0,2,4,22] (.cond (.t 22) (.seq (.reg [.mv 29 (.t 0),.build 30 (.a [(S []),(I 0),(I 0),(I 0)]) [(0,1,(.t 29)),(1,1,(.c (I 700))),(2,1,(.c (I 699))),(3,1,(.c (I 699)))],.st 4 (.t 2) (.t 30),.mv 3 (.c (B true))]) (.keep [2,3] .ret)) (.seq (.seq (.reg [.bin 32 .eql (.t 4) (.c (S [43])),.mv 31 (.t 32)]) (.cond (.t 31) .skip (.reg [.bin 33 .eql (.t 4) (.c (S [45])),.mv 31 (.t 33)]))) (.keep [0,2,4,31] (.cond (.t 31) (.seq (.reg [.mv 34 (.t 0),.build 35 (.a [(S []),(I 0),(I 0),(I 0)]) [(0,1,(.t 34)),(1,1,(.c (I 500))),(2,1,(.c (I 500))),(3,1,(.c (I 499)))],.st 4 (.t 2) (.t 35),.mv 3 (.c (B true))]) (.keep [2,3] .ret)) (.seq (.seq (.reg [.bin 37 .eql (.t 4) (.c (S [42])),.mv 36 (.t 37)]) (.cond (.t 36) .skip (.reg [.bin 38 .eql (.t 4) (.c (S [47,47])),.mv 36 (.t 38)]))) (.keep [0,2,36] (.cond (.t 36) (.seq (.reg [.mv 39 (.t 0),.build 40 (.a [(S []),(I 0),(I 0),(I 0)]) [(0,1,(.t 39)),(1,1,(.c (I 400))),(2,1,(.c (I 400))),(3,1,(.c (I 399)))],.st 4 (.t 2) (.t 40),.mv 3 (.c (B true))]) (.keep [2,3] .ret)) .skip)))))))))))))))))))) (.keep [2] (.seq (.reg [.build 41 (.a [(S []),(I 0),(I 0),(I 0)]) [],.st 4 (.t 2) (.t 41),.mv 3 (.c (B false))]) (.keep [2,3] .ret)))))
def qal:AF where
 nargs:=1
 ntmps:=42
 res:=[.cell 2 true 4,.tmp 3]
 body:=(.seq (.reg [.new 2 (.c (.a [(S []),(I 0),(I 0),(I 0)])),.mv 3 (.c (B false))]) (.seq (.seq (.reg [.mv 4 (.t 0)]) (.block 0 (.seq (.seq (.reg [.bin 6 .eql (.t 4) (.c (S [58,45])),.mv 5 (.t 6)]) (.cond (.t 5) .skip (.reg [.bin 7 .eql (.t 4) (.c (S [45,45,62])),.mv 5 (.t 7)]))) (.keep [0,2,4,5] (.cond (.t 5) (.seq (.reg [.mv 8 (.t 0),.build 9 (.a [(S []),(I 0),(I 0),(I 0)]) [(0,1,(.t 8)),(1,1,(.c (I 1200))),(2,1,(.c (I 1199))),(3,1,(.c (I 1199)))],.st 4 (.t 2) (.t 9),.mv 3 (.c (B true))]) (.keep [2,3] .ret)) (.seq (.reg [.bin 11 .eql (.t 4) (.c (S [59])),.mv 10 (.t 11)]) (.cond (.t 10) (.seq (.reg [.mv 12 (.t 0),.build 13 (.a [(S []),(I 0),(I 0),(I 0)]) [(0,1,(.t 12)),(1,1,(.c (I 1100))),(2,1,(.c (I 1099))),(3,1,(.c (I 1100)))],.st 4 (.t 2) (.t 13),.mv 3 (.c (B true))]) (.keep [2,3] .ret)) (.seq (.reg [.bin 15 .eql (.t 4) (.c (S [45,62])),.mv 14 (.t 15)]) (.cond (.t 14) (.seq (.reg [.mv 16 (.t 0),.build 17 (.a [(S []),(I 0),(I 0),(I 0)]) [(0,1,(.t 16)),(1,1,(.c (I 1050))),(2,1,(.c (I 1049))),(3,1,(.c (I 1050)))],.st 4 (.t 2) (.t 17),.mv 3 (.c (B true))]) (.keep [2,3] .ret)) (.seq (.reg [.bin 19 .eql (.t 4) (.c (S [44])),.mv 18 (.t 19)]) (.cond (.t 18) (.seq (.reg [.mv 20 (.t 0),.build 21 (.a [(S []),(I 0),(I 0),(I 0)]) [(0,1,(.t 20)),(1,1,(.c (I 1000))),(2,1,(.c (I 999))),(3,1,(.c (I 1000)))],.st 4 (.t 2) (.t 21),.mv 3 (.c (B true))]) (.keep [2,3] .ret)) (.seq (.seq (.reg [.bin 23 .eql (.t 4) (.c (S [61])),.mv 22 (.t 23)]) (.cond (.t 22) .skip (.seq (.reg [.bin 24 .eql (.t 4) (.c (S [92,61])),.mv 22 (.t 24)]) (.cond (.t 22) .skip (.seq (.reg [.bin 25 .eql (.t 4) (.c (S [61,61])),.mv 22 (.t 25)]) (.cond (.t 22) .skip (.seq (.reg [.bin 26 .eql (.t 4) (.c (S [105,115])),.mv 22 (.t 26)]) (.cond (.t 22) .skip (.seq (.reg [.bin 27 .eql (.t 4) (.c (S [60])),.mv 22 (.t 27)]) (.cond (.t 22) .skip (.reg [.bin 28 .eql (.t 4) (.c (S [61,58,61])),.mv 22 (.t 28)]))))))))))) (.keep [0,2,4,22] (.cond (.t 22) (.seq (.reg [.mv 29 (.t 0),.build 30 (.a [(S []),(I 0),(I 0),(I 0)]) [(0,1,(.t 29)),(1,1,(.c (I 700))),(2,1,(.c (I 699))),(3,1,(.c (I 699)))],.st 4 (.t 2) (.t 30),.mv 3 (.c (B true))]) (.keep [2,3] .ret)) (.seq (.seq (.reg [.bin 32 .eql (.t 4) (.c (S [43])),.mv 31 (.t 32)]) (.cond (.t 31) .skip (.reg [.bin 33 .eql (.t 4) (.c (S [45])),.mv 31 (.t 33)]))) (.keep [0,2,4,31] (.cond (.t 31) (.seq (.reg [.mv 34 (.t 0),.build 35 (.a [(S []),(I 0),(I 0),(I 0)]) [(0,1,(.t 34)),(1,1,(.c (I 500))),(2,1,(.c (I 500))),(3,1,(.c (I 499)))],.st 4 (.t 2) (.t 35),.mv 3 (.c (B true))]) (.keep [2,3] .ret)) (.seq (.seq (.reg [.bin 37 .eql (.t 4) (.c (S [42])),.mv 36 (.t 37)]) (.cond (.t 36) .skip (.reg [.bin 38 .eql (.t 4) (.c (S [47,47])),.mv 36 (.t 38)]))) (.keep [0,2,36] (.cond (.t 36) (.seq (.reg [.mv 39 (.t 0),.build 40 (.a [(S []),(I 0),(I 0),(I 0)]) [(0,1,(.t 39)),(1,1,(.c (I 400))),(2,1,(.c (I 400))),(3,1,(.c (I 399)))],.st 4 (.t 2) (.t 40),.mv 3 (.c (B true))]) (.keep [2,3] .ret)) .skip)))))))))))))))))))) (.keep [2] (.seq (.reg [.build 41 (.a [(S []),(I 0),(I 0),(I 0)]) [],.st 4 (.t 2) (.t 41),.mv 3 (.c (B false))]) (.keep [2,3] .ret)))))
def YR:AF where
 nargs:=1
 ntmps:=10
 res:=[.cell 2 true 4]
 body:=(.seq (.reg [.new 2 (.c (.a [(I 0),(S []),(I 0),(.n 4)]))]) (.seq (.reg [.mv 4 (.t 0),.call (some 5) (.c (Fc jf)) [(.t 4),(.c (I 3))] (.io false),.new 3 (.c (.a [(I 0),(S []),(I 0),(.n 4)])),.st 4 (.t 3) (.t 5)]) (.keep [0,2,3] (.seq (.seq (.reg [.ld 6 true 4 (.t 3),.call (some 7) (.c (Fc je)) [(.t 6)] (.ro true)]) (.cond (.t 7) (.seq (.reg [.ld 8 true 4 (.t 3),.st 4 (.t 2) (.t 8)]) (.keep [0,2] .ret)) .skip)) (.keep [0,2] (.seq (.reg [.call (some 9) (.c (Fc Zd)) [(.c (S [97]))] (.ro false),.st 4 (.t 2) (.t 9)]) (.keep [0,2] .ret)))))))
def qbg:AC:=(.seq (.seq (.reg [.mv 27 (.t 5),.mv 28 (.t 0),.slen 29 (.t 28),.bin 30 .lss (.t 27) (.t 29),.mv 31 (.t 30),.gd 31 true (some 32) (.mv 32 (.t 0)),.gd 31 true (some 33) (.mv 33 (.t 5)),.gd 31 true (some 34) (.ix 34 (.t 32) (.t 33)),.gd 31 true (some 35) (.bin 35 .neq (.t 34) (.c (U8 10))),.pick 36 (.t 31) (.t 35) (.c (B false))]) (.keep [0,4,5,36] (.cond (.t 36) .skip (.keep [0,4,5] (.exit 2))))) (.keep [0,4,5] (.block 3 (.reg [.mv 37 (.t 5),.bin 38 .add (.t 37) (.c (I 1)),.mv 5 (.t 38)]))))
def qaV:Lp:=⟨[0,4,5],[(1,0)],qbg⟩
@[go_sem] theorem qHo:qaV.ls=[0,4,5]:=rfl
@[go_sem] theorem qHn:qaV.ks=[(1,0)]:=rfl
@[go_sem] theorem qHm:qaV.body=qbg:=rfl
def Z0:AC:=(.seq (.seq (.reg [.mv 13 (.t 5),.mv 14 (.t 0),.slen 15 (.t 14),.bin 16 .lss (.t 13) (.t 15)]) (.keep [0,4,5,16] (.cond (.t 16) .skip (.keep [4] (.exit 0))))) (.keep [0,4,5] (.block 1 (.seq (.seq (.reg [.mv 17 (.t 0),.mv 18 (.t 5),.ix 19 (.t 17) (.t 18),.call (some 20) (.c (Fc qdJ)) [(.t 19)] (.ro true)]) (.keep [0,4,5,20] (.cond (.t 20) (.seq (.reg [.mv 21 (.t 5),.bin 22 .add (.t 21) (.c (I 1)),.mv 5 (.t 22)]) (.keep [0,4,5] (.exit 1))) .skip))) (.keep [0,4,5] (.seq (.seq (.reg [.mv 23 (.t 0),.mv 24 (.t 5),.ix 25 (.t 23) (.t 24),.bin 26 .eql (.t 25) (.c (U8 37))]) (.keep [0,4,5,26] (.cond (.t 26) (.seq (.block 2 (lpC qaV)) (.keep [0,4,5] (.exit 1))) .skip))) (.keep [0,4,5] (.seq (.reg [.mv 40 (.t 0),.mv 41 (.t 5),.call (some 42) (.c (Fc qgn)) [(.t 40),(.t 41)] (.ro false),.mv 39 (.t 42),.ext 43 (.t 39) 0,.ext 44 (.t 39) 1,.new 6 (.c (.a [(I 0),(S []),(I 0),(I 0),(B false)])),.st 5 (.t 6) (.t 43),.mv 7 (.t 44)]) (.keep [0,4,6,7] (.seq (.reg [.mv 45 (.t 7),.mv 46 (.t 0),.slen 47 (.t 46),.bin 48 .lss (.t 45) (.t 47),.mv 49 (.t 48),.gd 49 true (some 50) (.mv 50 (.t 0)),.gd 49 true (some 51) (.mv 51 (.t 7)),.gd 49 true (some 52) (.ix 52 (.t 50) (.t 51)),.gd 49 true (some 53) (.bin 53 .eql (.t 52) (.c (U8 40))),.pick 54 (.t 49) (.t 53) (.c (B false)),.fa 55 (.t 6) 4,.st 1 (.t 55) (.t 54)]) (.keep [0,4,6,7] (.seq (.reg [.mv 56 (.t 4),.ld 57 true 5 (.t 6),.mks 58 5 [(.t 57)],.app 59 5 48 (.t 56) (.t 58),.mv 4 (.t 59)]) (.keep [0,4,7] (.reg [.mv 60 (.t 7),.mv 5 (.t 60)]))))))))))))))
def qaW:Lp:=⟨[0,4,5],[(1,0)],Z0⟩
@[go_sem] theorem qHr:qaW.ls=[0,4,5]:=rfl
@[go_sem] theorem qHq:qaW.ks=[(1,0)]:=rfl
@[go_sem] theorem qHp:qaW.body=Z0:=rfl
def YK:AF where
 nargs:=1
 ntmps:=62
 res:=[.tmp 2,.tmp 3]
 body:=(.seq (.reg [.mv 2 (.c (.n 5)),.mv 3 (.c (B false))]) (.seq (.reg [.mks 8 5 [],.mv 4 (.t 8)]) (.seq (.seq (.reg [.mv 9 (.t 0),.slen 10 (.t 9),.bin 11 .gtr (.t 10) (.c (I 3000))]) (.cond (.t 11) (.seq (.reg [.mv 12 (.t 4),.mv 2 (.t 12),.mv 3 (.c (B false))]) (.keep [2,3] .ret)) .skip)) (.keep [0,4] (.seq (.reg [.mv 5 (.c (I 0))]) (.seq (.block 0 (lpC qaW)) (.keep [4] (.seq (.reg [.mv 61 (.t 4),.mv 2 (.t 61),.mv 3 (.c (B true))]) (.keep [2,3] .ret)))))))))
def Qf:AF where
 nargs:=2
 ntmps:=52
 res:=[.cell 4 true 4,.tmp 5,.tmp 6,.tmp 7]
 body:=(.seq (.reg [.new 4 (.c (.a [(I 0),(S []),(I 0),(.n 4)])),.mv 5 (.c (.n 1)),.mv 6 (.c (I 0)),.mv 7 (.c (B false))]) (.keep [0,1,4] (.seq (.reg [.mv 11 (.t 0),.mv 12 (.t 1),.call (some 13) (.c (Fc qgp)) [(.t 11),(.t 12)] (.ro false),.mv 8 (.t 13)]) (.keep [0,1,4,8] (.seq (.seq (.reg [.mv 14 (.t 1),.mv 15 (.t 0),.len 16 (.t 15),.bin 17 .sub (.t 16) (.c (I 1)),.call (some 18) (.c (Fc Y4)) [(.t 14),(.c (I 0)),(.t 17)] (.ro true),.un 19 .not (.t 18)]) (.keep [0,1,4,8,19] (.cond (.t 19) (.seq (.reg [.build 20 (.a [(I 0),(S []),(I 0),(.n 4)]) [],.mks 21 1 [],.mv 22 (.t 8),.st 4 (.t 4) (.t 20),.mv 5 (.t 21),.mv 6 (.t 22),.mv 7 (.c (B false))]) (.keep [4,5,6,7] .ret)) .skip))) (.keep [0,1,4,8] (.seq (.reg [.mv 23 (.t 0),.mv 24 (.t 1),.build 25 (.a [(.n 5),(I 0),(B false),(I 0),(.n 1)]) [(0,1,(.t 23)),(1,1,(.t 24))],.new 26 (.t 25),.mv 9 (.t 26)]) (.keep [4,8,9] (.nam [4,8,9] [(2,0)] (.seq (.reg [.mv 27 (.t 9),.call (some 28) (.c (Fc z6)) [(.t 27),(.c (I 1200))] (.io false),.new 10 (.c (.a [(I 0),(S []),(I 0),(.n 4)])),.st 4 (.t 10) (.t 28)]) (.keep [4,8,9,10] (.seq (.seq (.reg [.mv 29 (.t 9),.call (some 30) (.c (Fc Qo)) [(.t 29),(.c (I 5)),(.c (S []))] (.ro true),.un 31 .not (.t 30),.mv 32 (.t 31),.gd 32 false (some 33) (.ld 33 true 4 (.t 10)),.gd 32 false (some 34) (.call (some 34) (.c (Fc je)) [(.t 33)] (.ro true)),.gd 32 false (some 35) (.un 35 .not (.t 34)),.pick 36 (.t 32) (.c (B true)) (.t 35)]) (.keep [4,8,9,10,36] (.cond (.t 36) (.seq (.reg [.build 37 (.a [(I 0),(S []),(I 0),(.n 4)]) [],.mks 38 1 [],.mv 39 (.t 8),.st 4 (.t 4) (.t 37),.mv 5 (.t 38),.mv 6 (.t 39),.mv 7 (.c (B false))]) (.keep [4,5,6,7] .ret)) .skip))) (.keep [4,9,10] (.seq (.opd [(500000,9,none)] (.dreg [⟨0,[(10,0)]⟩,⟨1,[]⟩,⟨0,[]⟩,⟨0,[]⟩,⟨0,[]⟩,⟨0,[(100000,1)]⟩,⟨1,[(41,0),(500000,0)]⟩,⟨0,[]⟩,⟨0,[]⟩,⟨0,[]⟩,⟨0,[(100000,1)]⟩,⟨0,[]⟩,⟨1,[(100000,0)]⟩,⟨0,[]⟩,⟨0,[]⟩,⟨0,[]⟩] [.ldq 40 true 4 (.t 10),.mks 41 1 [],.mv 42 (.t 9),.nilc 43 (.t 42),.fa 44 (.t 43) 4,.ldq 45 false 1 (.t 44),.app 46 1 16 (.t 41) (.t 45),.mv 47 (.t 9),.nilc 48 (.t 47),.fa 49 (.t 48) 1,.ldq 50 false 1 (.t 49),.bin 51 .add (.t 50) (.c (I 1)),.st 4 (.t 4) (.t 40),.mv 5 (.t 46),.mv 6 (.t 51),.mv 7 (.c (B true))])) (.keep [4,5,6,7] .ret)))))))))))))))
def Qt:AC:=(.seq (.seq (.reg [.mv 16 (.t 6),.mv 17 (.t 4),.len 18 (.t 17),.bin 19 .lss (.t 16) (.t 18)]) (.keep [0,2,3,4,5,6,19] (.cond (.t 19) .skip (.keep [0,2,3] (.exit 0))))) (.keep [0,2,3,4,5,6] (.seq (.block 1 (.seq (.reg [.mv 23 (.t 4),.mv 24 (.t 6),.ia 25 1 (.t 23) (.t 24),.ld 26 false 1 (.t 25),.bin 27 .add (.t 26) (.c (S [32,46])),.call (some 28) (.c (Fc qay)) [(.t 27)] (.ro true),.mv 22 (.t 28),.ext 29 (.t 22) 0,.ext 30 (.t 22) 1,.ext 31 (.t 22) 2,.new 7 (.c (.a [(I 0),(S []),(I 0),(.n 4)])),.st 4 (.t 7) (.t 29),.mv 8 (.t 30),.mv 9 (.t 31)]) (.keep [0,2,3,4,5,6,7,9] (.seq (.dreg [⟨0,[(7,0)]⟩,⟨1,[]⟩,⟨0,[]⟩,⟨0,[]⟩,⟨0,[(34,0),(100000,0),(100000,1),(100000,2),(100000,3),(100000,4),(100000,5)]⟩,⟨0,[(34,0),(100000,0),(100000,1),(100000,2),(100000,3),(100000,4),(100000,5)]⟩,⟨2,[(13,0),(13,1),(13,2),(13,3),(26,0),(28,0),(28,1),(28,2),(28,3),(33,0),(34,0),(38,0),(100000,0),(100000,1),(100000,2),(100000,3),(100000,4),(100000,5)]⟩,⟨0,[]⟩,⟨0,[]⟩,⟨0,[]⟩,⟨1,[]⟩,⟨1,[(10,0)]⟩,⟨0,[]⟩] [.ldq 33 true 4 (.t 7),.mks 34 1 [(.c (S [111,110,101])),(.c (S [116,119,111])),(.c (S []))],.mv 35 (.t 6),.bin 36 .rem (.t 35) (.c (I 3)),.ia 37 1 (.t 34) (.t 36),.ldq 38 false 1 (.t 37),.call (some 39) (.c (Fc qdC)) [(.t 33),(.t 38)] (.ro true),.mv 32 (.t 39),.ext 40 (.t 32) 0,.ext 41 (.t 32) 1,.new 10 (.c (.a [(I 0),(S []),(I 0),(.n 4),(I 0),(S []),(I 0),(.n 4),(S [])])),.st 9 (.t 10) (.t 40),.mv 11 (.t 41)]) (.keep [0,2,3,4,5,6,9,10,11] (.seq (.reg [.mv 42 (.t 9),.mv 43 (.t 42),.gd 43 true (some 44) (.mv 44 (.t 11)),.pick 45 (.t 43) (.t 44) (.c (B false)),.mv 46 (.t 45),.gd 46 true (some 47) (.mv 47 (.t 5)),.gd 46 true (some 48) (.bin 48 .eql (.t 47) (.c (I 0))),.gd 46 true (some 49) (.mv 49 (.t 48)),.gd 49 false (some 50) (.mv 50 (.t 6)),.gd 49 false (some 51) (.bin 51 .rem (.t 50) (.c (I 7))),.gd 49 false (some 52) (.mv 52 (.t 5)),.gd 49 false (some 53) (.bin 53 .neq (.t 51) (.t 52)),.gd 46 true (some 54) (.pick 54 (.t 49) (.c (B true)) (.t 53)),.pick 55 (.t 46) (.t 54) (.c (B false))]) (.keep [0,2,3,4,5,6,10,55] (.cond (.t 55) (.reg [.ld 57 true 2 (.t 3),.ld 58 true 9 (.t 10),.call (some 59) (.c (Fc qaw)) [(.t 57),(.t 58)] (.ro true),.mv 56 (.t 59),.ext 60 (.t 56) 0,.ext 61 (.t 56) 1,.st 2 (.t 3) (.t 60)]) .skip)))))))) (.keep [0,2,3,4,5,6] (.reg [.mv 20 (.t 6),.bin 21 .add (.t 20) (.c (I 1)),.mv 6 (.t 21)])))))
def Zg:Lp:=⟨[0,2,3,4,5,6],[(1,0)],Qt⟩
@[go_sem] theorem qIE:Zg.ls=[0,2,3,4,5,6]:=rfl
@[go_sem] theorem qID:Zg.ks=[(1,0)]:=rfl
@[go_sem] theorem qIC:Zg.body=Qt:=rfl
def YW:AF where
 nargs:=1
 ntmps:=67
 res:=[.cell 2 true 2]
 body:=(.seq (.reg [.new 2 (.c (.a [(.n 9),(.n 1)]))]) (.seq (.reg [.build 12 (.a [(.n 9),(.n 1)]) [],.new 3 (.c (.a [(.n 9),(.n 1)])),.st 2 (.t 3) (.t 12)]) (.seq (.reg [.call (some 13) (.c (Fc qaI)) [] (.ro false),.mv 4 (.t 13)]) (.seq (.reg [.mv 14 (.t 0),.call (some 15) (.c (Fc xF)) [(.t 14),(.c (I 7))] (.io true),.mv 5 (.t 15)]) (.seq (.seq (.reg [.mv 6 (.c (I 0))]) (.block 0 (lpC Zg))) (.keep [0,2,3] (.seq (.seq (.reg [.mv 62 (.t 0),.call (some 63) (.c (Fc KK)) [(.t 62),(.c (I 2))] (.io true)]) (.cond (.t 63) (.reg [.ld 64 true 2 (.t 3),.call (some 65) (.c (Fc qgd)) [(.t 64),(.c (S [117,110,107,110,111,119,110,47,49]))] (.ro true),.st 2 (.t 3) (.t 65)]) .skip)) (.keep [0,2,3] (.seq (.reg [.ld 66 true 2 (.t 3),.st 2 (.t 2) (.t 66)]) (.keep [0,2] .ret))))))))))
def ku:AF where
 nargs:=2
 ntmps:=48
 res:=[.cell 4 true 9,.tmp 5]
 body:=(.seq (.reg [.new 2 (.t 0),.new 4 (.c (.a [(I 0),(S []),(I 0),(.n 4),(I 0),(S []),(I 0),(.n 4),(S [])])),.mv 5 (.c (B false))]) (.seq (.seq (.reg [.ld 7 true 4 (.t 2),.call (some 8) (.c (Fc je)) [(.t 7)] (.ro true),.un 9 .not (.t 8)]) (.cond (.t 9) (.seq (.reg [.build 10 (.a [(I 0),(S []),(I 0),(.n 4),(I 0),(S []),(I 0),(.n 4),(S [])]) [],.st 9 (.t 4) (.t 10),.mv 5 (.c (B false))]) (.keep [4,5] .ret)) .skip)) (.keep [1,2,4] (.seq (.dreg [⟨0,[(2,0)]⟩,⟨2,[]⟩,⟨0,[]⟩,⟨0,[]⟩,⟨1,[]⟩,⟨1,[(6,0)]⟩] [.ldq 11 true 4 (.t 2),.call (some 12) (.c (Fc Zd)) [(.c (S [116,114,117,101]))] (.ro false),.mv 13 (.t 1),.build 14 (.a [(I 0),(S []),(I 0),(.n 4),(I 0),(S []),(I 0),(.n 4),(S [])]) [(0,4,(.t 11)),(4,4,(.t 12)),(8,1,(.t 13))],.new 6 (.c (.a [(I 0),(S []),(I 0),(.n 4),(I 0),(S []),(I 0),(.n 4),(S [])])),.st 9 (.t 6) (.t 14)]) (.keep [2,4,6] (.seq (.seq (.reg [.ld 15 true 4 (.t 2),.call (some 16) (.c (Fc ZX)) [(.t 15),(.c (S [58,45])),(.c (I 2))] (.ro true)]) (.cond (.t 16) (.seq (.reg [.fa 17 (.t 2) 3,.ld 18 false 1 (.t 17),.ia 19 4 (.t 18) (.c (I 0)),.ld 20 true 4 (.t 19),.fa 21 (.t 6) 0,.st 4 (.t 21) (.t 20)]) (.keep [2,4,6] (.seq (.reg [.fa 22 (.t 2) 3,.ld 23 false 1 (.t 22),.ia 24 4 (.t 23) (.c (I 1)),.ld 25 true 4 (.t 24),.fa 26 (.t 6) 4,.st 4 (.t 26) (.t 25)]) (.keep [4,6] (.seq (.reg [.fa 27 (.t 6) 4,.fa 28 (.t 27) 0,.ld 29 false 1 (.t 28),.bin 30 .eql (.t 29) (.c (I 1))]) (.keep [4,6,30] (.cond (.t 30) (.reg [.fa 31 (.t 6) 4,.ld 32 true 4 (.t 31),.mks 33 4 [(.t 32)],.build 34 (.a [(I 0),(S []),(I 0),(.n 4)]) [(0,1,(.c (I 4))),(1,1,(.c (S [99,97,108,108]))),(3,1,(.t 33))],.fa 35 (.t 6) 4,.st 4 (.t 35) (.t 34)]) .skip))))))) .skip)) (.keep [4,6] (.seq (.seq (.reg [.fa 36 (.t 6) 0,.ld 37 true 4 (.t 36),.call (some 38) (.c (Fc qdN)) [(.t 37)] (.ro true),.un 39 .not (.t 38),.mv 40 (.t 39),.gd 40 false (some 41) (.fa 41 (.t 6) 4),.gd 40 false (some 42) (.ld 42 true 4 (.t 41)),.gd 40 false (some 43) (.call (some 43) (.c (Fc je)) [(.t 42)] (.ro true)),.gd 40 false (some 44) (.un 44 .not (.t 43)),.pick 45 (.t 40) (.c (B true)) (.t 44)]) (.keep [4,6,45] (.cond (.t 45) (.seq (.reg [.build 46 (.a [(I 0),(S []),(I 0),(.n 4),(I 0),(S []),(I 0),(.n 4),(S [])]) [],.st 9 (.t 4) (.t 46),.mv 5 (.c (B false))]) (.keep [4,5] .ret)) .skip))) (.keep [4,6] (.seq (.reg [.ld 47 true 9 (.t 6),.st 9 (.t 4) (.t 47),.mv 5 (.c (B true))]) (.keep [4,5] .ret)))))))))))
def Ky:AF where
 nargs:=1
 ntmps:=12
 res:=[.cell 2 true 9]
 body:=(.seq (.reg [.new 1 (.t 0),.new 2 (.c (.a [(I 0),(S []),(I 0),(.n 4),(I 0),(S []),(I 0),(.n 4),(S [])]))]) (.seq (.reg [.fa 3 (.t 1) 0,.ld 4 true 4 (.t 3),.call (some 5) (.c (Fc ZY)) [(.t 4)] (.ro false),.fa 6 (.t 1) 0,.st 4 (.t 6) (.t 5)]) (.keep [1,2] (.seq (.reg [.fa 7 (.t 1) 4,.ld 8 true 4 (.t 7),.call (some 9) (.c (Fc ZY)) [(.t 8)] (.ro false),.fa 10 (.t 1) 4,.st 4 (.t 10) (.t 9)]) (.keep [1,2] (.seq (.reg [.ld 11 true 9 (.t 1),.st 9 (.t 2) (.t 11)]) (.keep [2] .ret)))))))
def qda:AF where
 nargs:=1
 ntmps:=6
 res:=[.tmp 2]
 body:=(.seq (.reg [.new 1 (.t 0),.mv 2 (.c (.n 1))]) (.seq (.reg [.ld 3 true 4 (.t 1),.mks 4 1 [],.call (some 5) (.c (Fc qjt)) [(.t 3),(.t 4)] (.io false),.mv 2 (.t 5)]) (.keep [2] .ret)))
def Kt:AF where
 nargs:=1
 ntmps:=8
 res:=[.cell 2 true 4]
 body:=(.seq (.reg [.new 1 (.t 0),.new 2 (.c (.a [(I 0),(S []),(I 0),(.n 4)]))]) (.seq (.reg [.fa 3 (.t 1) 0,.ld 4 true 4 (.t 3),.fa 5 (.t 1) 4,.ld 6 true 4 (.t 5),.call (some 7) (.c (Fc Ze)) [(.c (S [58,45])),(.t 4),(.t 6)] (.ro false),.st 4 (.t 2) (.t 7)]) (.keep [2] .ret)))
def KC:AF where
 nargs:=1
 ntmps:=8
 res:=[.cell 2 true 4]
 body:=(.seq (.reg [.new 1 (.t 0),.new 2 (.c (.a [(I 0),(S []),(I 0),(.n 4)]))]) (.seq (.reg [.fa 3 (.t 1) 3,.ld 4 false 1 (.t 3),.call (some 5) (.c (Fc qgH)) [(.t 4)] (.ro false),.fa 6 (.t 1) 3,.st 1 (.t 6) (.t 5)]) (.keep [1,2] (.seq (.reg [.ld 7 true 4 (.t 1),.st 4 (.t 2) (.t 7)]) (.keep [2] .ret)))))
def qbp:AC:=(.seq (.seq (.reg [.mv 89 (.t 7),.fa 90 (.t 1) 3,.ld 91 false 1 (.t 90),.len 92 (.t 91),.bin 93 .lss (.t 89) (.t 92)]) (.keep [1,6,7,93] (.cond (.t 93) .skip (.keep [6] (.exit 1))))) (.keep [1,6,7] (.seq (.block 2 (.seq (.seq (.reg [.mv 96 (.t 7),.bin 97 .gtr (.t 96) (.c (I 0))]) (.cond (.t 97) (.reg [.mv 98 (.t 6),.bin 99 .add (.t 98) (.c (S [44])),.mv 6 (.t 99)]) .skip)) (.keep [1,6,7] (.reg [.mv 100 (.t 6),.fa 101 (.t 1) 3,.ld 102 false 1 (.t 101),.mv 103 (.t 7),.ia 104 4 (.t 102) (.t 103),.ld 105 true 4 (.t 104),.call (some 106) (.c (Fc xt)) [(.t 105)] (.ro false),.bin 107 .add (.t 100) (.t 106),.mv 6 (.t 107)])))) (.keep [1,6,7] (.reg [.mv 94 (.t 7),.bin 95 .add (.t 94) (.c (I 1)),.mv 7 (.t 95)])))))
def KW:Lp:=⟨[1,6,7],[(1,0)],qbp⟩
@[go_sem] theorem qIy:KW.ls=[1,6,7]:=rfl
@[go_sem] theorem qIx:KW.ks=[(1,0)]:=rfl
@[go_sem] theorem qIw:KW.body=qbp:=rfl
def xE:AF where
 nargs:=1
 ntmps:=110
 res:=[.tmp 2]
 body:=(.seq (.reg [.new 1 (.t 0),.mv 2 (.c (S []))]) (.seq (.seq (.reg [.fa 8 (.t 1) 0,.ld 9 false 1 (.t 8)]) (.block 0 (.seq (.reg [.bin 11 .eql (.t 9) (.c (I 1)),.mv 10 (.t 11)]) (.cond (.t 10) (.seq (.reg [.fa 12 (.t 1) 2,.ld 13 false 1 (.t 12),.call (some 14) (.c (Fc KJ)) [(.t 13)] (.ro false),.bin 15 .add (.c (S [95])) (.t 14),.mv 2 (.t 15)]) (.keep [2] .ret)) (.seq (.reg [.bin 17 .eql (.t 9) (.c (I 3)),.mv 16 (.t 17)]) (.cond (.t 16) (.seq (.seq (.reg [.fa 18 (.t 1) 2,.ld 19 false 1 (.t 18),.bin 20 .lss (.t 19) (.c (I 0))]) (.cond (.t 20) (.seq (.reg [.fa 21 (.t 1) 2,.ld 22 false 1 (.t 21),.un 23 .neg (.t 22),.call (some 24) (.c (Fc KJ)) [(.t 23)] (.ro false),.bin 25 .add (.c (S [45])) (.t 24),.mv 2 (.t 25)]) (.keep [2] .ret)) .skip)) (.keep [1] (.seq (.reg [.fa 26 (.t 1) 2,.ld 27 false 1 (.t 26),.call (some 28) (.c (Fc KJ)) [(.t 27)] (.ro false),.mv 2 (.t 28)]) (.keep [2] .ret)))) (.seq (.reg [.bin 30 .eql (.t 9) (.c (I 2)),.mv 29 (.t 30)]) (.cond (.t 29) (.seq (.seq (.reg [.fa 31 (.t 1) 1,.ld 32 false 1 (.t 31),.bin 33 .eql (.t 32) (.c (S [91,93]))]) (.cond (.t 33) (.seq (.reg [.mv 2 (.c (S [91,93]))]) (.keep [2] .ret)) .skip)) (.keep [1] (.seq (.seq (.reg [.fa 34 (.t 1) 1,.ld 35 false 1 (.t 34),.call (some 36) (.c (Fc qgt)) [(.t 35)] (.ro true)]) (.cond (.t 36) (.seq (.reg [.fa 37 (.t 1) 1,.ld 38 false 1 (.t 37),.call (some 39) (.c (Fc ZU)) [(.t 38)] (.ro false),.bin 40 .add (.c (S [40])) (.t 39),.bin 41 .add (.t 40) (.c (S [41])),.mv 2 (.t 41)]) (.keep [2] .ret)) .skip)) (.keep [1] (.seq (.reg [.fa 42 (.t 1) 1,.ld 43 false 1 (.t 42),.call (some 44) (.c (Fc ZU)) [(.t 43)] (.ro false),.mv 2 (.t 44)]) (.keep [2] .ret)))))) .skip)))))))) (.keep [1] (.seq (.seq (.reg [.ld 45 true 4 (.t 1),.call (some 46) (.c (Fc ZX)) [(.t 45),(.c (S [46])),(.c (I 2))] (.ro true)]) (.cond (.t 46) (.seq (.reg [.ld 47 true 4 (.t 1),.call (some 48) (.c (Fc qgu)) [(.t 47)] (.ro false),.mv 2 (.t 48)]) (.keep [2] .ret)) .skip)) (.keep [1] (.seq (.reg [.fa 50 (.t 1) 1,.ld 51 false 1 (.t 50),.call (some 52) (.c (Fc Zc)) [(.t 51)] (.ro true),.mv 49 (.t 52),.ext 53 (.t 49) 0,.ext 54 (.t 49) 1,.new 3 (.c (.a [(S []),(I 0),(I 0),(I 0)])),.st 4 (.t 3) (.t 53),.mv 4 (.t 54)]) (.keep [1,4] (.seq (.seq (.reg [.mv 55 (.t 4),.mv 56 (.t 55),.gd 56 true (some 57) (.fa 57 (.t 1) 3),.gd 56 true (some 58) (.ld 58 false 1 (.t 57)),.gd 56 true (some 59) (.len 59 (.t 58)),.gd 56 true (some 60) (.bin 60 .eql (.t 59) (.c (I 2))),.pick 61 (.t 56) (.t 60) (.c (B false))]) (.keep [1,61] (.cond (.t 61) (.seq (.reg [.fa 62 (.t 1) 1,.ld 63 false 1 (.t 62),.call (some 64) (.c (Fc ZU)) [(.t 63)] (.ro false),.mv 5 (.t 64)]) (.keep [1,5] (.seq (.seq (.reg [.fa 65 (.t 1) 1,.ld 66 false 1 (.t 65),.bin 67 .eql (.t 66) (.c (S [44]))]) (.cond (.t 67) (.reg [.mv 5 (.c (S [44]))]) .skip)) (.keep [1,5] (.seq (.dreg [⟨0,[]⟩,⟨0,[(1,0)]⟩,⟨0,[(0,0),(0,1),(0,2),(0,3),(69,0),(100000,0),(100000,1),(100000,2),(100000,3),(100000,4),(100000,5)]⟩,⟨0,[(0,0),(0,1),(0,2),(0,3),(1,0),(69,0),(100000,0),(100000,1),(100000,2),(100000,3),(100000,4),(100000,5)]⟩,⟨2,[(0,0),(0,1),(0,2),(0,3),(69,0),(71,0),(100000,0),(100000,1),(100000,2),(100000,3),(100000,4),(100000,5)]⟩,⟨0,[]⟩,⟨0,[]⟩,⟨0,[]⟩,⟨0,[]⟩,⟨0,[]⟩,⟨0,[]⟩,⟨0,[(1,0)]⟩,⟨0,[(0,0),(0,1),(0,2),(0,3),(79,0),(100000,0),(100000,1),(100000,2),(100000,3),(100000,4),(100000,5)]⟩,⟨0,[(0,0),(0,1),(0,2),(0,3),(1,0),(79,0),(100000,0),(100000,1),(100000,2),(100000,3),(100000,4),(100000,5)]⟩,⟨2,[(0,0),(0,1),(0,2),(0,3),(79,0),(81,0),(100000,0),(100000,1),(100000,2),(100000,3),(100000,4),(100000,5)]⟩,⟨0,[]⟩,⟨0,[]⟩,⟨0,[]⟩] [.fa 68 (.t 1) 3,.ldq 69 false 1 (.t 68),.ia 70 4 (.t 69) (.c (I 0)),.ldq 71 true 4 (.t 70),.call (some 72) (.c (Fc xt)) [(.t 71)] (.ro false),.bin 73 .add (.c (S [40])) (.t 72),.bin 74 .add (.t 73) (.c (S [32])),.mv 75 (.t 5),.bin 76 .add (.t 74) (.t 75),.bin 77 .add (.t 76) (.c (S [32])),.fa 78 (.t 1) 3,.ldq 79 false 1 (.t 78),.ia 80 4 (.t 79) (.c (I 1)),.ldq 81 true 4 (.t 80),.call (some 82) (.c (Fc xt)) [(.t 81)] (.ro false),.bin 83 .add (.t 77) (.t 82),.bin 84 .add (.t 83) (.c (S [41])),.mv 2 (.t 84)]) (.keep [2] .ret)))))) .skip))) (.keep [1] (.seq (.reg [.fa 85 (.t 1) 1,.ld 86 false 1 (.t 85),.call (some 87) (.c (Fc ZU)) [(.t 86)] (.ro false),.bin 88 .add (.t 87) (.c (S [40])),.mv 6 (.t 88)]) (.keep [1,6] (.seq (.seq (.reg [.mv 7 (.c (I 0))]) (.block 1 (lpC KW))) (.keep [6] (.seq (.reg [.mv 108 (.t 6),.bin 109 .add (.t 108) (.c (S [41])),.mv 2 (.t 109)]) (.keep [2] .ret)))))))))))))))
def ZQ:AF where
 nargs:=1
 ntmps:=16
 res:=[.tmp 2]
 body:=(.seq (.reg [.new 1 (.t 0),.mv 2 (.c (B false))]) (.seq (.reg [.fa 3 (.t 1) 0,.ld 4 true 4 (.t 3),.call (some 5) (.c (Fc je)) [(.t 4)] (.ro false),.mv 6 (.t 5),.gd 6 true (some 7) (.fa 7 (.t 1) 4),.gd 6 true (some 8) (.ld 8 true 4 (.t 7)),.gd 6 true (some 9) (.call (some 9) (.c (Fc je)) [(.t 8)] (.ro false)),.pick 10 (.t 6) (.t 9) (.c (B false)),.mv 11 (.t 10),.gd 11 true (some 12) (.fa 12 (.t 1) 0),.gd 11 true (some 13) (.ld 13 true 4 (.t 12)),.gd 11 true (some 14) (.call (some 14) (.c (Fc qdN)) [(.t 13)] (.ro false)),.pick 15 (.t 11) (.t 14) (.c (B false)),.mv 2 (.t 15)]) (.keep [2] .ret)))
def qcv:AF where
 nargs:=1
 ntmps:=8
 res:=[.tmp 2]
 body:=(.seq (.reg [.new 1 (.t 0),.mv 2 (.c (S []))]) (.seq (.seq (.reg [.ld 3 true 4 (.t 1),.call (some 4) (.c (Fc YZ)) [(.t 3)] (.ro true),.un 5 .not (.t 4)]) (.cond (.t 5) (.seq (.reg [.mv 2 (.c (S []))]) (.keep [2] .ret)) .skip)) (.keep [1] (.seq (.reg [.ld 6 true 4 (.t 1),.call (some 7) (.c (Fc qdA)) [(.t 6)] (.ro false),.mv 2 (.t 7)]) (.keep [2] .ret)))))
def Ka:AF where
 nargs:=2
 ntmps:=37
 res:=[.tmp 4]
 body:=(.seq (.reg [.mv 4 (.c (I 0))]) (.seq (.seq (.reg [.mv 9 (.t 1),.bin 10 .leq (.t 9) (.c (I 0))]) (.cond (.t 10) (.seq (.reg [.mv 4 (.c (I 0))]) (.keep [0,4] .ret)) .skip)) (.keep [0,1] (.seq (.seq (.reg [.mv 11 (.t 1),.bin 12 .leq (.t 11) (.c (I 256))]) (.cond (.t 12) (.seq (.reg [.mv 13 (.t 0),.call (some 14) (.c (Fc Y3)) [(.t 13)] (.io false),.mv 15 (.t 1),.bin 16 .rem (.t 14) (.t 15),.mv 4 (.t 16)]) (.keep [0,4] .ret)) .skip)) (.keep [0,1] (.seq (.reg [.mv 17 (.t 0),.call (some 18) (.c (Fc Y3)) [(.t 17)] (.io false),.mv 5 (.t 18)]) (.seq (.reg [.mv 19 (.t 0),.call (some 20) (.c (Fc Y3)) [(.t 19)] (.io false),.mv 6 (.t 20)]) (.seq (.reg [.mv 21 (.t 0),.call (some 22) (.c (Fc Y3)) [(.t 21)] (.io false),.mv 7 (.t 22)]) (.seq (.reg [.mv 23 (.t 0),.call (some 24) (.c (Fc Y3)) [(.t 23)] (.io false),.mv 8 (.t 24)]) (.seq (.reg [.mv 25 (.t 5),.bin 26 .mul (.t 25) (.c (I 16777216)),.mv 27 (.t 6),.bin 28 .mul (.t 27) (.c (I 65536)),.bin 29 .add (.t 26) (.t 28),.mv 30 (.t 7),.bin 31 .mul (.t 30) (.c (I 256)),.bin 32 .add (.t 29) (.t 31),.mv 33 (.t 8),.bin 34 .add (.t 32) (.t 33),.mv 35 (.t 1),.bin 36 .rem (.t 34) (.t 35),.mv 4 (.t 36)]) (.keep [0,4] .ret)))))))))))
def qep:AC:=(.seq (.seq (.reg [.mv 6 (.t 4),.mv 7 (.t 0),.len 8 (.t 7),.bin 9 .lss (.t 6) (.t 8)]) (.keep [0,3,4,9] (.cond (.t 9) .skip (.keep [3] (.exit 0))))) (.keep [0,3,4] (.seq (.block 1 (.reg [.mv 12 (.t 3),.mv 13 (.t 0),.mv 14 (.t 4),.ia 15 9 (.t 13) (.t 14),.ld 16 true 9 (.t 15),.call (some 17) (.c (Fc qdO)) [(.t 16)] (.ro false),.mks 18 9 [(.t 17)],.app 19 9 128 (.t 12) (.t 18),.mv 3 (.t 19)])) (.keep [0,3,4] (.reg [.mv 10 (.t 4),.bin 11 .add (.t 10) (.c (I 1)),.mv 4 (.t 11)])))))
def qba:Lp:=⟨[0,3,4],[(1,0)],qep⟩
@[go_sem] theorem qIW:qba.ls=[0,3,4]:=rfl
@[go_sem] theorem qIV:qba.ks=[(1,0)]:=rfl
@[go_sem] theorem qIU:qba.body=qep:=rfl
def Kz:AF where
 nargs:=1
 ntmps:=21
 res:=[.tmp 2]
 body:=(.seq (.reg [.mv 2 (.c (.n 9))]) (.seq (.reg [.mks 5 9 [],.mv 3 (.t 5)]) (.seq (.seq (.reg [.mv 4 (.c (I 0))]) (.block 0 (lpC qba))) (.keep [3] (.seq (.reg [.mv 20 (.t 3),.mv 2 (.t 20)]) (.keep [2] .ret))))))
def Kc:AF where
 nargs:=3
 ntmps:=15
 res:=[.tmp 6]
 body:=(.seq (.reg [.mv 6 (.c (B false))]) (.seq (.reg [.mv 7 (.t 0),.mv 8 (.t 1),.bin 9 .geq (.t 7) (.t 8),.mv 10 (.t 9),.gd 10 true (some 11) (.mv 11 (.t 0)),.gd 10 true (some 12) (.mv 12 (.t 2)),.gd 10 true (some 13) (.bin 13 .leq (.t 11) (.t 12)),.pick 14 (.t 10) (.t 13) (.c (B false)),.mv 6 (.t 14)]) (.keep [6] .ret)))
def XZ:AF where
 nargs:=2
 ntmps:=8
 res:=[.cell 4 true 4]
 body:=(.seq (.reg [.new 4 (.c (.a [(I 0),(S []),(I 0),(.n 4)]))]) (.seq (.reg [.mv 5 (.t 0),.mv 6 (.t 1),.build 7 (.a [(I 0),(S []),(I 0),(.n 4)]) [(0,1,(.c (I 4))),(1,1,(.t 5)),(3,1,(.t 6))],.st 4 (.t 4) (.t 7)]) (.keep [4] .ret)))
def YS:AF where
 nargs:=3
 ntmps:=12
 res:=[.cell 6 true 4]
 body:=(.seq (.reg [.new 4 (.t 1),.new 5 (.t 2),.new 6 (.c (.a [(I 0),(S []),(I 0),(.n 4)]))]) (.seq (.reg [.mv 7 (.t 0),.ld 8 true 4 (.t 4),.ld 9 true 4 (.t 5),.mks 10 4 [(.t 8),(.t 9)],.build 11 (.a [(I 0),(S []),(I 0),(.n 4)]) [(0,1,(.c (I 4))),(1,1,(.t 7)),(3,1,(.t 10))],.st 4 (.t 6) (.t 11)]) (.keep [6] .ret)))
def qcy:AF where
 nargs:=2
 ntmps:=11
 res:=[.cell 4 true 4]
 body:=(.seq (.reg [.new 2 (.t 0),.new 3 (.t 1),.new 4 (.c (.a [(I 0),(S []),(I 0),(.n 4)]))]) (.seq (.reg [.ld 6 true 4 (.t 2),.call (some 7) (.c (Fc qpl)) [(.t 6)] (.ro false),.new 5 (.c (.n 1)),.st 1 (.t 5) (.t 7)]) (.keep [2,3,4,5] (.seq (.reg [.ld 8 true 4 (.t 2),.fun 9 (.func qpn) [] [(.t 3),(.t 5)],.call (some 10) (.c (Fc Y0)) [(.t 8),(.t 9)] (.ro false),.st 4 (.t 4) (.t 10)]) (.keep [4] .ret)))))
def qjU:AC:=(.seq (.seq (.reg [.mv 22 (.t 8),.fa 23 (.t 3) 3,.ld 24 false 1 (.t 23),.len 25 (.t 24),.bin 26 .lss (.t 22) (.t 25)]) (.keep [1,2,3,6,7,8,26] (.cond (.t 26) .skip (.keep [6,7] (.exit 0))))) (.keep [1,2,3,6,7,8] (.seq (.block 1 (.dreg [⟨0,[]⟩,⟨0,[(7,0),(100000,0),(100000,1),(100000,2),(100000,3),(100000,4),(100000,5)]⟩,⟨0,[]⟩,⟨0,[(3,0),(100000,0),(100000,1),(100000,2),(100000,3),(100000,4),(100000,5)]⟩,⟨0,[]⟩,⟨0,[(0,0),(0,1),(0,2),(0,3),(32,0),(100000,0),(100000,1),(100000,2),(100000,3),(100000,4),(100000,5)]⟩,⟨0,[(0,0),(0,1),(0,2),(0,3),(3,0),(32,0),(100000,0),(100000,1),(100000,2),(100000,3),(100000,4),(100000,5)]⟩,⟨0,[]⟩,⟨0,[]⟩,⟨2,[(0,0),(0,1),(0,2),(0,3),(1,0),(1,1),(1,2),(1,3),(2,0),(2,1),(2,2),(2,3),(32,0),(35,0),(100000,0),(100000,1),(100000,2),(100000,3),(100000,4),(100000,5)]⟩,⟨1,[]⟩,⟨1,[(0,0),(0,1),(0,2),(0,3),(1,0),(1,1),(1,2),(1,3),(2,0),(2,1),(2,2),(2,3),(32,0),(35,0),(38,0),(38,1),(38,2),(38,3),(39,0),(500000,0),(100000,0),(100000,1),(100000,2),(100000,3),(100000,4),(100000,5)]⟩,⟨0,[]⟩,⟨1,[(7,0),(100000,0),(100000,1),(100000,2),(100000,3),(100000,4),(100000,5)]⟩] [.fa 29 (.t 7) 3,.ldq 30 false 1 (.t 29),.fa 31 (.t 3) 3,.ldq 32 false 1 (.t 31),.mv 33 (.t 8),.ia 34 4 (.t 32) (.t 33),.ldq 35 true 4 (.t 34),.mv 36 (.t 1),.mv 37 (.t 2),.call (some 38) (.c (Fc qgC)) [(.t 35),(.t 36),(.t 37)] (.ro false),.mks 39 4 [(.t 38)],.app 40 4 56 (.t 30) (.t 39),.fa 41 (.t 7) 3,.st 1 (.t 41) (.t 40)])) (.keep [1,2,3,6,7,8] (.reg [.mv 27 (.t 8),.bin 28 .add (.t 27) (.c (I 1)),.mv 8 (.t 28)])))))
def qeb:Lp:=⟨[1,2,3,6,7,8],[(3,0)],qjU⟩
@[go_sem] theorem qIK:qeb.ls=[1,2,3,6,7,8]:=rfl
@[go_sem] theorem qIJ:qeb.ks=[(3,0)]:=rfl
@[go_sem] theorem qII:qeb.body=qjU:=rfl
def qdf:AF where
 nargs:=3
 ntmps:=43
 res:=[.cell 6 true 4]
 body:=(.seq (.reg [.new 3 (.t 0),.new 6 (.c (.a [(I 0),(S []),(I 0),(.n 4)]))]) (.seq (.reg [.ld 9 true 4 (.t 3),.new 7 (.c (.a [(I 0),(S []),(I 0),(.n 4)])),.st 4 (.t 7) (.t 9)]) (.seq (.seq (.reg [.fa 10 (.t 3) 0,.ld 11 false 1 (.t 10),.bin 12 .eql (.t 11) (.c (I 1))]) (.cond (.t 12) (.reg [.mv 13 (.t 2),.mv 14 (.t 1),.fa 15 (.t 3) 2,.ld 16 false 1 (.t 15),.call (some 17) (.c (Fc qpI)) [(.t 14),(.t 16)] (.ro false),.bin 18 .add (.t 13) (.t 17),.fa 19 (.t 7) 2,.st 1 (.t 19) (.t 18)]) .skip)) (.keep [1,2,3,6,7] (.seq (.reg [.mks 20 4 [],.fa 21 (.t 7) 3,.st 1 (.t 21) (.t 20)]) (.seq (.seq (.reg [.mv 8 (.c (I 0))]) (.block 0 (lpC qeb))) (.keep [6,7] (.seq (.reg [.ld 42 true 4 (.t 7),.st 4 (.t 6) (.t 42)]) (.keep [6] .ret)))))))))
def XL:AF where
 nargs:=1
 ntmps:=5
 res:=[.tmp 2]
 body:=(.seq (.reg [.mv 2 (.c (S []))]) (.seq (.reg [.mv 3 (.t 0),.call (some 4) (.c (Fc qju)) [(.t 3)] (.ro false),.mv 2 (.t 4)]) (.keep [2] .ret)))
def qct:AF where
 nargs:=1
 ntmps:=6
 res:=[.tmp 2]
 body:=(.seq (.reg [.new 1 (.t 0),.mv 2 (.c (S []))]) (.seq (.reg [.fa 3 (.t 1) 3,.ld 4 false 1 (.t 3),.call (some 5) (.c (Fc qpo)) [(.t 4)] (.ro false),.mv 2 (.t 5)]) (.keep [2] .ret)))
def qcT:AF where
 nargs:=2
 ntmps:=25
 res:=[.tmp 4]
 body:=(.seq (.reg [.new 2 (.t 0),.mv 4 (.c (I 0))]) (.seq (.reg [.fa 5 (.t 2) 0,.ld 6 true 4 (.t 5),.mv 7 (.t 1),.call (some 8) (.c (Fc qf1)) [(.t 6),(.t 7)] (.ro false),.mv 1 (.t 8)]) (.keep [1,2] (.seq (.seq (.reg [.mv 9 (.t 1),.bin 10 .lss (.t 9) (.c (I 0))]) (.cond (.t 10) (.seq (.reg [.mv 4 (.c (I (-1)))]) (.keep [4] .ret)) .skip)) (.keep [1,2] (.seq (.reg [.fa 11 (.t 2) 4,.ld 12 true 4 (.t 11),.mv 13 (.t 1),.call (some 14) (.c (Fc qf1)) [(.t 12),(.t 13)] (.ro false),.mv 1 (.t 14)]) (.keep [1,2] (.seq (.seq (.reg [.mv 15 (.t 1),.bin 16 .lss (.t 15) (.c (I 0))]) (.cond (.t 16) (.seq (.reg [.mv 4 (.c (I (-1)))]) (.keep [4] .ret)) .skip)) (.keep [1,2] (.seq (.reg [.mv 17 (.t 1),.fa 18 (.t 2) 8,.ld 19 false 1 (.t 18),.slen 20 (.t 19),.bin 21 .sub (.t 17) (.t 20),.mv 1 (.t 21)]) (.keep [1] (.seq (.seq (.reg [.mv 22 (.t 1),.bin 23 .lss (.t 22) (.c (I 0))]) (.cond (.t 23) (.seq (.reg [.mv 4 (.c (I (-1)))]) (.keep [4] .ret)) .skip)) (.keep [1] (.seq (.reg [.mv 24 (.t 1),.mv 4 (.t 24)]) (.keep [4] .ret)))))))))))))))
def qcZ:AF where
 nargs:=1
 ntmps:=16
 res:=[.cell 2 true 9]
 body:=(.seq (.reg [.new 1 (.t 0),.new 2 (.c (.a [(I 0),(S []),(I 0),(.n 4),(I 0),(S []),(I 0),(.n 4),(S [])]))]) (.seq (.reg [.new 3 (.c (.a [(I 0),(S []),(I 0),(.n 4),(I 0),(S []),(I 0),(.n 4),(S [])]))]) (.seq (.reg [.fa 4 (.t 1) 0,.ld 5 true 4 (.t 4),.call (some 6) (.c (Fc qf2)) [(.t 5)] (.ro false),.fa 7 (.t 3) 0,.st 4 (.t 7) (.t 6)]) (.keep [1,2,3] (.seq (.reg [.fa 8 (.t 1) 4,.ld 9 true 4 (.t 8),.call (some 10) (.c (Fc qf2)) [(.t 9)] (.ro false),.fa 11 (.t 3) 4,.st 4 (.t 11) (.t 10)]) (.keep [1,2,3] (.seq (.reg [.fa 12 (.t 1) 8,.ld 13 false 1 (.t 12),.fa 14 (.t 3) 8,.st 1 (.t 14) (.t 13)]) (.keep [2,3] (.seq (.reg [.ld 15 true 9 (.t 3),.st 9 (.t 2) (.t 15)]) (.keep [2] .ret))))))))))
def qcN:AF where
 nargs:=2
 ntmps:=22
 res:=[.tmp 4]
 body:=(.seq (.reg [.new 2 (.t 0),.new 3 (.t 1),.mv 4 (.c (B false))]) (.seq (.seq (.reg [.fa 5 (.t 2) 0,.ld 6 true 4 (.t 5),.fa 7 (.t 3) 0,.ld 8 true 4 (.t 7),.call (some 9) (.c (Fc qf0)) [(.t 6),(.t 8)] (.ro true),.un 10 .not (.t 9)]) (.keep [2,3,10] (.cond (.t 10) (.seq (.reg [.mv 4 (.c (B false))]) (.keep [4] .ret)) .skip))) (.keep [2,3] (.seq (.seq (.reg [.fa 11 (.t 2) 4,.ld 12 true 4 (.t 11),.fa 13 (.t 3) 4,.ld 14 true 4 (.t 13),.call (some 15) (.c (Fc qf0)) [(.t 12),(.t 14)] (.ro true),.un 16 .not (.t 15)]) (.keep [2,3,16] (.cond (.t 16) (.seq (.reg [.mv 4 (.c (B false))]) (.keep [4] .ret)) .skip))) (.keep [2,3] (.seq (.seq (.reg [.fa 17 (.t 2) 8,.ld 18 false 1 (.t 17),.fa 19 (.t 3) 8,.ld 20 false 1 (.t 19),.bin 21 .neq (.t 18) (.t 20)]) (.keep [21] (.cond (.t 21) (.seq (.reg [.mv 4 (.c (B false))]) (.keep [4] .ret)) .skip))) (.keep [] (.seq (.reg [.mv 4 (.c (B true))]) (.keep [4] .ret)))))))))
def Ku:AF where
 nargs:=1
 ntmps:=12
 res:=[.cell 2 true 2]
 body:=(.seq (.reg [.new 1 (.t 0),.new 2 (.c (.a [(.n 9),(.n 1)]))]) (.seq (.dreg [⟨1,[]⟩,⟨0,[]⟩,⟨0,[(1,0)]⟩,⟨1,[(3,0),(500000,0)]⟩,⟨1,[]⟩,⟨0,[]⟩,⟨0,[(1,0)]⟩,⟨1,[(7,0),(500000,0)]⟩,⟨0,[]⟩,⟨1,[(2,0)]⟩] [.mks 3 9 [],.fa 4 (.t 1) 0,.ldq 5 false 1 (.t 4),.app 6 9 128 (.t 3) (.t 5),.mks 7 1 [],.fa 8 (.t 1) 1,.ldq 9 false 1 (.t 8),.app 10 1 16 (.t 7) (.t 9),.build 11 (.a [(.n 9),(.n 1)]) [(0,1,(.t 6)),(1,1,(.t 10))],.st 2 (.t 2) (.t 11)]) (.keep [2] .ret)))
def ZJ:AF where
 nargs:=1
 ntmps:=19
 res:=[.tmp 2]
 body:=(.seq (.reg [.new 1 (.t 0),.mv 2 (.c (S []))]) (.seq (.seq (.reg [.fa 3 (.t 1) 0,.ld 4 false 1 (.t 3),.bin 5 .neq (.t 4) (.c (I 2)),.mv 6 (.t 5),.gd 6 true (some 7) (.fa 7 (.t 1) 0),.gd 6 true (some 8) (.ld 8 false 1 (.t 7)),.gd 6 true (some 9) (.bin 9 .neq (.t 8) (.c (I 4))),.pick 10 (.t 6) (.t 9) (.c (B false))]) (.keep [1,10] (.cond (.t 10) (.seq (.reg [.mv 2 (.c (S []))]) (.keep [2] .ret)) .skip))) (.keep [1] (.seq (.dreg [⟨0,[]⟩,⟨0,[(1,0)]⟩,⟨0,[]⟩,⟨0,[]⟩,⟨0,[(1,0)]⟩,⟨0,[(0,0),(0,1),(0,2),(0,3),(15,0)]⟩,⟨2,[(0,0),(0,1),(0,2),(0,3),(15,0)]⟩,⟨0,[]⟩,⟨0,[]⟩] [.fa 11 (.t 1) 1,.ldq 12 false 1 (.t 11),.bin 13 .add (.t 12) (.c (S [47])),.fa 14 (.t 1) 3,.ldq 15 false 1 (.t 14),.len 16 (.t 15),.call (some 17) (.c (Fc KJ)) [(.t 16)] (.ro false),.bin 18 .add (.t 13) (.t 17),.mv 2 (.t 18)]) (.keep [2] .ret)))))
def KB:AF where
 nargs:=1
 ntmps:=6
 res:=[.tmp 2]
 body:=(.seq (.reg [.mv 2 (.c (.n 1))]) (.seq (.reg [.mks 3 1 [],.mv 4 (.t 0),.app 5 1 16 (.t 3) (.t 4),.mv 2 (.t 5)]) (.keep [2] .ret)))
def qbo:AC:=(.seq (.seq (.reg [.mv 5 (.t 4),.mv 6 (.t 0),.call (some 7) (.c (Fc xF)) [(.t 6),(.c (I 4))] (.io true),.bin 8 .add (.c (I 1)) (.t 7),.bin 9 .lss (.t 5) (.t 8)]) (.keep [0,3,4,9] (.cond (.t 9) .skip (.keep [0,3] (.exit 0))))) (.keep [0,3,4] (.seq (.block 1 (.reg [.mv 12 (.t 3),.mv 13 (.t 0),.mks 14 1 [(.c (S [97])),(.c (S [112,40,88,44,32,98,41])),(.c (S [113,32,58,45,32,112,40,88,44,32,89,41,44,32,92,43,32,114,40,89,41])),(.c (S [91,97,44,32,66,124,67,93,32,61,32,68])),(.c (S [120,32,45,45,62,32,91,119,93,44,32,121])),(.c (S [45,32,51,32,43,32,45,51,32,42,32,88])),(.c (S [102,40,45,44,32,97,41])),(.c (S [40,43,41])),(.c (S [88,32,105,115,32,49,32,43,32,50,32,45,32,51])),(.c (S [97,32,58,45,32,40,98,32,59,32,99,32,45,62,32,100,41])),(.c (S [39,120,45,121,39,40,90,41])),(.c (S [102,40,97])),(.c (S [91,93])),(.c (S [103,40,95,44,32,95,41])),(.c (S [58,45,32,111,112,101,110,40,47,40,97,44,32,50,41,41])),(.c (S [97,32,98])),(.c (S [45,32,40,49,41]))],.call (some 15) (.c (Fc jK)) [(.t 13),(.t 14)] (.io false),.bin 16 .add (.t 12) (.t 15),.mv 17 (.t 0),.mks 18 1 [(.c (S [46,10])),(.c (S [46,32])),(.c (S [46])),(.c (S [32,46,10,37,32,110,111,10]))],.call (some 19) (.c (Fc jK)) [(.t 17),(.t 18)] (.io false),.bin 20 .add (.t 16) (.t 19),.mv 3 (.t 20)])) (.keep [0,3,4] (.reg [.mv 10 (.t 4),.bin 11 .add (.t 10) (.c (I 1)),.mv 4 (.t 11)])))))
def qa5:Lp:=⟨[0,3,4],[(1,0)],qbo⟩
@[go_sem] theorem qIs:qa5.ls=[0,3,4]:=rfl
@[go_sem] theorem qIr:qa5.ks=[(1,0)]:=rfl
@[go_sem] theorem qIq:qa5.body=qbo:=rfl
def Kr:AF where
 nargs:=1
 ntmps:=22
 res:=[.tmp 2]
 body:=(.seq (.reg [.mv 2 (.c (S []))]) (.seq (.reg [.mv 3 (.c (S []))]) (.seq (.seq (.reg [.mv 4 (.c (I 0))]) (.block 0 (lpC qa5))) (.keep [0,3] (.seq (.reg [.mv 21 (.t 3),.mv 2 (.t 21)]) (.keep [0,2] .ret))))))
def qbk:AC:=(.seq (.seq (.reg [.mv 66 (.t 7),.mv 67 (.t 0),.call (some 68) (.c (Fc xF)) [(.t 67),(.c (I 3))] (.io true),.bin 69 .add (.c (I 1)) (.t 68),.bin 70 .lss (.t 66) (.t 69)]) (.keep [0,1,4,6,7,70] (.cond (.t 70) .skip (.keep [0,4,6] (.exit 1))))) (.keep [0,1,4,6,7] (.seq (.block 2 (.seq (.reg [.fa 73 (.t 6) 3,.ld 74 false 1 (.t 73),.len 75 (.t 74),.bin 76 .lss (.t 75) (.c (I 5))]) (.keep [0,1,4,6,7,76] (.cond (.t 76) (.dreg [⟨0,[]⟩,⟨0,[(6,0),(100000,0),(100000,1),(100000,2),(100000,3),(100000,4),(100000,5)]⟩,⟨0,[]⟩,⟨0,[]⟩,⟨0,[]⟩,⟨1,[(0,0)]⟩,⟨1,[]⟩,⟨1,[(0,0),(0,1),(0,2),(0,3),(1,0),(1,1),(1,2),(1,3),(82,0),(82,1),(82,2),(82,3),(83,0),(500000,0),(100000,0),(100000,1),(100000,2),(100000,3),(100000,4),(100000,5)]⟩,⟨0,[]⟩,⟨1,[(6,0),(100000,0),(100000,1),(100000,2),(100000,3),(100000,4),(100000,5)]⟩] [.fa 77 (.t 6) 3,.ldq 78 false 1 (.t 77),.mv 79 (.t 0),.mv 80 (.t 1),.bin 81 .sub (.t 80) (.c (I 1)),.call (some 82) (.c (Fc jf)) [(.t 79),(.t 81)] (.io false),.mks 83 4 [(.t 82)],.app 84 4 56 (.t 78) (.t 83),.fa 85 (.t 6) 3,.st 1 (.t 85) (.t 84)]) .skip)))) (.keep [0,1,4,6,7] (.reg [.mv 71 (.t 7),.bin 72 .add (.t 71) (.c (I 1)),.mv 7 (.t 72)])))))
def qaZ:Lp:=⟨[0,1,4,6,7],[(2,0)],qbk⟩
@[go_sem] theorem qHM:qaZ.ls=[0,1,4,6,7]:=rfl
@[go_sem] theorem qHL:qaZ.ks=[(2,0)]:=rfl
@[go_sem] theorem qHK:qaZ.body=qbk:=rfl
def kr:AF where
 nargs:=2
 ntmps:=87
 res:=[.cell 4 true 4]
 body:=(.seq (.reg [.new 4 (.c (.a [(I 0),(S []),(I 0),(.n 4)]))]) (.seq (.reg [.mv 8 (.t 0),.call (some 9) (.c (Fc xF)) [(.t 8),(.c (I 10))] (.io true),.mv 5 (.t 9)]) (.seq (.seq (.reg [.mv 10 (.t 1),.bin 11 .leq (.t 10) (.c (I 0))]) (.cond (.t 11) (.reg [.mv 12 (.t 5),.bin 13 .rem (.t 12) (.c (I 6)),.mv 5 (.t 13)]) .skip)) (.keep [0,1,4,5] (.seq (.block 0 (.seq (.reg [.mv 15 (.t 5),.bin 16 .lss (.t 15) (.c (I 2)),.mv 14 (.t 16)]) (.cond (.t 14) (.seq (.reg [.mv 17 (.t 0),.call (some 18) (.c (Fc xF)) [(.t 17),(.c (I 4))] (.io false),.call (some 19) (.c (Fc qaE)) [(.t 18)] (.ro false),.st 4 (.t 4) (.t 19)]) (.keep [0,4] .ret)) (.seq (.reg [.mv 21 (.t 5),.bin 22 .lss (.t 21) (.c (I 4)),.mv 20 (.t 22)]) (.cond (.t 20) (.seq (.reg [.mv 23 (.t 0),.ssl 24 (.c (S [120,32,121])) none (some (.c (I 1))),.mks 25 1 [(.c (S [97])),(.c (S [98])),(.c (S [91,93])),(.c (S [43])),(.c (S [66,105,103])),(.t 24),(.c (S [58,45])),(.c (S [61,46,46]))],.call (some 26) (.c (Fc jK)) [(.t 23),(.t 25)] (.io false),.call (some 27) (.c (Fc Zd)) [(.t 26)] (.ro false),.st 4 (.t 4) (.t 27)]) (.keep [0,4] .ret)) (.seq (.reg [.mv 29 (.t 5),.bin 30 .lss (.t 29) (.c (I 6)),.mv 28 (.t 30)]) (.cond (.t 28) (.seq (.reg [.mv 31 (.t 0),.mks 32 1 [(.c (I 0)),(.c (I 1)),(.c (I (-7))),(.c (I 999999999))],.call (some 33) (.c (Fc qgi)) [(.t 31),(.t 32)] (.io false),.call (some 34) (.c (Fc qaC)) [(.t 33)] (.ro false),.st 4 (.t 4) (.t 34)]) (.keep [0,4] .ret)) (.seq (.reg [.mv 36 (.t 5),.bin 37 .eql (.t 36) (.c (I 6)),.mv 35 (.t 37)]) (.cond (.t 35) (.seq (.reg [.mv 38 (.t 0),.mv 39 (.t 1),.bin 40 .sub (.t 39) (.c (I 1)),.call (some 41) (.c (Fc jf)) [(.t 38),(.t 40)] (.io false),.mv 42 (.t 0),.mv 43 (.t 1),.bin 44 .sub (.t 43) (.c (I 1)),.call (some 45) (.c (Fc jf)) [(.t 42),(.t 44)] (.io false),.call (some 46) (.c (Fc Ze)) [(.c (S [46])),(.t 41),(.t 45)] (.io false),.st 4 (.t 4) (.t 46)]) (.keep [0,4] .ret)) (.seq (.reg [.mv 48 (.t 5),.bin 49 .eql (.t 48) (.c (I 7)),.mv 47 (.t 49)]) (.cond (.t 47) (.seq (.reg [.mv 50 (.t 0),.mks 51 1 [(.c (S [43])),(.c (S [61])),(.c (S [44])),(.c (S [102])),(.c (S [59]))],.call (some 52) (.c (Fc jK)) [(.t 50),(.t 51)] (.io false),.mv 53 (.t 0),.mv 54 (.t 1),.bin 55 .sub (.t 54) (.c (I 1)),.call (some 56) (.c (Fc jf)) [(.t 53),(.t 55)] (.io false),.mv 57 (.t 0),.mv 58 (.t 1),.bin 59 .sub (.t 58) (.c (I 1)),.call (some 60) (.c (Fc jf)) [(.t 57),(.t 59)] (.io false),.call (some 61) (.c (Fc Ze)) [(.t 52),(.t 56),(.t 60)] (.io false),.st 4 (.t 4) (.t 61)]) (.keep [0,4] .ret)) .skip))))))))))) (.keep [0,1,4] (.seq (.reg [.mv 62 (.t 0),.mks 63 1 [(.c (S [102])),(.c (S [103])),(.c (S [45])),(.c (S [91,93]))],.call (some 64) (.c (Fc jK)) [(.t 62),(.t 63)] (.io false),.build 65 (.a [(I 0),(S []),(I 0),(.n 4)]) [(0,1,(.c (I 4))),(1,1,(.t 64))],.new 6 (.c (.a [(I 0),(S []),(I 0),(.n 4)])),.st 4 (.t 6) (.t 65)]) (.keep [0,1,4,6] (.seq (.seq (.reg [.mv 7 (.c (I 0))]) (.block 1 (lpC qaZ))) (.keep [0,4,6] (.seq (.reg [.ld 86 true 4 (.t 6),.st 4 (.t 4) (.t 86)]) (.keep [0,4] .ret))))))))))))
def X4:AF where
 nargs:=1
 ntmps:=19
 res:=[.cell 2 true 9]
 body:=(.seq (.reg [.new 2 (.c (.a [(I 0),(S []),(I 0),(.n 4),(I 0),(S []),(I 0),(.n 4),(S [])]))]) (.seq (.reg [.mv 8 (.t 0),.call (some 9) (.c (Fc qf5)) [(.t 8)] (.ro true),.mv 7 (.t 9),.ext 10 (.t 7) 0,.ext 11 (.t 7) 1,.new 3 (.c (.a [(I 0),(S []),(I 0),(.n 4)])),.st 4 (.t 3) (.t 10),.mv 4 (.t 11)]) (.keep [2,3,4] (.seq (.reg [.ld 13 true 4 (.t 3),.mv 14 (.t 4),.call (some 15) (.c (Fc qdC)) [(.t 13),(.t 14)] (.ro false),.mv 12 (.t 15),.ext 16 (.t 12) 0,.ext 17 (.t 12) 1,.new 5 (.c (.a [(I 0),(S []),(I 0),(.n 4),(I 0),(S []),(I 0),(.n 4),(S [])])),.st 9 (.t 5) (.t 16),.mv 6 (.t 17)]) (.keep [2,5] (.seq (.reg [.ld 18 true 9 (.t 5),.st 9 (.t 2) (.t 18)]) (.keep [2] .ret)))))))
def qbe:AC:=(.seq (.reg [.bin 85 .lss (.t 84) (.t 83)]) (.seq (.cond (.t 85) .skip (.keep [5] (.exit 1))) (.keep [1,5,82,83,84] (.seq (.block 2 (.seq (.reg [.ia 86 4 (.t 82) (.t 84),.ld 87 true 4 (.t 86),.new 7 (.c (.a [(I 0),(S []),(I 0),(.n 4)])),.st 4 (.t 7) (.t 87)]) (.keep [1,5,7,82,83,84] (.seq (.reg [.mv 88 (.t 5),.ld 89 true 4 (.t 7),.mv 90 (.t 1),.bin 91 .add (.t 90) (.c (I 1)),.call (some 92) (.c (Fc qav)) [(.t 89),(.t 91)] (.ro false),.bin 93 .add (.t 88) (.t 92),.mv 5 (.t 93)]) (.keep [1,5,82,83,84] (.seq (.reg [.mv 94 (.t 5),.bin 95 .gtr (.t 94) (.c (I 400))]) (.cond (.t 95) (.seq (.reg [.mv 4 (.c (I 401))]) (.keep [4] .ret)) .skip))))))) (.keep [1,5,82,83,84] (.reg [.bin 96 .add (.t 84) (.c (I 1)),.mv 84 (.t 96)]))))))
def Qq:Lp:=⟨[1,5,82,83,84],[(2,0)],qbe⟩
@[go_sem] theorem qGw:Qq.ls=[1,5,82,83,84]:=rfl
@[go_sem] theorem qGv:Qq.ks=[(2,0)]:=rfl
@[go_sem] theorem qGu:Qq.body=qbe:=rfl
def zZ:AF where
 nargs:=2
 ntmps:=98
 res:=[.tmp 4]
 body:=(.seq (.reg [.new 2 (.t 0),.mv 4 (.c (I 0))]) (.seq (.seq (.reg [.mv 8 (.t 1),.bin 9 .gtr (.t 8) (.c (I 40))]) (.cond (.t 9) (.seq (.reg [.mv 4 (.c (I 401))]) (.keep [4] .ret)) .skip)) (.keep [1,2] (.seq (.seq (.reg [.fa 10 (.t 2) 0,.ld 11 false 1 (.t 10)]) (.block 0 (.seq (.reg [.bin 13 .eql (.t 11) (.c (I 1)),.mv 12 (.t 13)]) (.cond (.t 12) (.seq (.reg [.fa 14 (.t 2) 1,.ld 15 false 1 (.t 14),.bin 16 .neq (.t 15) (.c (S [])),.mv 17 (.t 16),.gd 17 false (some 18) (.fa 18 (.t 2) 2),.gd 17 false (some 19) (.ld 19 false 1 (.t 18)),.gd 17 false (some 20) (.call (some 20) (.c (Fc Qm)) [(.t 19),(.c (I 0)),(.c (I 99999))] (.ro true)),.gd 17 false (some 21) (.un 21 .not (.t 20)),.pick 22 (.t 17) (.c (B true)) (.t 21),.mv 23 (.t 22),.gd 23 false (some 24) (.fa 24 (.t 2) 3),.gd 23 false (some 25) (.ld 25 false 1 (.t 24)),.gd 23 false (some 26) (.len 26 (.t 25)),.gd 23 false (some 27) (.bin 27 .gtr (.t 26) (.c (I 0))),.pick 28 (.t 23) (.c (B true)) (.t 27)]) (.keep [1,2,28] (.cond (.t 28) (.seq (.reg [.mv 4 (.c (I 401))]) (.keep [4] .ret)) .skip))) (.seq (.reg [.bin 30 .eql (.t 11) (.c (I 2)),.mv 29 (.t 30)]) (.cond (.t 29) (.seq (.reg [.fa 31 (.t 2) 1,.ld 32 false 1 (.t 31),.call (some 33) (.c (Fc qds)) [(.t 32)] (.ro true),.un 34 .not (.t 33),.mv 35 (.t 34),.gd 35 false (some 36) (.fa 36 (.t 2) 2),.gd 35 false (some 37) (.ld 37 false 1 (.t 36)),.gd 35 false (some 38) (.bin 38 .neq (.t 37) (.c (I 0))),.pick 39 (.t 35) (.c (B true)) (.t 38),.mv 40 (.t 39),.gd 40 false (some 41) (.fa 41 (.t 2) 3),.gd 40 false (some 42) (.ld 42 false 1 (.t 41)),.gd 40 false (some 43) (.len 43 (.t 42)),.gd 40 false (some 44) (.bin 44 .gtr (.t 43) (.c (I 0))),.pick 45 (.t 40) (.c (B true)) (.t 44)]) (.keep [1,2,45] (.cond (.t 45) (.seq (.reg [.mv 4 (.c (I 401))]) (.keep [4] .ret)) .skip))) (.seq (.reg [.bin 47 .eql (.t 11) (.c (I 3)),.mv 46 (.t 47)]) (.cond (.t 46) (.seq (.reg [.fa 48 (.t 2) 1,.ld 49 false 1 (.t 48),.bin 50 .neq (.t 49) (.c (S [])),.mv 51 (.t 50),.gd 51 false (some 52) (.fa 52 (.t 2) 2),.gd 51 false (some 53) (.ld 53 false 1 (.t 52)),.gd 51 false (some 54) (.call (some 54) (.c (Fc Qm)) [(.t 53),(.c (I (-999999999))),(.c (I 999999999))] (.ro true)),.gd 51 false (some 55) (.un 55 .not (.t 54)),.pick 56 (.t 51) (.c (B true)) (.t 55),.mv 57 (.t 56),.gd 57 false (some 58) (.fa 58 (.t 2) 3),.gd 57 false (some 59) (.ld 59 false 1 (.t 58)),.gd 57 false (some 60) (.len 60 (.t 59)),.gd 57 false (some 61) (.bin 61 .gtr (.t 60) (.c (I 0))),.pick 62 (.t 57) (.c (B true)) (.t 61)]) (.keep [1,2,62] (.cond (.t 62) (.seq (.reg [.mv 4 (.c (I 401))]) (.keep [4] .ret)) .skip))) (.seq (.reg [.bin 64 .eql (.t 11) (.c (I 4)),.mv 63 (.t 64)]) (.cond (.t 63) (.seq (.reg [.fa 65 (.t 2) 1,.ld 66 false 1 (.t 65),.call (some 67) (.c (Fc qds)) [(.t 66)] (.ro true),.un 68 .not (.t 67),.mv 69 (.t 68),.gd 69 false (some 70) (.fa 70 (.t 2) 2),.gd 69 false (some 71) (.ld 71 false 1 (.t 70)),.gd 69 false (some 72) (.bin 72 .neq (.t 71) (.c (I 0))),.pick 73 (.t 69) (.c (B true)) (.t 72),.mv 74 (.t 73),.gd 74 false (some 75) (.fa 75 (.t 2) 3),.gd 74 false (some 76) (.ld 76 false 1 (.t 75)),.gd 74 false (some 77) (.len 77 (.t 76)),.gd 74 false (some 78) (.call (some 78) (.c (Fc Qm)) [(.t 77),(.c (I 1)),(.c (I 5))] (.ro true)),.gd 74 false (some 79) (.un 79 .not (.t 78)),.pick 80 (.t 74) (.c (B true)) (.t 79)]) (.keep [1,2,80] (.cond (.t 80) (.seq (.reg [.mv 4 (.c (I 401))]) (.keep [4] .ret)) .skip))) (.seq (.reg [.mv 4 (.c (I 401))]) (.keep [4] .ret)))))))))))) (.keep [1,2] (.seq (.reg [.mv 5 (.c (I 1))]) (.seq (.seq (.reg [.fa 81 (.t 2) 3,.ld 82 false 1 (.t 81),.len 83 (.t 82),.mv 84 (.c (I 0))]) (.keep [1,5,82,83,84] (.block 1 (lpC Qq)))) (.keep [5] (.seq (.reg [.mv 97 (.t 5),.mv 4 (.t 97)]) (.keep [4] .ret))))))))))
def qeg:AC:=(.seq (.reg [.bin 101 .lss (.t 100) (.t 99)]) (.seq (.cond (.t 101) .skip (.keep [3,9] (.exit 3))) (.keep [1,3,9,98,99,100] (.seq (.block 4 (.seq (.reg [.ia 102 4 (.t 98) (.t 100),.ld 103 true 4 (.t 102),.new 11 (.c (.a [(I 0),(S []),(I 0),(.n 4)])),.st 4 (.t 11) (.t 103)]) (.keep [1,3,9,11,98,99,100] (.reg [.mv 104 (.t 9),.mv 105 (.t 1),.ld 106 true 4 (.t 11),.call (some 107) (.t 105) [(.t 106)] (.ro false),.mks 108 1 [(.t 107)],.app 109 1 16 (.t 104) (.t 108),.mv 9 (.t 109)])))) (.keep [1,3,9,98,99,100] (.reg [.bin 110 .add (.t 100) (.c (I 1)),.mv 100 (.t 110)]))))))
def qaP:Lp:=⟨[1,3,9,98,99,100],[(3,0)],qeg⟩
@[go_sem] theorem qGz:qaP.ls=[1,3,9,98,99,100]:=rfl
@[go_sem] theorem qGy:qaP.ks=[(3,0)]:=rfl
@[go_sem] theorem qGx:qaP.body=qeg:=rfl
def qeh:AC:=(.seq (.seq (.reg [.ld 65 true 4 (.t 8),.call (some 66) (.c (Fc qdq)) [(.t 65)] (.ro true)]) (.cond (.t 66) .skip (.keep [1,7,8] (.exit 1)))) (.keep [1,7,8] (.seq (.block 2 (.reg [.mv 71 (.t 7),.mv 72 (.t 1),.fa 73 (.t 8) 3,.ld 74 false 1 (.t 73),.ia 75 4 (.t 74) (.c (I 0)),.ld 76 true 4 (.t 75),.call (some 77) (.t 72) [(.t 76)] (.ro false),.bin 78 .add (.c (S [44])) (.t 77),.bin 79 .add (.t 71) (.t 78),.mv 7 (.t 79)])) (.keep [1,7,8] (.reg [.fa 67 (.t 8) 3,.ld 68 false 1 (.t 67),.ia 69 4 (.t 68) (.c (I 1)),.ld 70 true 4 (.t 69),.st 4 (.t 8) (.t 70)])))))
def qaQ:Lp:=⟨[1,7,8],[(3,0)],qeh⟩
@[go_sem] theorem qGC:qaQ.ls=[1,7,8]:=rfl
@[go_sem] theorem qGB:qaQ.ks=[(3,0)]:=rfl
@[go_sem] theorem qGA:qaQ.body=qeh:=rfl
def kq:AF where
 nargs:=3
 ntmps:=119
 res:=[.tmp 6]
 body:=(.seq (.reg [.new 3 (.t 0),.mv 6 (.c (S []))]) (.seq (.block 0 (.seq (.reg [.fa 13 (.t 3) 0,.ld 14 false 1 (.t 13),.bin 15 .eql (.t 14) (.c (I 1)),.mv 12 (.t 15)]) (.keep [1,2,3,12] (.cond (.t 12) (.seq (.reg [.fa 16 (.t 3) 2,.ld 17 false 1 (.t 16),.call (some 18) (.c (Fc qan)) [(.t 17)] (.ro false),.bin 19 .add (.c (S [95])) (.t 18),.mv 6 (.t 19)]) (.keep [6] .ret)) (.seq (.reg [.fa 21 (.t 3) 0,.ld 22 false 1 (.t 21),.bin 23 .eql (.t 22) (.c (I 3)),.mv 20 (.t 23)]) (.keep [1,2,3,20] (.cond (.t 20) (.seq (.reg [.fa 24 (.t 3) 2,.ld 25 false 1 (.t 24),.call (some 26) (.c (Fc qan)) [(.t 25)] (.ro false),.mv 6 (.t 26)]) (.keep [6] .ret)) (.seq (.reg [.ld 28 true 4 (.t 3),.call (some 29) (.c (Fc qar)) [(.t 28),(.c (S [91,93]))] (.ro true),.mv 27 (.t 29)]) (.cond (.t 27) (.seq (.reg [.mv 6 (.c (S [91,93]))]) (.keep [6] .ret)) (.seq (.reg [.fa 31 (.t 3) 0,.ld 32 false 1 (.t 31),.bin 33 .eql (.t 32) (.c (I 2)),.mv 34 (.t 33),.gd 34 true (some 35) (.fa 35 (.t 3) 1),.gd 34 true (some 36) (.ld 36 false 1 (.t 35)),.gd 34 true (some 37) (.call (some 37) (.c (Fc qfV)) [(.t 36)] (.ro true)),.pick 38 (.t 34) (.t 37) (.c (B false)),.mv 30 (.t 38)]) (.keep [1,2,3,30] (.cond (.t 30) (.seq (.reg [.fa 39 (.t 3) 1,.ld 40 false 1 (.t 39),.call (some 41) (.c (Fc KF)) [(.t 40)] (.ro false),.bin 42 .add (.c (S [40])) (.t 41),.bin 43 .add (.t 42) (.c (S [41])),.mv 6 (.t 43)]) (.keep [6] .ret)) (.seq (.reg [.fa 45 (.t 3) 0,.ld 46 false 1 (.t 45),.bin 47 .eql (.t 46) (.c (I 2)),.mv 44 (.t 47)]) (.keep [1,2,3,44] (.cond (.t 44) (.seq (.reg [.fa 48 (.t 3) 1,.ld 49 false 1 (.t 48),.call (some 50) (.c (Fc KF)) [(.t 49)] (.ro false),.mv 6 (.t 50)]) (.keep [6] .ret)) (.seq (.reg [.ld 52 true 4 (.t 3),.call (some 53) (.c (Fc qdq)) [(.t 52)] (.ro true),.mv 51 (.t 53)]) (.cond (.t 51) (.seq (.reg [.mv 54 (.t 1),.fa 55 (.t 3) 3,.ld 56 false 1 (.t 55),.ia 57 4 (.t 56) (.c (I 0)),.ld 58 true 4 (.t 57),.call (some 59) (.t 54) [(.t 58)] (.ro false),.bin 60 .add (.c (S [91])) (.t 59),.mv 7 (.t 60)]) (.keep [1,3,7] (.seq (.reg [.fa 61 (.t 3) 3,.ld 62 false 1 (.t 61),.ia 63 4 (.t 62) (.c (I 1)),.ld 64 true 4 (.t 63),.new 8 (.c (.a [(I 0),(S []),(I 0),(.n 4)])),.st 4 (.t 8) (.t 64)]) (.keep [1,7,8] (.seq (.block 1 (lpC qaQ)) (.keep [1,7,8] (.seq (.seq (.reg [.ld 80 true 4 (.t 8),.call (some 81) (.c (Fc qar)) [(.t 80),(.c (S [91,93]))] (.ro true),.un 82 .not (.t 81)]) (.cond (.t 82) (.reg [.mv 83 (.t 7),.mv 84 (.t 1),.ld 85 true 4 (.t 8),.call (some 86) (.t 84) [(.t 85)] (.ro false),.bin 87 .add (.c (S [124])) (.t 86),.bin 88 .add (.t 83) (.t 87),.mv 7 (.t 88)]) .skip)) (.keep [7] (.seq (.reg [.mv 89 (.t 7),.bin 90 .add (.t 89) (.c (S [93])),.mv 6 (.t 90)]) (.keep [6] .ret)))))))))) (.seq (.reg [.ld 92 true 4 (.t 3),.call (some 93) (.c (Fc qdp)) [(.t 92)] (.ro true),.mv 91 (.t 93)]) (.cond (.t 91) (.seq (.reg [.mv 94 (.t 2),.ld 95 true 4 (.t 3),.call (some 96) (.t 94) [(.t 95)] (.ro false),.mv 6 (.t 96)]) (.keep [6] .ret)) .skip))))))))))))))))))) (.keep [1,3] (.seq (.reg [.mv 9 (.c (.n 1))]) (.seq (.seq (.reg [.fa 97 (.t 3) 3,.ld 98 false 1 (.t 97),.len 99 (.t 98),.mv 100 (.c (I 0))]) (.keep [1,3,9,98,99,100] (.block 3 (lpC qaP)))) (.keep [3,9] (.seq (.reg [.fa 111 (.t 3) 1,.ld 112 false 1 (.t 111),.call (some 113) (.c (Fc KF)) [(.t 112)] (.ro false),.bin 114 .add (.t 113) (.c (S [40])),.mv 115 (.t 9),.call (some 116) (.c (Fc qjv)) [(.t 115),(.c (S [44]))] (.ro false),.bin 117 .add (.t 114) (.t 116),.bin 118 .add (.t 117) (.c (S [41])),.mv 6 (.t 118)]) (.keep [6] .ret))))))))
def XW:AF where
 nargs:=1
 ntmps:=5
 res:=[.tmp 2]
 body:=(.seq (.reg [.new 1 (.t 0),.mv 2 (.c (S []))]) (.seq (.reg [.ld 3 true 4 (.t 1),.call (some 4) (.c (Fc Za)) [(.t 3),(.c (I 999))] (.ro false),.mv 2 (.t 4)]) (.keep [2] .ret)))
def XX:AF where
 nargs:=1
 ntmps:=32
 res:=[.tmp 2]
 body:=(.seq (.reg [.new 1 (.t 0),.mv 2 (.c (S []))]) (.seq (.reg [.fa 6 (.t 1) 1,.ld 7 false 1 (.t 6),.call (some 8) (.c (Fc ZS)) [(.t 7)] (.ro false),.mv 5 (.t 8),.ext 9 (.t 5) 0,.ext 10 (.t 5) 1,.new 3 (.c (.a [(S []),(I 0),(I 0),(I 0)])),.st 4 (.t 3) (.t 9),.mv 4 (.t 10)]) (.keep [1,3] (.seq (.dreg [⟨0,[]⟩,⟨0,[(1,0)]⟩,⟨0,[(0,0),(0,1),(0,2),(0,3),(12,0)]⟩,⟨0,[(0,0),(0,1),(0,2),(0,3),(1,0),(12,0)]⟩,⟨0,[]⟩,⟨0,[(3,0)]⟩,⟨2,[(0,0),(0,1),(0,2),(0,3),(7,0),(8,0),(8,1),(8,2),(8,3),(12,0),(14,0),(16,0)]⟩,⟨0,[]⟩,⟨0,[]⟩,⟨0,[(1,0)]⟩,⟨2,[(0,0),(0,1),(0,2),(0,3),(20,0)]⟩,⟨0,[]⟩,⟨0,[]⟩,⟨0,[]⟩,⟨0,[(1,0)]⟩,⟨0,[(0,0),(0,1),(0,2),(0,3),(25,0)]⟩,⟨0,[(0,0),(0,1),(0,2),(0,3),(1,0),(25,0)]⟩,⟨0,[]⟩,⟨0,[(3,0)]⟩,⟨2,[(0,0),(0,1),(0,2),(0,3),(7,0),(8,0),(8,1),(8,2),(8,3),(25,0),(27,0),(29,0)]⟩,⟨0,[]⟩,⟨0,[]⟩] [.fa 11 (.t 1) 3,.ldq 12 false 1 (.t 11),.ia 13 4 (.t 12) (.c (I 0)),.ldq 14 true 4 (.t 13),.fa 15 (.t 3) 2,.ldq 16 false 1 (.t 15),.call (some 17) (.c (Fc Za)) [(.t 14),(.t 16)] (.ro false),.bin 18 .add (.t 17) (.c (S [32])),.fa 19 (.t 1) 1,.ldq 20 false 1 (.t 19),.call (some 21) (.c (Fc qdx)) [(.t 20)] (.ro false),.bin 22 .add (.t 18) (.t 21),.bin 23 .add (.t 22) (.c (S [32])),.fa 24 (.t 1) 3,.ldq 25 false 1 (.t 24),.ia 26 4 (.t 25) (.c (I 1)),.ldq 27 true 4 (.t 26),.fa 28 (.t 3) 3,.ldq 29 false 1 (.t 28),.call (some 30) (.c (Fc Za)) [(.t 27),(.t 29)] (.ro false),.bin 31 .add (.t 23) (.t 30),.mv 2 (.t 31)]) (.keep [2] .ret)))))
def YE:AF where
 nargs:=1
 ntmps:=8
 res:=[.tmp 2]
 body:=(.seq (.reg [.mv 2 (.c (S []))]) (.seq (.seq (.reg [.mv 3 (.t 0),.bin 4 .eql (.t 3) (.c (S [44]))]) (.cond (.t 4) (.seq (.reg [.mv 5 (.t 0),.mv 2 (.t 5)]) (.keep [2] .ret)) .skip)) (.keep [0] (.seq (.reg [.mv 6 (.t 0),.call (some 7) (.c (Fc KF)) [(.t 6)] (.ro false),.mv 2 (.t 7)]) (.keep [2] .ret)))))
def qbj:AC:=(.seq (.seq (.reg [.mv 8 (.t 5),.fa 9 (.t 2) 3,.ld 10 false 1 (.t 9),.len 11 (.t 10),.bin 12 .lss (.t 8) (.t 11),.mv 13 (.t 12),.gd 13 true (some 14) (.mv 14 (.t 1)),.gd 13 true (some 15) (.bin 15 .geq (.t 14) (.c (I 0))),.pick 16 (.t 13) (.t 15) (.c (B false))]) (.keep [1,2,5,16] (.cond (.t 16) .skip (.keep [1] (.exit 0))))) (.keep [1,2,5] (.seq (.block 1 (.reg [.fa 19 (.t 2) 3,.ld 20 false 1 (.t 19),.mv 21 (.t 5),.ia 22 4 (.t 20) (.t 21),.ld 23 true 4 (.t 22),.mv 24 (.t 1),.call (some 25) (.c (Fc qaA)) [(.t 23),(.t 24)] (.ro false),.mv 1 (.t 25)])) (.keep [1,2,5] (.reg [.mv 17 (.t 5),.bin 18 .add (.t 17) (.c (I 1)),.mv 5 (.t 18)])))))
def KS:Lp:=⟨[1,2,5],[(2,0)],qbj⟩
@[go_sem] theorem qHG:KS.ls=[1,2,5]:=rfl
@[go_sem] theorem qHF:KS.ks=[(2,0)]:=rfl
@[go_sem] theorem qHE:KS.body=qbj:=rfl
def Kj:AF where
 nargs:=2
 ntmps:=27
 res:=[.tmp 4]
 body:=(.seq (.reg [.new 2 (.t 0),.mv 4 (.c (I 0))]) (.seq (.reg [.mv 6 (.t 1),.bin 7 .sub (.t 6) (.c (I 1)),.mv 1 (.t 7)]) (.seq (.seq (.reg [.mv 5 (.c (I 0))]) (.block 0 (lpC KS))) (.keep [1] (.seq (.reg [.mv 26 (.t 1),.mv 4 (.t 26)]) (.keep [4] .ret))))))
def qbl:AC:=(.seq (.seq (.reg [.mv 13 (.t 5),.fa 14 (.t 2) 3,.ld 15 false 1 (.t 14),.len 16 (.t 15),.bin 17 .lss (.t 13) (.t 16)]) (.keep [1,2,5,17] (.cond (.t 17) .skip (.keep [] (.exit 0))))) (.keep [1,2,5] (.seq (.block 1 (.seq (.reg [.fa 20 (.t 2) 3,.ld 21 false 1 (.t 20),.mv 22 (.t 5),.ia 23 4 (.t 21) (.t 22),.ld 24 true 4 (.t 23),.mv 25 (.t 1),.bin 26 .add (.t 25) (.c (I 1)),.call (some 27) (.c (Fc qaD)) [(.t 24),(.t 26)] (.ro true),.un 28 .not (.t 27)]) (.keep [1,2,5,28] (.cond (.t 28) (.seq (.reg [.mv 4 (.c (B false))]) (.keep [4] .ret)) .skip)))) (.keep [1,2,5] (.reg [.mv 18 (.t 5),.bin 19 .add (.t 18) (.c (I 1)),.mv 5 (.t 19)])))))
def KU:Lp:=⟨[1,2,5],[(2,0)],qbl⟩
@[go_sem] theorem qHS:KU.ls=[1,2,5]:=rfl
@[go_sem] theorem qHR:KU.ks=[(2,0)]:=rfl
@[go_sem] theorem qHQ:KU.body=qbl:=rfl
def Q3:AF where
 nargs:=2
 ntmps:=29
 res:=[.tmp 4]
 body:=(.seq (.reg [.new 2 (.t 0),.mv 4 (.c (B false))]) (.seq (.seq (.reg [.mv 6 (.t 1),.bin 7 .gtr (.t 6) (.c (I 40)),.mv 8 (.t 7),.gd 8 false (some 9) (.ld 9 true 4 (.t 2)),.gd 8 false (some 10) (.call (some 10) (.c (Fc qgj)) [(.t 9)] (.ro true)),.gd 8 false (some 11) (.un 11 .not (.t 10)),.pick 12 (.t 8) (.c (B true)) (.t 11)]) (.keep [1,2,12] (.cond (.t 12) (.seq (.reg [.mv 4 (.c (B false))]) (.keep [4] .ret)) .skip))) (.keep [1,2] (.seq (.seq (.reg [.mv 5 (.c (I 0))]) (.block 0 (lpC KU))) (.keep [] (.seq (.reg [.mv 4 (.c (B true))]) (.keep [4] .ret)))))))
def qeo:AC:=(.seq (.seq (.reg [.fa 11 (.t 1) 3,.ld 12 false 1 (.t 11),.ia 13 4 (.t 12) (.c (I 1)),.ld 14 true 4 (.t 13),.call (some 15) (.c (Fc ZX)) [(.t 14),(.c (S [46])),(.c (I 2))] (.ro true)]) (.keep [1,3,15] (.cond (.t 15) .skip (.keep [1,3] (.exit 0))))) (.keep [1,3] (.block 1 (.seq (.reg [.fa 16 (.t 1) 3,.ld 17 false 1 (.t 16),.ia 18 4 (.t 17) (.c (I 1)),.ld 19 true 4 (.t 18),.st 4 (.t 1) (.t 19)]) (.keep [1,3] (.reg [.mv 20 (.t 3),.bin 21 .add (.t 20) (.c (S [44])),.fa 22 (.t 1) 3,.ld 23 false 1 (.t 22),.ia 24 4 (.t 23) (.c (I 0)),.ld 25 true 4 (.t 24),.call (some 26) (.c (Fc xd)) [(.t 25),(.c (I 999))] (.ro false),.bin 27 .add (.t 21) (.t 26),.mv 3 (.t 27)]))))))
def qa9:Lp:=⟨[1,3],[(1,0)],qeo⟩
@[go_sem] theorem qIQ:qa9.ls=[1,3]:=rfl
@[go_sem] theorem qIP:qa9.ks=[(1,0)]:=rfl
@[go_sem] theorem qIO:qa9.body=qeo:=rfl
def ZR:AF where
 nargs:=1
 ntmps:=48
 res:=[.tmp 2]
 body:=(.seq (.reg [.new 1 (.t 0),.mv 2 (.c (S []))]) (.seq (.reg [.fa 5 (.t 1) 3,.ld 6 false 1 (.t 5),.ia 7 4 (.t 6) (.c (I 0)),.ld 8 true 4 (.t 7),.call (some 9) (.c (Fc xd)) [(.t 8),(.c (I 999))] (.ro false),.bin 10 .add (.c (S [91])) (.t 9),.mv 3 (.t 10)]) (.keep [1,3] (.seq (.block 0 (lpC qa9)) (.keep [1,3] (.seq (.reg [.fa 28 (.t 1) 3,.ld 29 false 1 (.t 28),.ia 30 4 (.t 29) (.c (I 1)),.ld 31 true 4 (.t 30),.new 4 (.c (.a [(I 0),(S []),(I 0),(.n 4)])),.st 4 (.t 4) (.t 31)]) (.keep [3,4] (.seq (.seq (.reg [.fa 32 (.t 4) 0,.ld 33 false 1 (.t 32),.bin 34 .eql (.t 33) (.c (I 2)),.mv 35 (.t 34),.gd 35 true (some 36) (.fa 36 (.t 4) 1),.gd 35 true (some 37) (.ld 37 false 1 (.t 36)),.gd 35 true (some 38) (.bin 38 .eql (.t 37) (.c (S [91,93]))),.pick 39 (.t 35) (.t 38) (.c (B false))]) (.keep [3,4,39] (.cond (.t 39) (.seq (.reg [.mv 40 (.t 3),.bin 41 .add (.t 40) (.c (S [93])),.mv 2 (.t 41)]) (.keep [2] .ret)) .skip))) (.keep [3,4] (.seq (.reg [.mv 42 (.t 3),.bin 43 .add (.t 42) (.c (S [124])),.ld 44 true 4 (.t 4),.call (some 45) (.c (Fc xd)) [(.t 44),(.c (I 999))] (.ro false),.bin 46 .add (.t 43) (.t 45),.bin 47 .add (.t 46) (.c (S [93])),.mv 2 (.t 47)]) (.keep [2] .ret)))))))))))
def Qd:AF where
 nargs:=1
 ntmps:=32
 res:=[.tmp 2]
 body:=(.seq (.reg [.mv 2 (.c (S []))]) (.seq (.reg [.mv 6 (.t 0),.call (some 7) (.c (Fc qdG)) [(.t 6)] (.ro true),.mv 5 (.t 7),.ext 8 (.t 5) 0,.ext 9 (.t 5) 1,.mv 3 (.t 8),.mv 4 (.t 9)]) (.keep [0,3] (.seq (.seq (.reg [.mv 10 (.t 3),.len 11 (.t 10),.bin 12 .eql (.t 11) (.c (I 1)),.mv 13 (.t 12),.gd 13 true (some 14) (.mv 14 (.t 3)),.gd 13 true (some 15) (.ia 15 5 (.t 14) (.c (I 0))),.gd 13 true (some 16) (.fa 16 (.t 15) 0),.gd 13 true (some 17) (.ld 17 false 1 (.t 16)),.gd 13 true (some 18) (.bin 18 .eql (.t 17) (.c (I 1))),.pick 19 (.t 13) (.t 18) (.c (B false)),.mv 20 (.t 19),.gd 20 true (some 21) (.mv 21 (.t 3)),.gd 20 true (some 22) (.ia 22 5 (.t 21) (.c (I 0))),.gd 20 true (some 23) (.fa 23 (.t 22) 1),.gd 20 true (some 24) (.ld 24 false 1 (.t 23)),.gd 20 true (some 25) (.mv 25 (.t 0)),.gd 20 true (some 26) (.bin 26 .eql (.t 24) (.t 25)),.pick 27 (.t 20) (.t 26) (.c (B false))]) (.keep [0,27] (.cond (.t 27) (.seq (.reg [.mv 28 (.t 0),.mv 2 (.t 28)]) (.keep [2] .ret)) .skip))) (.keep [0] (.seq (.reg [.mv 29 (.t 0),.bin 30 .add (.c (S [39])) (.t 29),.bin 31 .add (.t 30) (.c (S [39])),.mv 2 (.t 31)]) (.keep [2] .ret)))))))
def XP:AF where
 nargs:=1
 ntmps:=5
 res:=[.cell 2 true 4]
 body:=(.seq (.reg [.new 1 (.t 0),.new 2 (.c (.a [(I 0),(S []),(I 0),(.n 4)]))]) (.seq (.reg [.ld 3 true 4 (.t 1),.call (some 4) (.c (Fc Y0)) [(.t 3),(.c (Fc qaq))] (.ro false),.st 4 (.t 2) (.t 4)]) (.keep [2] .ret)))
def Ki:AF where
 nargs:=1
 ntmps:=5
 res:=[.cell 2 true 4]
 body:=(.seq (.reg [.new 2 (.c (.a [(I 0),(S []),(I 0),(.n 4)]))]) (.seq (.reg [.mv 3 (.t 0),.build 4 (.a [(I 0),(S []),(I 0),(.n 4)]) [(0,1,(.c (I 2))),(1,1,(.t 3))],.st 4 (.t 2) (.t 4)]) (.keep [2] .ret)))
def Kn:AF where
 nargs:=1
 ntmps:=13
 res:=[.tmp 2]
 body:=(.seq (.reg [.mv 2 (.c (B false))]) (.seq (.reg [.mv 3 (.t 0),.bin 4 .eql (.t 3) (.c (U8 32)),.mv 5 (.t 4),.gd 5 false (some 6) (.mv 6 (.t 0)),.gd 5 false (some 7) (.bin 7 .eql (.t 6) (.c (U8 9))),.pick 8 (.t 5) (.c (B true)) (.t 7),.mv 9 (.t 8),.gd 9 false (some 10) (.mv 10 (.t 0)),.gd 9 false (some 11) (.bin 11 .eql (.t 10) (.c (U8 10))),.pick 12 (.t 9) (.c (B true)) (.t 11),.mv 2 (.t 12)]) (.keep [2] .ret)))
def qbn:AC:=(.seq (.seq (.reg [.mv 142 (.t 13),.mv 143 (.t 0),.slen 144 (.t 143),.bin 145 .lss (.t 142) (.t 144),.mv 146 (.t 145),.gd 146 true (some 147) (.mv 147 (.t 0)),.gd 146 true (some 148) (.mv 148 (.t 13)),.gd 146 true (some 149) (.ix 149 (.t 147) (.t 148)),.gd 146 true (some 150) (.call (some 150) (.c (Fc qaz)) [(.t 149)] (.ro true)),.pick 151 (.t 146) (.t 150) (.c (B false))]) (.keep [0,1,4,7,8,13,151] (.cond (.t 151) .skip (.keep [0,1,4,7,8,13] (.exit 3))))) (.keep [0,1,4,7,8,13] (.block 4 (.reg [.mv 152 (.t 13),.bin 153 .add (.t 152) (.c (I 1)),.mv 13 (.t 153)]))))
def qa2:Lp:=⟨[0,1,4,7,8,13],[(2,0)],qbn⟩
@[go_sem] theorem qH4:qa2.ls=[0,1,4,7,8,13]:=rfl
@[go_sem] theorem qH3:qa2.ks=[(2,0)]:=rfl
@[go_sem] theorem qH2:qa2.body=qbn:=rfl
def KZ:AC:=(.seq (.seq (.reg [.mv 54 (.t 10),.mv 55 (.t 0),.slen 56 (.t 55),.bin 57 .lss (.t 54) (.t 56),.mv 58 (.t 57),.gd 58 true (some 59) (.mv 59 (.t 0)),.gd 58 true (some 60) (.mv 60 (.t 10)),.gd 58 true (some 61) (.ix 61 (.t 59) (.t 60)),.gd 58 true (some 62) (.call (some 62) (.c (Fc qaF)) [(.t 61)] (.ro true)),.pick 63 (.t 58) (.t 62) (.c (B false)),.mv 64 (.t 63),.gd 64 true (some 65) (.mv 65 (.t 11)),.gd 64 true (some 66) (.bin 66 .leq (.t 65) (.c (I 999999999))),.pick 67 (.t 64) (.t 66) (.c (B false))]) (.keep [0,1,4,7,8,10,11,67] (.cond (.t 67) .skip (.keep [1,4,7,8,10,11] (.exit 1))))) (.keep [0,1,4,7,8,10,11] (.block 2 (.seq (.reg [.mv 68 (.t 11),.bin 69 .mul (.c (I 10)) (.t 68),.mv 70 (.t 0),.mv 71 (.t 10),.ix 72 (.t 70) (.t 71),.int 73 .i64 (.t 72),.bin 74 .add (.t 69) (.t 73),.bin 75 .sub (.t 74) (.c (I 48)),.mv 11 (.t 75)]) (.keep [0,1,4,7,8,10,11] (.reg [.mv 76 (.t 10),.bin 77 .add (.t 76) (.c (I 1)),.mv 10 (.t 77)]))))))
def qa3:Lp:=⟨[0,1,4,7,8,10,11],[(2,0)],KZ⟩
@[go_sem] theorem qH7:qa3.ls=[0,1,4,7,8,10,11]:=rfl
@[go_sem] theorem qH6:qa3.ks=[(2,0)]:=rfl
@[go_sem] theorem qH5:qa3.body=KZ:=rfl
def yp:AF where
 nargs:=2
 ntmps:=167
 res:=[.cell 4 true 5,.tmp 5]
 body:=(.seq (.reg [.new 4 (.c (.a [(I 0),(S []),(I 0),(I 0),(B false)])),.mv 5 (.c (I 0))]) (.seq (.reg [.mv 14 (.t 0),.mv 15 (.t 1),.ix 16 (.t 14) (.t 15),.mv 6 (.t 16)]) (.keep [0,1,4,6] (.seq (.reg [.mv 17 (.t 0),.mv 18 (.t 1),.mv 19 (.t 1),.bin 20 .add (.t 19) (.c (I 1)),.ssl 21 (.t 17) (some (.t 18)) (some (.t 20)),.mv 22 (.t 1),.build 23 (.a [(I 0),(S []),(I 0),(I 0),(B false)]) [(0,1,(.c (I 6))),(1,1,(.t 21)),(3,1,(.t 22))],.new 7 (.c (.a [(I 0),(S []),(I 0),(I 0),(B false)])),.st 5 (.t 7) (.t 23)]) (.keep [0,1,4,6,7] (.seq (.reg [.mv 24 (.t 1),.bin 25 .add (.t 24) (.c (I 1)),.mv 8 (.t 25)]) (.seq (.block 0 (.seq (.reg [.mv 27 (.t 6),.call (some 28) (.c (Fc qdK)) [(.t 27)] (.ro true),.mv 29 (.t 28),.gd 29 false (some 30) (.mv 30 (.t 6)),.gd 29 false (some 31) (.call (some 31) (.c (Fc qaG)) [(.t 30)] (.ro true)),.pick 32 (.t 29) (.c (B true)) (.t 31),.mv 26 (.t 32)]) (.keep [0,1,4,6,7,8,26] (.cond (.t 26) (.seq (.reg [.mv 33 (.t 0),.mv 34 (.t 1),.call (some 35) (.c (Fc qgm)) [(.t 33),(.t 34)] (.ro false),.mv 9 (.t 35)]) (.keep [0,1,4,6,7,8,9] (.seq (.reg [.mv 36 (.t 9),.mv 37 (.t 1),.bin 38 .sub (.t 36) (.t 37),.bin 39 .leq (.t 38) (.c (I 20))]) (.keep [0,1,4,6,7,8,9,39] (.cond (.t 39) (.seq (.reg [.fa 40 (.t 7) 0,.st 1 (.t 40) (.c (I 1))]) (.seq (.seq (.reg [.mv 41 (.t 6),.call (some 42) (.c (Fc qaG)) [(.t 41)] (.ro true)]) (.cond (.t 42) (.reg [.fa 43 (.t 7) 0,.st 1 (.t 43) (.c (I 2))]) .skip)) (.keep [0,1,4,7,9] (.seq (.reg [.mv 44 (.t 0),.mv 45 (.t 1),.mv 46 (.t 9),.ssl 47 (.t 44) (some (.t 45)) (some (.t 46)),.fa 48 (.t 7) 1,.st 1 (.t 48) (.t 47)]) (.keep [4,7,9] (.reg [.mv 49 (.t 9),.mv 8 (.t 49)])))))) .skip))))) (.seq (.reg [.mv 51 (.t 6),.call (some 52) (.c (Fc qaF)) [(.t 51)] (.ro true),.mv 50 (.t 52)]) (.cond (.t 50) (.seq (.reg [.mv 53 (.t 1),.mv 10 (.t 53)]) (.seq (.reg [.mv 11 (.c (I 0))]) (.seq (.block 1 (lpC qa3)) (.keep [1,4,7,8,10,11] (.seq (.reg [.mv 78 (.t 11),.bin 79 .leq (.t 78) (.c (I 999999999))]) (.cond (.t 79) (.seq (.reg [.mv 80 (.t 11),.mv 81 (.t 1),.build 82 (.a [(I 0),(S []),(I 0),(I 0),(B false)]) [(0,1,(.c (I 3))),(2,1,(.t 80)),(3,1,(.t 81))],.mv 83 (.t 10),.st 5 (.t 4) (.t 82),.mv 5 (.t 83)]) (.keep [4,5] .ret)) .skip)))))) (.seq (.reg [.mv 85 (.t 6),.bin 86 .eql (.t 85) (.c (U8 39)),.mv 84 (.t 86)]) (.cond (.t 84) (.seq (.reg [.mv 87 (.t 0),.mv 88 (.t 1),.call (some 89) (.c (Fc qgl)) [(.t 87),(.t 88)] (.ro false),.mv 12 (.t 89)]) (.keep [0,1,4,7,8,12] (.seq (.reg [.mv 90 (.t 12),.bin 91 .gtr (.t 90) (.c (I 0))]) (.cond (.t 91) (.seq (.reg [.mv 92 (.t 0),.mv 93 (.t 1),.bin 94 .add (.t 93) (.c (I 1)),.mv 95 (.t 12),.bin 96 .sub (.t 95) (.c (I 1)),.ssl 97 (.t 92) (some (.t 94)) (some (.t 96)),.mv 98 (.t 1),.build 99 (.a [(I 0),(S []),(I 0),(I 0),(B false)]) [(0,1,(.c (I 1))),(1,1,(.t 97)),(3,1,(.t 98))],.st 5 (.t 7) (.t 99)]) (.keep [4,7,12] (.reg [.mv 100 (.t 12),.mv 8 (.t 100)]))) .skip)))) (.seq (.reg [.mv 102 (.t 6),.bin 103 .eql (.t 102) (.c (U8 33)),.mv 104 (.t 103),.gd 104 false (some 105) (.mv 105 (.t 6)),.gd 104 false (some 106) (.bin 106 .eql (.t 105) (.c (U8 59))),.pick 107 (.t 104) (.c (B true)) (.t 106),.mv 101 (.t 107)]) (.keep [0,1,4,6,7,8,101] (.cond (.t 101) (.reg [.fa 108 (.t 7) 0,.st 1 (.t 108) (.c (I 1))]) (.seq (.reg [.mv 110 (.t 6),.bin 111 .eql (.t 110) (.c (U8 40)),.mv 112 (.t 111),.gd 112 false (some 113) (.mv 113 (.t 6)),.gd 112 false (some 114) (.bin 114 .eql (.t 113) (.c (U8 41))),.pick 115 (.t 112) (.c (B true)) (.t 114),.mv 116 (.t 115),.gd 116 false (some 117) (.mv 117 (.t 6)),.gd 116 false (some 118) (.bin 118 .eql (.t 117) (.c (U8 91))),.pick 119 (.t 116) (.c (B true)) (.t 118),.mv 120 (.t 119),.gd 120 false (some 121) (.mv 121 (.t 6)),.gd 120 false (some 122) (.bin 122 .eql (.t 121) (.c (U8 93))),.pick 123 (.t 120) (.c (B true)) (.t 122),.mv 124 (.t 123),.gd 124 false (some 125) (.mv 125 (.t 6)),.gd 124 false (some 126) (.bin 126 .eql (.t 125) (.c (U8 44))),.pick 127 (.t 124) (.c (B true)) (.t 126),.mv 128 (.t 127),.gd 128 false (some 129) (.mv 129 (.t 6)),.gd 128 false (some 130) (.bin 130 .eql (.t 129) (.c (U8 124))),.pick 131 (.t 128) (.c (B true)) (.t 130),.mv 109 (.t 131)]) (.keep [0,1,4,6,7,8,109] (.cond (.t 109) (.reg [.fa 132 (.t 7) 0,.st 1 (.t 132) (.c (I 4))]) (.seq (.reg [.mv 134 (.t 0),.mv 135 (.t 1),.call (some 136) (.c (Fc qgk)) [(.t 134),(.t 135)] (.ro true),.mv 133 (.t 136)]) (.keep [0,1,4,6,7,8,133] (.cond (.t 133) (.reg [.fa 137 (.t 7) 0,.st 1 (.t 137) (.c (I 5))]) (.seq (.reg [.mv 139 (.t 6),.call (some 140) (.c (Fc qaz)) [(.t 139)] (.ro true),.mv 138 (.t 140)]) (.cond (.t 138) (.seq (.reg [.mv 141 (.t 1),.mv 13 (.t 141)]) (.seq (.block 3 (lpC qa2)) (.keep [0,1,4,7,8,13] (.seq (.reg [.mv 154 (.t 13),.mv 155 (.t 1),.bin 156 .sub (.t 154) (.t 155),.bin 157 .leq (.t 156) (.c (I 20))]) (.keep [0,1,4,7,8,13,157] (.cond (.t 157) (.seq (.reg [.fa 158 (.t 7) 0,.st 1 (.t 158) (.c (I 1))]) (.seq (.reg [.mv 159 (.t 0),.mv 160 (.t 1),.mv 161 (.t 13),.ssl 162 (.t 159) (some (.t 160)) (some (.t 161)),.fa 163 (.t 7) 1,.st 1 (.t 163) (.t 162)]) (.keep [4,7,13] (.reg [.mv 164 (.t 13),.mv 8 (.t 164)])))) .skip)))))) .skip))))))))))))))))))) (.keep [4,7,8] (.seq (.reg [.ld 165 true 5 (.t 7),.mv 166 (.t 8),.st 5 (.t 4) (.t 165),.mv 5 (.t 166)]) (.keep [4,5] .ret))))))))))
def K0:AC:=(.seq (.seq (.reg [.mv 7 (.t 1),.mv 8 (.t 0),.len 9 (.t 8),.bin 10 .lss (.t 7) (.t 9)]) (.keep [0,1,10] (.cond (.t 10) .skip (.keep [0] (.exit 0))))) (.keep [0,1] (.block 1 (.seq (.reg [.mv 11 (.t 1),.bin 12 .add (.t 11) (.c (I 1)),.mv 1 (.t 12)]) (.seq (.reg [.mv 13 (.t 0),.mv 14 (.t 1),.bin 15 .sub (.t 14) (.c (I 1)),.ia 16 5 (.t 13) (.t 15),.fa 17 (.t 16) 0,.ld 18 false 1 (.t 17),.bin 19 .eql (.t 18) (.c (I 5))]) (.keep [0,1,19] (.cond (.t 19) (.seq (.reg [.mv 20 (.t 1),.mv 4 (.t 20)]) (.keep [4] .ret)) .skip)))))))
def KV:Lp:=⟨[0,1],[(2,0)],K0⟩
@[go_sem] theorem qIa:KV.ls=[0,1]:=rfl
@[go_sem] theorem qH9:KV.ks=[(2,0)]:=rfl
@[go_sem] theorem qH8:KV.body=K0:=rfl
def Q4:AF where
 nargs:=2
 ntmps:=23
 res:=[.tmp 4]
 body:=(.seq (.reg [.mv 4 (.c (I 0))]) (.seq (.seq (.reg [.mv 5 (.t 1),.bin 6 .lss (.t 5) (.c (I 0))]) (.cond (.t 6) (.reg [.mv 1 (.c (I 0))]) .skip)) (.keep [0,1] (.seq (.block 0 (lpC KV)) (.keep [0] (.seq (.reg [.mv 21 (.t 0),.len 22 (.t 21),.mv 4 (.t 22)]) (.keep [4] .ret)))))))
def Z2:AC:=(.seq (.seq (.reg [.mv 39 (.t 0),.nilc 40 (.t 39),.fa 41 (.t 40) 2,.ld 42 false 1 (.t 41),.un 43 .not (.t 42)]) (.keep [0,1,4,5,6,43] (.cond (.t 43) .skip (.keep [0,4,5] (.exit 0))))) (.keep [0,1,4,5,6] (.block 1 (.seq (.reg [.mv 45 (.t 0),.call (some 46) (.c (Fc qdL)) [(.t 45)] (.ro false),.mv 44 (.t 46),.ext 47 (.t 44) 0,.ext 48 (.t 44) 1,.new 7 (.c (.a [(S []),(I 0),(I 0),(I 0)])),.st 4 (.t 7) (.t 47),.mv 8 (.t 48)]) (.keep [0,1,4,5,6,7,8] (.seq (.seq (.reg [.mv 49 (.t 8),.un 50 .not (.t 49),.mv 51 (.t 50),.gd 51 false (some 52) (.fa 52 (.t 7) 1),.gd 51 false (some 53) (.ld 53 false 1 (.t 52)),.gd 51 false (some 54) (.mv 54 (.t 1)),.gd 51 false (some 55) (.bin 55 .gtr (.t 53) (.t 54)),.pick 56 (.t 51) (.c (B true)) (.t 55),.mv 57 (.t 56),.gd 57 false (some 58) (.fa 58 (.t 7) 2),.gd 57 false (some 59) (.ld 59 false 1 (.t 58)),.gd 57 false (some 60) (.mv 60 (.t 6)),.gd 57 false (some 61) (.bin 61 .lss (.t 59) (.t 60)),.pick 62 (.t 57) (.c (B true)) (.t 61)]) (.keep [0,1,4,5,7,62] (.cond (.t 62) (.keep [0,4,5] (.exit 0)) .skip))) (.keep [0,1,4,5,7] (.seq (.reg [.mv 63 (.t 0),.mv 64 (.t 0),.nilc 65 (.t 64),.fa 66 (.t 65) 1,.ld 67 false 1 (.t 66),.bin 68 .add (.t 67) (.c (I 1)),.nilc 69 (.t 63),.fa 70 (.t 69) 1,.st 1 (.t 70) (.t 68)]) (.keep [0,1,4,5,7] (.seq (.reg [.mv 71 (.t 0),.fa 72 (.t 7) 3,.ld 73 false 1 (.t 72),.call (some 74) (.c (Fc z6)) [(.t 71),(.t 73)] (.io false),.new 9 (.c (.a [(I 0),(S []),(I 0),(.n 4)])),.st 4 (.t 9) (.t 74)]) (.keep [0,1,4,5,7,9] (.seq (.reg [.fa 75 (.t 7) 0,.ld 76 false 1 (.t 75),.ld 77 true 4 (.t 5),.ld 78 true 4 (.t 9),.call (some 79) (.c (Fc Ze)) [(.t 76),(.t 77),(.t 78)] (.io false),.st 4 (.t 5) (.t 79)]) (.keep [0,1,4,5,7] (.reg [.fa 80 (.t 7) 1,.ld 81 false 1 (.t 80),.mv 6 (.t 81)]))))))))))))))
def Qr:Lp:=⟨[0,1,4,5,6],[(2,0)],Z2⟩
@[go_sem] theorem qIm:Qr.ls=[0,1,4,5,6]:=rfl
@[go_sem] theorem qIl:Qr.ks=[(2,0)]:=rfl
@[go_sem] theorem qIk:Qr.body=Z2:=rfl
def jH:AF where
 nargs:=2
 ntmps:=91
 res:=[.cell 4 true 4]
 body:=(.seq (.reg [.new 4 (.c (.a [(I 0),(S []),(I 0),(.n 4)]))]) (.seq (.reg [.mv 10 (.t 0),.mv 11 (.t 0),.nilc 12 (.t 11),.fa 13 (.t 12) 3,.ld 14 false 1 (.t 13),.bin 15 .add (.t 14) (.c (I 1)),.nilc 16 (.t 10),.fa 17 (.t 16) 3,.st 1 (.t 17) (.t 15)]) (.keep [0,1,4] (.seq (.seq (.reg [.mv 18 (.t 0),.nilc 19 (.t 18),.fa 20 (.t 19) 2,.ld 21 false 1 (.t 20),.mv 22 (.t 21),.gd 22 false (some 23) (.mv 23 (.t 0)),.gd 22 false (some 24) (.nilc 24 (.t 23)),.gd 22 false (some 25) (.fa 25 (.t 24) 3),.gd 22 false (some 26) (.ld 26 false 1 (.t 25)),.gd 22 false (some 27) (.bin 27 .gtr (.t 26) (.c (I 130))),.pick 28 (.t 22) (.c (B true)) (.t 27)]) (.keep [0,1,4,28] (.cond (.t 28) (.seq (.reg [.mv 29 (.t 0),.nilc 30 (.t 29),.fa 31 (.t 30) 2,.st 1 (.t 31) (.c (B true))]) (.keep [0,4] (.seq (.reg [.build 32 (.a [(I 0),(S []),(I 0),(.n 4)]) [],.st 4 (.t 4) (.t 32)]) (.keep [0,4] .ret)))) .skip))) (.keep [0,1,4] (.seq (.reg [.mv 34 (.t 0),.mv 35 (.t 1),.call (some 36) (.c (Fc jL)) [(.t 34),(.t 35)] (.io false),.mv 33 (.t 36),.ext 37 (.t 33) 0,.ext 38 (.t 33) 1,.new 5 (.c (.a [(I 0),(S []),(I 0),(.n 4)])),.st 4 (.t 5) (.t 37),.mv 6 (.t 38)]) (.keep [0,1,4,5,6] (.seq (.block 0 (lpC Qr)) (.keep [0,4,5] (.seq (.reg [.mv 82 (.t 0),.mv 83 (.t 0),.nilc 84 (.t 83),.fa 85 (.t 84) 3,.ld 86 false 1 (.t 85),.bin 87 .sub (.t 86) (.c (I 1)),.nilc 88 (.t 82),.fa 89 (.t 88) 3,.st 1 (.t 89) (.t 87)]) (.keep [0,4,5] (.seq (.reg [.ld 90 true 4 (.t 5),.st 4 (.t 4) (.t 90)]) (.keep [0,4] .ret)))))))))))))
def Qh:AF where
 nargs:=3
 ntmps:=58
 res:=[.tmp 6]
 body:=(.seq (.reg [.mv 6 (.c (B false))]) (.seq (.dreg [⟨0,[]⟩,⟨0,[]⟩,⟨0,[]⟩,⟨0,[(0,0),(0,1),(0,2),(0,3)]⟩,⟨0,[]⟩,⟨0,[]⟩,⟨0,[]⟩,⟨0,[]⟩,⟨0,[]⟩,⟨0,[(0,0),(0,1),(0,2),(0,3)]⟩,⟨0,[]⟩,⟨0,[]⟩,⟨0,[]⟩,⟨0,[(0,0),(0,1),(0,2),(0,3)]⟩,⟨0,[(0,0),(0,1),(0,2),(0,3),(20,0)]⟩,⟨0,[]⟩,⟨0,[]⟩,⟨0,[]⟩,⟨0,[]⟩,⟨0,[]⟩,⟨0,[]⟩,⟨0,[(0,0),(0,1),(0,2),(0,3)]⟩,⟨0,[]⟩,⟨0,[]⟩,⟨0,[]⟩,⟨0,[(0,0),(0,1),(0,2),(0,3)]⟩,⟨0,[(0,0),(0,1),(0,2),(0,3),(28,0),(32,0)]⟩,⟨0,[]⟩,⟨0,[(0,0),(0,1),(0,2),(0,3),(28,0),(32,0)]⟩,⟨0,[]⟩,⟨0,[]⟩,⟨0,[]⟩,⟨0,[]⟩,⟨0,[]⟩,⟨0,[]⟩,⟨0,[]⟩,⟨0,[]⟩,⟨0,[]⟩,⟨0,[]⟩,⟨0,[(0,0),(0,1),(0,2),(0,3)]⟩,⟨0,[]⟩,⟨0,[]⟩,⟨0,[]⟩,⟨0,[(0,0),(0,1),(0,2),(0,3)]⟩,⟨0,[(0,0),(0,1),(0,2),(0,3),(46,0),(50,0)]⟩,⟨0,[]⟩,⟨0,[(0,0),(0,1),(0,2),(0,3),(46,0),(50,0)]⟩,⟨0,[]⟩,⟨0,[]⟩,⟨0,[]⟩,⟨0,[]⟩,⟨0,[]⟩] [.mv 7 (.t 0),.nilc 8 (.t 7),.fa 9 (.t 8) 2,.ldq 10 false 1 (.t 9),.un 11 .not (.t 10),.mv 12 (.t 11),.gd 12 true (some 13) (.mv 13 (.t 0)),.gd 12 true (some 14) (.nilc 14 (.t 13)),.gd 12 true (some 15) (.fa 15 (.t 14) 1),.gd 12 true (some 16) (.ldq 16 false 1 (.t 15)),.gd 12 true (some 17) (.mv 17 (.t 0)),.gd 12 true (some 18) (.nilc 18 (.t 17)),.gd 12 true (some 19) (.fa 19 (.t 18) 0),.gd 12 true (some 20) (.ldq 20 false 1 (.t 19)),.gd 12 true (some 21) (.len 21 (.t 20)),.gd 12 true (some 22) (.bin 22 .lss (.t 16) (.t 21)),.pick 23 (.t 12) (.t 22) (.c (B false)),.mv 24 (.t 23),.gd 24 true (some 25) (.mv 25 (.t 0)),.gd 24 true (some 26) (.nilc 26 (.t 25)),.gd 24 true (some 27) (.fa 27 (.t 26) 0),.gd 24 true (some 28) (.ldq 28 false 1 (.t 27)),.gd 24 true (some 29) (.mv 29 (.t 0)),.gd 24 true (some 30) (.nilc 30 (.t 29)),.gd 24 true (some 31) (.fa 31 (.t 30) 1),.gd 24 true (some 32) (.ldq 32 false 1 (.t 31)),.gd 24 true (some 33) (.ia 33 5 (.t 28) (.t 32)),.gd 24 true (some 34) (.fa 34 (.t 33) 0),.gd 24 true (some 35) (.ldq 35 false 1 (.t 34)),.gd 24 true (some 36) (.mv 36 (.t 1)),.gd 24 true (some 37) (.bin 37 .eql (.t 35) (.t 36)),.pick 38 (.t 24) (.t 37) (.c (B false)),.mv 39 (.t 38),.gd 39 true (some 40) (.mv 40 (.t 2)),.gd 39 true (some 41) (.bin 41 .eql (.t 40) (.c (S []))),.gd 39 true (some 42) (.mv 42 (.t 41)),.gd 42 false (some 43) (.mv 43 (.t 0)),.gd 42 false (some 44) (.nilc 44 (.t 43)),.gd 42 false (some 45) (.fa 45 (.t 44) 0),.gd 42 false (some 46) (.ldq 46 false 1 (.t 45)),.gd 42 false (some 47) (.mv 47 (.t 0)),.gd 42 false (some 48) (.nilc 48 (.t 47)),.gd 42 false (some 49) (.fa 49 (.t 48) 1),.gd 42 false (some 50) (.ldq 50 false 1 (.t 49)),.gd 42 false (some 51) (.ia 51 5 (.t 46) (.t 50)),.gd 42 false (some 52) (.fa 52 (.t 51) 1),.gd 42 false (some 53) (.ldq 53 false 1 (.t 52)),.gd 42 false (some 54) (.mv 54 (.t 2)),.gd 42 false (some 55) (.bin 55 .eql (.t 53) (.t 54)),.gd 39 true (some 56) (.pick 56 (.t 42) (.c (B true)) (.t 55)),.pick 57 (.t 39) (.t 56) (.c (B false)),.mv 6 (.t 57)]) (.keep [6] .ret)))
def Kv:AF where
 nargs:=0
 ntmps:=2
 res:=[.tmp 0]
 body:=(.seq (.reg [.mv 0 (.c (.n 1))]) (.seq (.reg [.mks 1 1 [(.c (S [112,40,97,41])),(.c (S [112,40,98,41])),(.c (S [112,40,99,41])),(.c (S [113,40,88,41,32,58,45,32,112,40,88,41])),(.c (S [113,40,122,41])),(.c (S [114,40,88,44,32,89,41,32,58,45,32,112,40,88,41,44,32,113,40,89,41])),(.c (S [97,112,112,40,91,93,44,32,76,44,32,76,41])),(.c (S [97,112,112,40,91,72,124,84,93,44,32,76,44,32,91,72,124,82,93,41,32,58,45,32,97,112,112,40,84,44,32,76,44,32,82,41])),(.c (S [108,101,110,40,91,93,44,32,48,41])),(.c (S [108,101,110,40,91,95,124,84,93,44,32,78,41,32,58,45,32,108,101,110,40,84,44,32,77,41,44,32,78,32,105,115,32,77,32,43,32,49])),(.c (S [115,40,88,41,32,58,45,32,112,40,88,41,44,32,33])),(.c (S [115,40,122,41])),(.c (S [116,40,88,41,32,58,45,32,40,112,40,88,41,32,45,62,32,116,114,117,101,32,59,32,88,32,61,32,110,111,110,101,41])),(.c (S [117,40,88,41,32,58,45,32,92,43,32,112,40,88,41])),(.c (S [119,40,88,41,32,58,45,32,112,40,88,41,44,32,119,114,105,116,101,40,88,41])),(.c (S [99,40,88,41,32,58,45,32,99,97,116,99,104,40,112,40,88,41,44,32,95,44,32,116,114,117,101,41])),(.c (S [101,40,88,41,32,58,45,32,99,97,116,99,104,40,116,104,114,111,119,40,88,41,44,32,89,44,32,119,114,105,116,101,40,89,41,41])),(.c (S [110,40,88,41,32,58,45,32,88,32,105,115,32,51,32,47,47,32,48])),(.c (S [109,40,88,41,32,58,45,32,99,97,116,99,104,40,110,40,88,41,44,32,101,114,114,111,114,40,69,44,32,95,41,44,32,40,88,32,61,32,69,41,41])),(.c (S [97,100,100,40,88,41,32,58,45,32,97,115,115,101,114,116,122,40,112,40,88,41,41])),(.c (S [100,101,108,40,88,41,32,58,45,32,114,101,116,114,97,99,116,40,112,40,88,41,41])),(.c (S [108,111,111,112,32,58,45,32,108,111,111,112])),(.c (S [118,40,88,41,32,58,45,32,99,97,108,108,40,112,44,32,88,41])),(.c (S [100,40,88,44,32,89,41,32,58,45,32,88,32,61,32,89,32,59,32,89,32,61,32,98])),(.c (S [103,40,102,40,88,41,44,32,88,41])),(.c (S [103,40,104,40,88,41,44,32,88,41])),(.c (S [103,40,49,44,32,111,110,101,41])),(.c (S [107,40,88,41,32,58,45,32,117,110,107,110,111,119,110,40,88,41])),(.c (S [121,40,88,41,32,58,45,32,112,40,88,41,44,32,97,115,115,101,114,116,122,40,112,40,100,41,41,44,32,88,32,61,32,98]))],.mv 0 (.t 1)]) (.keep [0] .ret)))
def YG:AF where
 nargs:=2
 ntmps:=17
 res:=[.cell 4 true 2,.tmp 5]
 body:=(.seq (.reg [.new 2 (.t 0),.new 3 (.t 1),.new 4 (.c (.a [(.n 9),(.n 1)])),.mv 5 (.c (B false))]) (.keep [2,3,4] (.seq (.reg [.ld 9 true 2 (.t 2),.ld 10 true 9 (.t 3),.call (some 11) (.c (Fc qgv)) [(.t 9),(.t 10)] (.ro false),.mv 8 (.t 11),.ext 12 (.t 8) 0,.ext 13 (.t 8) 1,.new 6 (.c (.a [(.n 9),(.n 1)])),.st 2 (.t 6) (.t 12),.mv 7 (.t 13)]) (.keep [4,6,7] (.seq (.reg [.ld 14 true 2 (.t 6),.call (some 15) (.c (Fc qdP)) [(.t 14)] (.ro false),.mv 16 (.t 7),.st 2 (.t 4) (.t 15),.mv 5 (.t 16)]) (.keep [4,5] .ret))))))
def X8:AF where
 nargs:=2
 ntmps:=11
 res:=[.cell 4 true 2]
 body:=(.seq (.reg [.new 2 (.t 0),.new 4 (.c (.a [(.n 9),(.n 1)]))]) (.seq (.reg [.ld 6 true 2 (.t 2),.mv 7 (.t 1),.call (some 8) (.c (Fc qgB)) [(.t 6),(.t 7)] (.ro false),.new 5 (.c (.a [(.n 9),(.n 1)])),.st 2 (.t 5) (.t 8)]) (.keep [4,5] (.seq (.reg [.ld 9 true 2 (.t 5),.call (some 10) (.c (Fc qdP)) [(.t 9)] (.ro false),.st 2 (.t 4) (.t 10)]) (.keep [4] .ret)))))
def YX:AF where
 nargs:=1
 ntmps:=13
 res:=[.tmp 2]
 body:=(.seq (.reg [.new 1 (.t 0),.mv 2 (.c (B false))]) (.seq (.reg [.ld 4 true 4 (.t 1),.call (some 5) (.c (Fc qgf)) [(.t 4)] (.ro false),.mv 3 (.t 5)]) (.seq (.reg [.mv 6 (.t 3),.bin 7 .neq (.t 6) (.c (S [])),.mv 8 (.t 7),.gd 8 true (some 9) (.mv 9 (.t 3)),.gd 8 true (some 10) (.call (some 10) (.c (Fc qf3)) [(.t 9)] (.ro false)),.gd 8 true (some 11) (.un 11 .not (.t 10)),.pick 12 (.t 8) (.t 11) (.c (B false)),.mv 2 (.t 12)]) (.keep [2] .ret))))
def qjR:AC:=(.seq (.seq (.reg [.mv 6 (.t 5),.mv 7 (.t 0),.len 8 (.t 7),.bin 9 .lss (.t 6) (.t 8)]) (.keep [0,1,5,9] (.cond (.t 9) .skip (.keep [] (.exit 0))))) (.keep [0,1,5] (.seq (.block 1 (.seq (.reg [.mv 12 (.t 0),.mv 13 (.t 5),.ia 14 1 (.t 12) (.t 13),.ld 15 false 1 (.t 14),.mv 16 (.t 1),.bin 17 .eql (.t 15) (.t 16)]) (.keep [0,1,5,17] (.cond (.t 17) (.seq (.reg [.mv 18 (.t 5),.mv 4 (.t 18)]) (.keep [4] .ret)) .skip)))) (.keep [0,1,5] (.reg [.mv 10 (.t 5),.bin 11 .add (.t 10) (.c (I 1)),.mv 5 (.t 11)])))))
def qd8:Lp:=⟨[0,1,5],[(2,0)],qjR⟩
@[go_sem] theorem qHD:qd8.ls=[0,1,5]:=rfl
@[go_sem] theorem qHC:qd8.ks=[(2,0)]:=rfl
@[go_sem] theorem qHB:qd8.body=qjR:=rfl
def qdb:AF where
 nargs:=2
 ntmps:=19
 res:=[.tmp 4]
 body:=(.seq (.reg [.mv 4 (.c (I 0))]) (.seq (.seq (.reg [.mv 5 (.c (I 0))]) (.block 0 (lpC qd8))) (.keep [] (.seq (.reg [.mv 4 (.c (I (-1)))]) (.keep [4] .ret)))))
def qjT:AC:=(.seq (.seq (.reg [.mv 21 (.t 5),.fa 22 (.t 2) 3,.ld 23 false 1 (.t 22),.len 24 (.t 23),.bin 25 .lss (.t 21) (.t 24)]) (.keep [1,2,5,25] (.cond (.t 25) .skip (.keep [1] (.exit 0))))) (.keep [1,2,5] (.seq (.block 1 (.reg [.fa 28 (.t 2) 3,.ld 29 false 1 (.t 28),.mv 30 (.t 5),.ia 31 4 (.t 29) (.t 30),.ld 32 true 4 (.t 31),.mv 33 (.t 1),.call (some 34) (.c (Fc qjt)) [(.t 32),(.t 33)] (.io false),.mv 1 (.t 34)])) (.keep [1,2,5] (.reg [.mv 26 (.t 5),.bin 27 .add (.t 26) (.c (I 1)),.mv 5 (.t 27)])))))
def qea:Lp:=⟨[1,2,5],[(0,0)],qjT⟩
@[go_sem] theorem qHV:qea.ls=[1,2,5]:=rfl
@[go_sem] theorem qHU:qea.ks=[(0,0)]:=rfl
@[go_sem] theorem qHT:qea.body=qjT:=rfl
def qdd:AF where
 nargs:=2
 ntmps:=36
 res:=[.tmp 4]
 body:=(.seq (.reg [.new 2 (.t 0),.mv 4 (.c (.n 1))]) (.seq (.seq (.reg [.fa 6 (.t 2) 0,.ld 7 false 1 (.t 6),.bin 8 .eql (.t 7) (.c (I 1)),.mv 9 (.t 8),.gd 9 true (some 10) (.mv 10 (.t 1)),.gd 9 true (some 11) (.fa 11 (.t 2) 2),.gd 9 true (some 12) (.ld 12 false 1 (.t 11)),.gd 9 true (some 13) (.call (some 13) (.c (Fc qpJ)) [(.t 10),(.t 12)] (.ro true)),.gd 9 true (some 14) (.un 14 .not (.t 13)),.pick 15 (.t 9) (.t 14) (.c (B false))]) (.keep [1,2,15] (.cond (.t 15) (.reg [.mv 16 (.t 1),.fa 17 (.t 2) 2,.ld 18 false 1 (.t 17),.mks 19 1 [(.t 18)],.app 20 1 8 (.t 16) (.t 19),.mv 1 (.t 20)]) .skip))) (.keep [1,2] (.seq (.seq (.reg [.mv 5 (.c (I 0))]) (.block 0 (lpC qea))) (.keep [1] (.seq (.reg [.mv 35 (.t 1),.mv 4 (.t 35)]) (.keep [4] .ret)))))))
def qeq:AC:=(.seq (.seq (.reg [.mv 6 (.t 4),.mv 7 (.t 0),.len 8 (.t 7),.bin 9 .lss (.t 6) (.t 8)]) (.keep [0,3,4,9] (.cond (.t 9) .skip (.keep [3] (.exit 0))))) (.keep [0,3,4] (.seq (.block 1 (.reg [.mv 12 (.t 3),.mv 13 (.t 0),.mv 14 (.t 4),.ia 15 4 (.t 13) (.t 14),.ld 16 true 4 (.t 15),.call (some 17) (.c (Fc ZY)) [(.t 16)] (.ro false),.mks 18 4 [(.t 17)],.app 19 4 56 (.t 12) (.t 18),.mv 3 (.t 19)])) (.keep [0,3,4] (.reg [.mv 10 (.t 4),.bin 11 .add (.t 10) (.c (I 1)),.mv 4 (.t 11)])))))
def qbb:Lp:=⟨[0,3,4],[(1,0)],qeq⟩
@[go_sem] theorem qIZ:qbb.ls=[0,3,4]:=rfl
@[go_sem] theorem qIY:qbb.ks=[(1,0)]:=rfl
@[go_sem] theorem qIX:qbb.body=qeq:=rfl
def KD:AF where
 nargs:=1
 ntmps:=21
 res:=[.tmp 2]
 body:=(.seq (.reg [.mv 2 (.c (.n 4))]) (.seq (.reg [.mks 5 4 [],.mv 3 (.t 5)]) (.seq (.seq (.reg [.mv 4 (.c (I 0))]) (.block 0 (lpC qbb))) (.keep [3] (.seq (.reg [.mv 20 (.t 3),.mv 2 (.t 20)]) (.keep [2] .ret))))))
def KY:AC:=(.seq (.seq (.reg [.mv 10 (.t 0),.bin 11 .neq (.t 10) (.c (I 0))]) (.cond (.t 11) .skip (.keep [3,4] (.exit 0)))) (.keep [0,3,4] (.block 1 (.seq (.reg [.mv 12 (.t 0),.bin 13 .rem (.t 12) (.c (I 10)),.mv 5 (.t 13)]) (.seq (.seq (.reg [.mv 14 (.t 5),.bin 15 .lss (.t 14) (.c (I 0))]) (.cond (.t 15) (.reg [.mv 16 (.t 5),.un 17 .neg (.t 16),.mv 5 (.t 17)]) .skip)) (.keep [0,3,4,5] (.seq (.reg [.mv 18 (.t 5),.call (some 19) (.c (Fc qgh)) [(.t 18)] (.ro false),.mks 20 1 [(.t 19)],.str 21 (.t 20),.mv 22 (.t 4),.bin 23 .add (.t 21) (.t 22),.mv 4 (.t 23)]) (.keep [0,3,4] (.reg [.mv 24 (.t 0),.bin 25 .quo (.t 24) (.c (I 10)),.mv 0 (.t 25)])))))))))
def qaS:Lp:=⟨[0,3,4],[(1,0)],KY⟩
@[go_sem] theorem qHf:qaS.ls=[0,3,4]:=rfl
@[go_sem] theorem qHe:qaS.ks=[(1,0)]:=rfl
@[go_sem] theorem qHd:qaS.body=KY:=rfl
def ZH:AF where
 nargs:=1
 ntmps:=30
 res:=[.tmp 2]
 body:=(.seq (.reg [.mv 2 (.c (S []))]) (.seq (.seq (.reg [.mv 6 (.t 0),.bin 7 .eql (.t 6) (.c (I 0))]) (.cond (.t 7) (.seq (.reg [.mv 2 (.c (S [48]))]) (.keep [2] .ret)) .skip)) (.keep [0] (.seq (.reg [.mv 8 (.t 0),.bin 9 .lss (.t 8) (.c (I 0)),.mv 3 (.t 9)]) (.seq (.reg [.mv 4 (.c (S []))]) (.seq (.block 0 (lpC qaS)) (.keep [3,4] (.seq (.seq (.reg [.mv 26 (.t 3)]) (.cond (.t 26) (.seq (.reg [.mv 27 (.t 4),.bin 28 .add (.c (S [45])) (.t 27),.mv 2 (.t 28)]) (.keep [2] .ret)) .skip)) (.keep [4] (.seq (.reg [.mv 29 (.t 4),.mv 2 (.t 29)]) (.keep [2] .ret)))))))))))
def Ks:AF where
 nargs:=1
 ntmps:=21
 res:=[.tmp 2]
 body:=(.seq (.reg [.mv 2 (.c (B false))]) (.seq (.reg [.mv 8 (.t 0),.call (some 9) (.c (Fc Zc)) [(.t 8)] (.ro false),.mv 7 (.t 9),.ext 10 (.t 7) 0,.ext 11 (.t 7) 1,.new 3 (.c (.a [(S []),(I 0),(I 0),(I 0)])),.st 4 (.t 3) (.t 10),.mv 4 (.t 11)]) (.keep [0,4] (.seq (.reg [.mv 13 (.t 0),.call (some 14) (.c (Fc qdF)) [(.t 13)] (.ro false),.mv 12 (.t 14),.ext 15 (.t 12) 0,.ext 16 (.t 12) 1,.new 5 (.c (.a [(S []),(I 0),(I 0),(I 0)])),.st 4 (.t 5) (.t 15),.mv 6 (.t 16)]) (.keep [4,6] (.seq (.reg [.mv 17 (.t 4),.mv 18 (.t 17),.gd 18 false (some 19) (.mv 19 (.t 6)),.pick 20 (.t 18) (.c (B true)) (.t 19),.mv 2 (.t 20)]) (.keep [2] .ret)))))))
def qem:AC:=(.seq (.seq (.reg [.fa 11 (.t 1) 3,.ld 12 false 1 (.t 11),.ia 13 4 (.t 12) (.c (I 1)),.ld 14 true 4 (.t 13),.call (some 15) (.c (Fc ZX)) [(.t 14),(.c (S [46])),(.c (I 2))] (.ro true)]) (.keep [1,3,15] (.cond (.t 15) .skip (.keep [1,3] (.exit 0))))) (.keep [1,3] (.block 1 (.seq (.reg [.fa 16 (.t 1) 3,.ld 17 false 1 (.t 16),.ia 18 4 (.t 17) (.c (I 1)),.ld 19 true 4 (.t 18),.st 4 (.t 1) (.t 19)]) (.keep [1,3] (.reg [.mv 20 (.t 3),.bin 21 .add (.t 20) (.c (S [44])),.fa 22 (.t 1) 3,.ld 23 false 1 (.t 22),.ia 24 4 (.t 23) (.c (I 0)),.ld 25 true 4 (.t 24),.call (some 26) (.c (Fc xt)) [(.t 25)] (.ro false),.bin 27 .add (.t 21) (.t 26),.mv 3 (.t 27)]))))))
def qa6:Lp:=⟨[1,3],[(1,0)],qem⟩
@[go_sem] theorem qIv:qa6.ls=[1,3]:=rfl
@[go_sem] theorem qIu:qa6.ks=[(1,0)]:=rfl
@[go_sem] theorem qIt:qa6.body=qem:=rfl
def ZP:AF where
 nargs:=1
 ntmps:=48
 res:=[.tmp 2]
 body:=(.seq (.reg [.new 1 (.t 0),.mv 2 (.c (S []))]) (.seq (.reg [.fa 5 (.t 1) 3,.ld 6 false 1 (.t 5),.ia 7 4 (.t 6) (.c (I 0)),.ld 8 true 4 (.t 7),.call (some 9) (.c (Fc xt)) [(.t 8)] (.ro false),.bin 10 .add (.c (S [91])) (.t 9),.mv 3 (.t 10)]) (.keep [1,3] (.seq (.block 0 (lpC qa6)) (.keep [1,3] (.seq (.reg [.fa 28 (.t 1) 3,.ld 29 false 1 (.t 28),.ia 30 4 (.t 29) (.c (I 1)),.ld 31 true 4 (.t 30),.new 4 (.c (.a [(I 0),(S []),(I 0),(.n 4)])),.st 4 (.t 4) (.t 31)]) (.keep [3,4] (.seq (.seq (.reg [.fa 32 (.t 4) 0,.ld 33 false 1 (.t 32),.bin 34 .eql (.t 33) (.c (I 2)),.mv 35 (.t 34),.gd 35 true (some 36) (.fa 36 (.t 4) 1),.gd 35 true (some 37) (.ld 37 false 1 (.t 36)),.gd 35 true (some 38) (.bin 38 .eql (.t 37) (.c (S [91,93]))),.pick 39 (.t 35) (.t 38) (.c (B false))]) (.keep [3,4,39] (.cond (.t 39) (.seq (.reg [.mv 40 (.t 3),.bin 41 .add (.t 40) (.c (S [93])),.mv 2 (.t 41)]) (.keep [2] .ret)) .skip))) (.keep [3,4] (.seq (.reg [.mv 42 (.t 3),.bin 43 .add (.t 42) (.c (S [124])),.ld 44 true 4 (.t 4),.call (some 45) (.c (Fc xt)) [(.t 44)] (.ro false),.bin 46 .add (.t 43) (.t 45),.bin 47 .add (.t 46) (.c (S [93])),.mv 2 (.t 47)]) (.keep [2] .ret)))))))))))
def qcL:AF where
 nargs:=1
 ntmps:=5
 res:=[.tmp 2]
 body:=(.seq (.reg [.new 1 (.t 0),.mv 2 (.c (S []))]) (.seq (.reg [.ld 3 true 4 (.t 1),.call (some 4) (.c (Fc qdB)) [(.t 3),(.c (Fc qdA)),(.c (Fc qps))] (.ro false),.mv 2 (.t 4)]) (.keep [2] .ret)))
def YP:AF where
 nargs:=1
 ntmps:=58
 res:=[.tmp 2]
 body:=(.seq (.reg [.mv 2 (.c (I 0))]) (.seq (.reg [.mv 4 (.t 0),.mv 5 (.t 0),.nilc 6 (.t 5),.fa 7 (.t 6) 2,.ld 8 false 1 (.t 7),.bin 9 .mul (.t 8) (.c (I 6364136223846793005)),.bin 10 .add (.t 9) (.c (I 1442695040888963407)),.nilc 11 (.t 4),.fa 12 (.t 11) 2,.st 1 (.t 12) (.t 10)]) (.keep [0] (.seq (.dreg [⟨0,[]⟩,⟨0,[]⟩,⟨0,[]⟩,⟨0,[(0,0),(0,1),(0,2),(0,3),(8,0),(53,0)]⟩,⟨0,[]⟩,⟨0,[]⟩,⟨0,[]⟩,⟨0,[]⟩,⟨0,[(0,0),(0,1),(0,2),(0,3),(8,0),(53,0)]⟩,⟨0,[]⟩,⟨0,[]⟩,⟨0,[]⟩,⟨0,[]⟩] [.mv 13 (.t 0),.nilc 14 (.t 13),.fa 15 (.t 14) 2,.ldq 16 false 1 (.t 15),.bin 17 .shr (.t 16) (.c (.v (.int .u64 33))),.mv 18 (.t 0),.nilc 19 (.t 18),.fa 20 (.t 19) 2,.ldq 21 false 1 (.t 20),.bin 22 .shr (.t 21) (.c (.v (.int .u64 45))),.bin 23 .xor (.t 17) (.t 22),.bin 24 .and (.t 23) (.c (I 255)),.mv 3 (.t 24)]) (.keep [0,3] (.seq (.seq (.dreg [⟨0,[]⟩,⟨0,[]⟩,⟨0,[]⟩,⟨0,[(0,0),(0,1),(0,2),(0,3),(8,0),(53,0)]⟩,⟨0,[]⟩,⟨0,[]⟩,⟨0,[]⟩,⟨0,[(0,0),(0,1),(0,2),(0,3),(8,0),(53,0)]⟩,⟨0,[(0,0),(0,1),(0,2),(0,3),(8,0),(32,0),(53,0)]⟩,⟨0,[]⟩] [.mv 25 (.t 0),.nilc 26 (.t 25),.fa 27 (.t 26) 1,.ldq 28 false 1 (.t 27),.mv 29 (.t 0),.nilc 30 (.t 29),.fa 31 (.t 30) 0,.ldq 32 false 1 (.t 31),.len 33 (.t 32),.bin 34 .lss (.t 28) (.t 33)]) (.keep [0,3,34] (.cond (.t 34) (.seq (.dreg [⟨0,[]⟩,⟨0,[]⟩,⟨0,[]⟩,⟨0,[]⟩,⟨0,[(0,0),(0,1),(0,2),(0,3),(8,0),(53,0)]⟩,⟨0,[]⟩,⟨0,[]⟩,⟨0,[]⟩,⟨0,[(0,0),(0,1),(0,2),(0,3),(8,0),(53,0)]⟩,⟨0,[(0,0),(0,1),(0,2),(0,3),(8,0),(39,0),(43,0),(53,0)]⟩,⟨0,[(0,0),(0,1),(0,2),(0,3),(8,0),(39,0),(43,0),(53,0)]⟩,⟨0,[]⟩,⟨0,[]⟩,⟨0,[]⟩,⟨0,[]⟩] [.mv 35 (.t 3),.mv 36 (.t 0),.nilc 37 (.t 36),.fa 38 (.t 37) 0,.ldq 39 false 1 (.t 38),.mv 40 (.t 0),.nilc 41 (.t 40),.fa 42 (.t 41) 1,.ldq 43 false 1 (.t 42),.ia 44 1 (.t 39) (.t 43),.ldq 45 false 1 (.t 44),.int 46 .i64 (.t 45),.bin 47 .add (.t 35) (.t 46),.bin 48 .and (.t 47) (.c (I 255)),.mv 3 (.t 48)]) (.keep [0,3] (.reg [.mv 49 (.t 0),.mv 50 (.t 0),.nilc 51 (.t 50),.fa 52 (.t 51) 1,.ld 53 false 1 (.t 52),.bin 54 .add (.t 53) (.c (I 1)),.nilc 55 (.t 49),.fa 56 (.t 55) 1,.st 1 (.t 56) (.t 54)]))) .skip))) (.keep [0,3] (.seq (.reg [.mv 57 (.t 3),.mv 2 (.t 57)]) (.keep [0,2] .ret)))))))))
def qcu:AF where
 nargs:=1
 ntmps:=5
 res:=[.tmp 2]
 body:=(.seq (.reg [.new 1 (.t 0),.mv 2 (.c (.n 1))]) (.seq (.reg [.ld 3 true 4 (.t 1),.call (some 4) (.c (Fc qjp)) [(.c (.n 1)),(.t 3)] (.io false),.mv 2 (.t 4)]) (.keep [2] .ret)))
def qef:AC:=(.seq (.reg [.bin 22 .lss (.t 21) (.t 20)]) (.seq (.cond (.t 22) .skip (.keep [4,5] (.exit 0))) (.keep [1,4,5,19,20,21] (.seq (.block 1 (.seq (.reg [.ia 23 4 (.t 19) (.t 21),.ld 24 true 4 (.t 23),.new 7 (.c (.a [(I 0),(S []),(I 0),(.n 4)])),.st 4 (.t 7) (.t 24)]) (.keep [1,4,5,7,19,20,21] (.dreg [⟨0,[]⟩,⟨0,[(5,0),(100000,0),(100000,1),(100000,2),(100000,3),(100000,4),(100000,5)]⟩,⟨0,[(7,0)]⟩,⟨0,[]⟩,⟨2,[(0,0),(0,1),(0,2),(0,3),(1,0),(1,1),(1,2),(1,3),(19,0),(24,0),(27,0),(100000,0),(100000,1),(100000,2),(100000,3),(100000,4),(100000,5)]⟩,⟨1,[]⟩,⟨1,[(0,0),(0,1),(0,2),(0,3),(1,0),(1,1),(1,2),(1,3),(19,0),(24,0),(27,0),(29,0),(29,1),(29,2),(29,3),(30,0),(500000,0),(100000,0),(100000,1),(100000,2),(100000,3),(100000,4),(100000,5)]⟩,⟨0,[]⟩,⟨1,[(5,0),(100000,0),(100000,1),(100000,2),(100000,3),(100000,4),(100000,5)]⟩] [.fa 25 (.t 5) 3,.ldq 26 false 1 (.t 25),.ldq 27 true 4 (.t 7),.mv 28 (.t 1),.call (some 29) (.c (Fc Y0)) [(.t 27),(.t 28)] (.ro false),.mks 30 4 [(.t 29)],.app 31 4 56 (.t 26) (.t 30),.fa 32 (.t 5) 3,.st 1 (.t 32) (.t 31)])))) (.keep [1,4,5,19,20,21] (.reg [.bin 33 .add (.t 21) (.c (I 1)),.mv 21 (.t 33)]))))))
def KQ:Lp:=⟨[1,4,5,19,20,21],[(2,0)],qef⟩
@[go_sem] theorem qGq:KQ.ls=[1,4,5,19,20,21]:=rfl
@[go_sem] theorem qGp:KQ.ks=[(2,0)]:=rfl
@[go_sem] theorem qGo:KQ.body=qef:=rfl
def YD:AF where
 nargs:=2
 ntmps:=35
 res:=[.cell 4 true 4]
 body:=(.seq (.reg [.new 2 (.t 0),.new 4 (.c (.a [(I 0),(S []),(I 0),(.n 4)]))]) (.seq (.reg [.ld 8 true 4 (.t 2),.new 5 (.c (.a [(I 0),(S []),(I 0),(.n 4)])),.st 4 (.t 5) (.t 8)]) (.seq (.reg [.fa 9 (.t 5) 3,.st 1 (.t 9) (.c (.n 4))]) (.seq (.seq (.reg [.fa 10 (.t 2) 0,.ld 11 false 1 (.t 10),.bin 12 .eql (.t 11) (.c (I 1))]) (.cond (.t 12) (.reg [.mv 13 (.t 1),.fa 14 (.t 2) 2,.ld 15 false 1 (.t 14),.call (some 16) (.t 13) [(.t 15)] (.ro false),.fa 17 (.t 5) 2,.st 1 (.t 17) (.t 16)]) .skip)) (.keep [1,2,4,5] (.seq (.seq (.reg [.fa 18 (.t 2) 3,.ld 19 false 1 (.t 18),.len 20 (.t 19),.mv 21 (.c (I 0))]) (.keep [1,4,5,19,20,21] (.block 0 (lpC KQ)))) (.keep [4,5] (.seq (.reg [.ld 34 true 4 (.t 5),.st 4 (.t 4) (.t 34)]) (.keep [4] .ret)))))))))
def qcp:AF where
 nargs:=1
 ntmps:=8
 res:=[.tmp 2]
 body:=(.seq (.reg [.mv 2 (.c (B false))]) (.seq (.reg [.mks 4 1 [(.c (S [116,114,117,101,47,48])),(.c (S [102,97,105,108,47,48])),(.c (S [33,47,48])),(.c (S [44,47,50])),(.c (S [59,47,50])),(.c (S [45,62,47,50])),(.c (S [92,43,47,49])),(.c (S [99,97,108,108,47,49])),(.c (S [99,97,108,108,47,50])),(.c (S [99,97,108,108,47,51])),(.c (S [99,97,116,99,104,47,51])),(.c (S [116,104,114,111,119,47,49])),(.c (S [61,47,50])),(.c (S [92,61,47,50])),(.c (S [61,61,47,50])),(.c (S [105,115,47,50])),(.c (S [60,47,50])),(.c (S [61,58,61,47,50])),(.c (S [118,97,114,47,49])),(.c (S [97,116,111,109,47,49])),(.c (S [119,114,105,116,101,47,49])),(.c (S [97,115,115,101,114,116,122,47,49])),(.c (S [114,101,116,114,97,99,116,47,49])),(.c (S [58,45,47,50])),(.c (S [58,45,47,49])),(.c (S [45,45,62,47,50]))],.mv 3 (.t 4)]) (.seq (.reg [.mv 5 (.t 3),.mv 6 (.t 0),.call (some 7) (.c (Fc qpG)) [(.t 5),(.t 6)] (.ro false),.mv 2 (.t 7)]) (.keep [2] .ret))))
def qcx:AF where
 nargs:=1
 ntmps:=5
 res:=[.cell 2 true 4]
 body:=(.seq (.reg [.new 2 (.c (.a [(I 0),(S []),(I 0),(.n 4)]))]) (.seq (.reg [.mv 3 (.t 0),.build 4 (.a [(I 0),(S []),(I 0),(.n 4)]) [(0,1,(.c (I 2))),(1,1,(.t 3))],.st 4 (.t 2) (.t 4)]) (.keep [2] .ret)))
def qcz:AF where
 nargs:=3
 ntmps:=10
 res:=[.tmp 4]
 body:=(.seq (.reg [.mv 4 (.c (I 0))]) (.seq (.dreg [⟨0,[(1,0),(1,1),(1,2),(1,3)]⟩,⟨0,[(2,0),(2,1),(2,2),(2,3)]⟩,⟨0,[]⟩,⟨2,[(0,0),(0,1),(0,2),(0,3),(2,0),(2,1),(2,2),(2,3),(6,0)]⟩,⟨0,[]⟩,⟨0,[]⟩] [.ldq 5 false 1 (.t 1),.ldq 6 false 1 (.t 2),.mv 7 (.t 0),.call (some 8) (.c (Fc qjr)) [(.t 6),(.t 7)] (.ro false),.bin 9 .add (.t 5) (.t 8),.mv 4 (.t 9)]) (.keep [4] .ret)))
def qjP:AC:=(.seq (.reg [.bin 9 .lss (.t 8) (.t 7)]) (.seq (.cond (.t 9) .skip (.keep [] (.exit 0))) (.keep [0,1,7,8] (.seq (.block 1 (.seq (.reg [.mv 10 (.t 8),.mv 5 (.t 10)]) (.seq (.reg [.mv 11 (.t 1),.mv 12 (.t 0),.mv 13 (.t 5),.ia 14 1 (.t 12) (.t 13),.ld 15 false 1 (.t 14),.bin 16 .eql (.t 11) (.t 15)]) (.keep [0,1,5,7,8,16] (.cond (.t 16) (.seq (.reg [.mv 17 (.t 5),.mv 4 (.t 17)]) (.keep [4] .ret)) .skip))))) (.keep [0,1,7,8] (.reg [.bin 18 .add (.t 8) (.c (I 1)),.mv 8 (.t 18)]))))))
def qd6:Lp:=⟨[0,1,7,8],[(2,0)],qjP⟩
@[go_sem] theorem qG6:qd6.ls=[0,1,7,8]:=rfl
@[go_sem] theorem qG5:qd6.ks=[(2,0)]:=rfl
@[go_sem] theorem qG4:qd6.body=qjP:=rfl
def qc7:AF where
 nargs:=2
 ntmps:=19
 res:=[.tmp 4]
 body:=(.seq (.reg [.mv 4 (.c (I 0))]) (.seq (.seq (.reg [.mv 6 (.t 0),.len 7 (.t 6),.mv 8 (.c (I 0))]) (.block 0 (lpC qd6))) (.keep [] (.seq (.reg [.mv 4 (.c (I (-1)))]) (.keep [4] .ret)))))
def qjC:AC:=(.seq (.reg [.bin 9 .lss (.t 8) (.t 7)]) (.seq (.cond (.t 9) .skip (.keep [3] (.exit 0))) (.keep [3,6,7,8] (.seq (.block 1 (.seq (.reg [.ia 10 1 (.t 6) (.t 8),.ld 11 false 1 (.t 10),.mv 5 (.t 11)]) (.reg [.mv 12 (.t 3),.mv 13 (.t 5),.bin 14 .add (.t 13) (.c (S [10])),.bin 15 .add (.t 12) (.t 14),.mv 3 (.t 15)]))) (.keep [3,6,7,8] (.reg [.bin 16 .add (.t 8) (.c (I 1)),.mv 8 (.t 16)]))))))
def qdV:Lp:=⟨[3,6,7,8],[(1,0)],qjC⟩
@[go_sem] theorem qF8:qdV.ls=[3,6,7,8]:=rfl
@[go_sem] theorem qF7:qdV.ks=[(1,0)]:=rfl
@[go_sem] theorem qF6:qdV.body=qjC:=rfl
def qcA:AF where
 nargs:=1
 ntmps:=18
 res:=[.tmp 2]
 body:=(.seq (.reg [.mv 2 (.c (S []))]) (.seq (.reg [.mv 3 (.c (S []))]) (.seq (.seq (.reg [.mv 6 (.t 0),.len 7 (.t 6),.mv 8 (.c (I 0))]) (.block 0 (lpC qdV))) (.keep [3] (.seq (.reg [.mv 17 (.t 3),.mv 2 (.t 17)]) (.keep [2] .ret))))))
def qcX:AF where
 nargs:=2
 ntmps:=19
 res:=[.tmp 4]
 body:=(.seq (.reg [.new 2 (.t 0),.mv 4 (.c (I 0))]) (.seq (.reg [.mv 5 (.t 1),.fa 6 (.t 2) 1,.ld 7 false 1 (.t 6),.slen 8 (.t 7),.bin 9 .sub (.t 5) (.t 8),.mv 1 (.t 9)]) (.keep [1,2] (.seq (.seq (.reg [.mv 10 (.t 1),.bin 11 .lss (.t 10) (.c (I 0))]) (.cond (.t 11) (.seq (.reg [.mv 4 (.c (I (-1)))]) (.keep [4] .ret)) .skip)) (.keep [1,2] (.seq (.reg [.fa 12 (.t 2) 3,.ld 13 false 1 (.t 12),.mv 14 (.t 1),.call (some 15) (.c (Fc qpA)) [(.t 13),(.t 14)] (.ro false),.mv 1 (.t 15)]) (.keep [1] (.seq (.seq (.reg [.mv 16 (.t 1),.bin 17 .lss (.t 16) (.c (I 0))]) (.cond (.t 17) (.seq (.reg [.mv 4 (.c (I (-1)))]) (.keep [4] .ret)) .skip)) (.keep [1] (.seq (.reg [.mv 18 (.t 1),.mv 4 (.t 18)]) (.keep [4] .ret)))))))))))
def qc3:AF where
 nargs:=1
 ntmps:=18
 res:=[.cell 2 true 4]
 body:=(.seq (.reg [.new 1 (.t 0),.new 2 (.c (.a [(I 0),(S []),(I 0),(.n 4)]))]) (.seq (.reg [.new 3 (.c (.a [(I 0),(S []),(I 0),(.n 4)]))]) (.seq (.reg [.fa 4 (.t 1) 0,.ld 5 false 1 (.t 4),.fa 6 (.t 3) 0,.st 1 (.t 6) (.t 5)]) (.keep [1,2,3] (.seq (.reg [.fa 7 (.t 1) 1,.ld 8 false 1 (.t 7),.fa 9 (.t 3) 1,.st 1 (.t 9) (.t 8)]) (.keep [1,2,3] (.seq (.reg [.fa 10 (.t 1) 2,.ld 11 false 1 (.t 10),.fa 12 (.t 3) 2,.st 1 (.t 12) (.t 11)]) (.keep [1,2,3] (.seq (.reg [.fa 13 (.t 1) 3,.ld 14 false 1 (.t 13),.call (some 15) (.c (Fc qpE)) [(.t 14)] (.ro false),.fa 16 (.t 3) 3,.st 1 (.t 16) (.t 15)]) (.keep [2,3] (.seq (.reg [.ld 17 true 4 (.t 3),.st 4 (.t 2) (.t 17)]) (.keep [2] .ret))))))))))))
def qcR:AF where
 nargs:=2
 ntmps:=26
 res:=[.tmp 4]
 body:=(.seq (.reg [.new 2 (.t 0),.new 3 (.t 1),.mv 4 (.c (B false))]) (.seq (.seq (.reg [.fa 5 (.t 2) 0,.ld 6 false 1 (.t 5),.fa 7 (.t 3) 0,.ld 8 false 1 (.t 7),.bin 9 .neq (.t 6) (.t 8)]) (.keep [2,3,9] (.cond (.t 9) (.seq (.reg [.mv 4 (.c (B false))]) (.keep [4] .ret)) .skip))) (.keep [2,3] (.seq (.seq (.reg [.fa 10 (.t 2) 1,.ld 11 false 1 (.t 10),.fa 12 (.t 3) 1,.ld 13 false 1 (.t 12),.bin 14 .neq (.t 11) (.t 13)]) (.keep [2,3,14] (.cond (.t 14) (.seq (.reg [.mv 4 (.c (B false))]) (.keep [4] .ret)) .skip))) (.keep [2,3] (.seq (.seq (.reg [.fa 15 (.t 2) 2,.ld 16 false 1 (.t 15),.fa 17 (.t 3) 2,.ld 18 false 1 (.t 17),.bin 19 .neq (.t 16) (.t 18)]) (.keep [2,3,19] (.cond (.t 19) (.seq (.reg [.mv 4 (.c (B false))]) (.keep [4] .ret)) .skip))) (.keep [2,3] (.seq (.seq (.reg [.fa 20 (.t 2) 3,.ld 21 false 1 (.t 20),.fa 22 (.t 3) 3,.ld 23 false 1 (.t 22),.call (some 24) (.c (Fc qpw)) [(.t 21),(.t 23)] (.ro true),.un 25 .not (.t 24)]) (.keep [25] (.cond (.t 25) (.seq (.reg [.mv 4 (.c (B false))]) (.keep [4] .ret)) .skip))) (.keep [] (.seq (.reg [.mv 4 (.c (B true))]) (.keep [4] .ret)))))))))))
def Kg:AF where
 nargs:=2
 ntmps:=12
 res:=[.tmp 4]
 body:=(.seq (.reg [.mv 4 (.c (S []))]) (.seq (.reg [.mv 5 (.t 1),.mv 6 (.t 0),.mv 7 (.t 1),.len 8 (.t 7),.call (some 9) (.c (Fc xF)) [(.t 6),(.t 8)] (.io false),.ia 10 1 (.t 5) (.t 9),.ld 11 false 1 (.t 10),.mv 4 (.t 11)]) (.keep [0,4] .ret)))
def Km:AF where
 nargs:=1
 ntmps:=5
 res:=[.cell 2 true 4]
 body:=(.seq (.reg [.new 2 (.c (.a [(I 0),(S []),(I 0),(.n 4)]))]) (.seq (.reg [.mv 3 (.t 0),.build 4 (.a [(I 0),(S []),(I 0),(.n 4)]) [(0,1,(.c (I 1))),(2,1,(.t 3))],.st 4 (.t 2) (.t 4)]) (.keep [2] .ret)))
def Kl:AF where
 nargs:=1
 ntmps:=5
 res:=[.cell 2 true 4]
 body:=(.seq (.reg [.new 2 (.c (.a [(I 0),(S []),(I 0),(.n 4)]))]) (.seq (.reg [.mv 3 (.t 0),.build 4 (.a [(I 0),(S []),(I 0),(.n 4)]) [(0,1,(.c (I 3))),(2,1,(.t 3))],.st 4 (.t 2) (.t 4)]) (.keep [2] .ret)))
def Kh:AF where
 nargs:=2
 ntmps:=12
 res:=[.tmp 4]
 body:=(.seq (.reg [.mv 4 (.c (I 0))]) (.seq (.reg [.mv 5 (.t 1),.mv 6 (.t 0),.mv 7 (.t 1),.len 8 (.t 7),.call (some 9) (.c (Fc xF)) [(.t 6),(.t 8)] (.io false),.ia 10 1 (.t 5) (.t 9),.ld 11 false 1 (.t 10),.mv 4 (.t 11)]) (.keep [0,4] .ret)))
def ZI:AF where
 nargs:=1
 ntmps:=35
 res:=[.cell 2 true 4,.tmp 3]
 body:=(.seq (.reg [.new 2 (.c (.a [(I 0),(S []),(I 0),(.n 4)])),.mv 3 (.c (S []))]) (.seq (.reg [.mv 9 (.t 0),.call (some 10) (.c (Fc ZW)) [(.t 9)] (.ro false),.mv 4 (.t 10)]) (.seq (.reg [.mv 11 (.t 4),.call (some 12) (.c (Fc xF)) [(.t 11),(.c (I 4))] (.io true),.mv 5 (.t 12)]) (.seq (.reg [.mv 14 (.t 4),.call (some 15) (.c (Fc qaI)) [] (.ro false),.call (some 16) (.c (Fc jK)) [(.t 14),(.t 15)] (.io false),.bin 17 .add (.t 16) (.c (S [32,46])),.call (some 18) (.c (Fc qay)) [(.t 17)] (.ro false),.mv 13 (.t 18),.ext 19 (.t 13) 0,.ext 20 (.t 13) 1,.ext 21 (.t 13) 2,.new 6 (.c (.a [(I 0),(S []),(I 0),(.n 4)])),.st 4 (.t 6) (.t 19),.mv 7 (.t 20),.mv 8 (.t 21)]) (.keep [2,4,5,6] (.seq (.seq (.reg [.mv 22 (.t 5)]) (.block 0 (.seq (.reg [.bin 24 .eql (.t 22) (.c (I 0)),.mv 23 (.t 24)]) (.cond (.t 23) (.reg [.mv 25 (.t 4),.call (some 26) (.c (Fc Qn)) [(.t 25)] (.io false),.st 4 (.t 6) (.t 26)]) (.seq (.reg [.bin 28 .eql (.t 22) (.c (I 1)),.mv 27 (.t 28)]) (.cond (.t 27) (.reg [.mv 29 (.t 4),.call (some 30) (.c (Fc qdI)) [(.t 29)] (.io false),.mv 31 (.t 4),.call (some 32) (.c (Fc qdI)) [(.t 31)] (.io false),.call (some 33) (.c (Fc Ze)) [(.c (S [58,45])),(.t 30),(.t 32)] (.io false),.st 4 (.t 6) (.t 33)]) .skip)))))) (.keep [2,6] (.seq (.reg [.ld 34 true 4 (.t 6),.st 4 (.t 2) (.t 34),.mv 3 (.c (S [111,110,101]))]) (.keep [2,3] .ret)))))))))
def ZZ:AC:=(.seq (.seq (.reg [.mv 4 (.t 3),.mv 5 (.t 0),.slen 6 (.t 5),.bin 7 .lss (.t 4) (.t 6)]) (.keep [0,3,7] (.cond (.t 7) .skip (.keep [0] (.exit 0))))) (.keep [0,3] (.seq (.block 1 (.seq (.reg [.mv 10 (.t 0),.mv 11 (.t 3),.ix 12 (.t 10) (.t 11),.int 13 .i64 (.t 12),.call (some 14) (.c (Fc Qm)) [(.t 13),(.c (I 33)),(.c (I 126))] (.ro true),.un 15 .not (.t 14),.mv 16 (.t 15),.gd 16 false (some 17) (.mv 17 (.t 0)),.gd 16 false (some 18) (.mv 18 (.t 3)),.gd 16 false (some 19) (.ix 19 (.t 17) (.t 18)),.gd 16 false (some 20) (.bin 20 .eql (.t 19) (.c (U8 39))),.pick 21 (.t 16) (.c (B true)) (.t 20),.mv 22 (.t 21),.gd 22 false (some 23) (.mv 23 (.t 0)),.gd 22 false (some 24) (.mv 24 (.t 3)),.gd 22 false (some 25) (.ix 25 (.t 23) (.t 24)),.gd 22 false (some 26) (.bin 26 .eql (.t 25) (.c (U8 34))),.pick 27 (.t 22) (.c (B true)) (.t 26)]) (.keep [0,3,27] (.cond (.t 27) (.seq (.reg [.mv 2 (.c (B false))]) (.keep [2] .ret)) .skip)))) (.keep [0,3] (.reg [.mv 8 (.t 3),.bin 9 .add (.t 8) (.c (I 1)),.mv 3 (.t 9)])))))
def KM:Lp:=⟨[0,3],[(1,0)],ZZ⟩
@[go_sem] theorem qGb:KM.ls=[0,3]:=rfl
@[go_sem] theorem qGa:KM.ks=[(1,0)]:=rfl
@[go_sem] theorem qF9:KM.body=ZZ:=rfl
def YC:AF where
 nargs:=1
 ntmps:=31
 res:=[.tmp 2]
 body:=(.seq (.reg [.mv 2 (.c (B false))]) (.seq (.seq (.reg [.mv 3 (.c (I 0))]) (.block 0 (lpC KM))) (.keep [0] (.seq (.reg [.mv 28 (.t 0),.slen 29 (.t 28),.call (some 30) (.c (Fc Qm)) [(.t 29),(.c (I 1)),(.c (I 20))] (.ro false),.mv 2 (.t 30)]) (.keep [2] .ret)))))
def XS:AF where
 nargs:=1
 ntmps:=21
 res:=[.tmp 2]
 body:=(.seq (.reg [.mv 2 (.c (B false))]) (.seq (.reg [.mv 8 (.t 0),.call (some 9) (.c (Fc ZS)) [(.t 8)] (.ro false),.mv 7 (.t 9),.ext 10 (.t 7) 0,.ext 11 (.t 7) 1,.new 3 (.c (.a [(S []),(I 0),(I 0),(I 0)])),.st 4 (.t 3) (.t 10),.mv 4 (.t 11)]) (.keep [0,4] (.seq (.reg [.mv 13 (.t 0),.call (some 14) (.c (Fc qdl)) [(.t 13)] (.ro false),.mv 12 (.t 14),.ext 15 (.t 12) 0,.ext 16 (.t 12) 1,.new 5 (.c (.a [(S []),(I 0),(I 0),(I 0)])),.st 4 (.t 5) (.t 15),.mv 6 (.t 16)]) (.keep [4,6] (.seq (.reg [.mv 17 (.t 4),.mv 18 (.t 17),.gd 18 false (some 19) (.mv 19 (.t 6)),.pick 20 (.t 18) (.c (B true)) (.t 19),.mv 2 (.t 20)]) (.keep [2] .ret)))))))
def Qa:AF where
 nargs:=1
 ntmps:=35
 res:=[.tmp 2]
 body:=(.seq (.reg [.mv 2 (.c (S []))]) (.seq (.reg [.mv 6 (.t 0),.call (some 7) (.c (Fc qfT)) [(.t 6)] (.ro true),.mv 5 (.t 7),.ext 8 (.t 5) 0,.ext 9 (.t 5) 1,.mv 3 (.t 8),.mv 4 (.t 9)]) (.keep [0,3,4] (.seq (.seq (.reg [.mv 10 (.t 4),.mv 11 (.t 10),.gd 11 true (some 12) (.mv 12 (.t 3)),.gd 11 true (some 13) (.len 13 (.t 12)),.gd 11 true (some 14) (.bin 14 .eql (.t 13) (.c (I 1))),.pick 15 (.t 11) (.t 14) (.c (B false)),.mv 16 (.t 15),.gd 16 true (some 17) (.mv 17 (.t 3)),.gd 16 true (some 18) (.ia 18 5 (.t 17) (.c (I 0))),.gd 16 true (some 19) (.fa 19 (.t 18) 0),.gd 16 true (some 20) (.ld 20 false 1 (.t 19)),.gd 16 true (some 21) (.bin 21 .eql (.t 20) (.c (I 1))),.pick 22 (.t 16) (.t 21) (.c (B false)),.mv 23 (.t 22),.gd 23 true (some 24) (.mv 24 (.t 3)),.gd 23 true (some 25) (.ia 25 5 (.t 24) (.c (I 0))),.gd 23 true (some 26) (.fa 26 (.t 25) 1),.gd 23 true (some 27) (.ld 27 false 1 (.t 26)),.gd 23 true (some 28) (.mv 28 (.t 0)),.gd 23 true (some 29) (.bin 29 .eql (.t 27) (.t 28)),.pick 30 (.t 23) (.t 29) (.c (B false))]) (.keep [0,30] (.cond (.t 30) (.seq (.reg [.mv 31 (.t 0),.mv 2 (.t 31)]) (.keep [2] .ret)) .skip))) (.keep [0] (.seq (.reg [.mv 32 (.t 0),.bin 33 .add (.c (S [39])) (.t 32),.bin 34 .add (.t 33) (.c (S [39])),.mv 2 (.t 34)]) (.keep [2] .ret)))))))
def XT:AF where
 nargs:=1
 ntmps:=5
 res:=[.tmp 2]
 body:=(.seq (.reg [.new 1 (.t 0),.mv 2 (.c (B false))]) (.seq (.reg [.ld 3 true 4 (.t 1),.call (some 4) (.c (Fc qdr)) [(.t 3),(.c (S [46])),(.c (I 2))] (.ro false),.mv 2 (.t 4)]) (.keep [2] .ret)))
def xc:AF where
 nargs:=1
 ntmps:=69
 res:=[.tmp 2]
 body:=(.seq (.reg [.new 1 (.t 0),.mv 2 (.c (B false))]) (.seq (.seq (.reg [.fa 3 (.t 1) 0,.ld 4 false 1 (.t 3)]) (.block 0 (.seq (.reg [.bin 6 .eql (.t 4) (.c (I 1)),.mv 5 (.t 6)]) (.cond (.t 5) (.seq (.reg [.fa 7 (.t 1) 2,.ld 8 false 1 (.t 7),.call (some 9) (.c (Fc Y4)) [(.t 8),(.c (I 0)),(.c (I 99999))] (.ro false),.mv 10 (.t 9),.gd 10 true (some 11) (.fa 11 (.t 1) 1),.gd 10 true (some 12) (.ld 12 false 1 (.t 11)),.gd 10 true (some 13) (.bin 13 .eql (.t 12) (.c (S []))),.pick 14 (.t 10) (.t 13) (.c (B false)),.mv 15 (.t 14),.gd 15 true (some 16) (.fa 16 (.t 1) 3),.gd 15 true (some 17) (.ld 17 false 1 (.t 16)),.gd 15 true (some 18) (.len 18 (.t 17)),.gd 15 true (some 19) (.bin 19 .eql (.t 18) (.c (I 0))),.pick 20 (.t 15) (.t 19) (.c (B false)),.mv 2 (.t 20)]) (.keep [2] .ret)) (.seq (.reg [.bin 22 .eql (.t 4) (.c (I 2)),.mv 21 (.t 22)]) (.cond (.t 21) (.seq (.reg [.fa 23 (.t 1) 1,.ld 24 false 1 (.t 23),.call (some 25) (.c (Fc qaB)) [(.t 24)] (.ro false),.mv 26 (.t 25),.gd 26 true (some 27) (.fa 27 (.t 1) 2),.gd 26 true (some 28) (.ld 28 false 1 (.t 27)),.gd 26 true (some 29) (.bin 29 .eql (.t 28) (.c (I 0))),.pick 30 (.t 26) (.t 29) (.c (B false)),.mv 31 (.t 30),.gd 31 true (some 32) (.fa 32 (.t 1) 3),.gd 31 true (some 33) (.ld 33 false 1 (.t 32)),.gd 31 true (some 34) (.len 34 (.t 33)),.gd 31 true (some 35) (.bin 35 .eql (.t 34) (.c (I 0))),.pick 36 (.t 31) (.t 35) (.c (B false)),.mv 2 (.t 36)]) (.keep [2] .ret)) (.seq (.reg [.bin 38 .eql (.t 4) (.c (I 3)),.mv 37 (.t 38)]) (.cond (.t 37) (.seq (.reg [.fa 39 (.t 1) 2,.ld 40 false 1 (.t 39),.call (some 41) (.c (Fc Y4)) [(.t 40),(.c (I (-999999999))),(.c (I 999999999))] (.ro false),.mv 42 (.t 41),.gd 42 true (some 43) (.fa 43 (.t 1) 1),.gd 42 true (some 44) (.ld 44 false 1 (.t 43)),.gd 42 true (some 45) (.bin 45 .eql (.t 44) (.c (S []))),.pick 46 (.t 42) (.t 45) (.c (B false)),.mv 47 (.t 46),.gd 47 true (some 48) (.fa 48 (.t 1) 3),.gd 47 true (some 49) (.ld 49 false 1 (.t 48)),.gd 47 true (some 50) (.len 50 (.t 49)),.gd 47 true (some 51) (.bin 51 .eql (.t 50) (.c (I 0))),.pick 52 (.t 47) (.t 51) (.c (B false)),.mv 2 (.t 52)]) (.keep [2] .ret)) (.seq (.reg [.bin 54 .eql (.t 4) (.c (I 4)),.mv 53 (.t 54)]) (.cond (.t 53) (.seq (.reg [.fa 55 (.t 1) 1,.ld 56 false 1 (.t 55),.call (some 57) (.c (Fc qaB)) [(.t 56)] (.ro false),.mv 58 (.t 57),.gd 58 true (some 59) (.fa 59 (.t 1) 2),.gd 58 true (some 60) (.ld 60 false 1 (.t 59)),.gd 58 true (some 61) (.bin 61 .eql (.t 60) (.c (I 0))),.pick 62 (.t 58) (.t 61) (.c (B false)),.mv 63 (.t 62),.gd 63 true (some 64) (.fa 64 (.t 1) 3),.gd 63 true (some 65) (.ld 65 false 1 (.t 64)),.gd 63 true (some 66) (.len 66 (.t 65)),.gd 63 true (some 67) (.call (some 67) (.c (Fc Y4)) [(.t 66),(.c (I 1)),(.c (I 5))] (.ro false)),.pick 68 (.t 63) (.t 67) (.c (B false)),.mv 2 (.t 68)]) (.keep [2] .ret)) .skip)))))))))) (.keep [] (.seq (.reg [.mv 2 (.c (B false))]) (.keep [2] .ret)))))
def XQ:AF where
 nargs:=1
 ntmps:=4
 res:=[.tmp 2]
 body:=(.seq (.reg [.mv 2 (.c (I 0))]) (.seq (.reg [.mv 3 (.t 0),.mv 2 (.t 3)]) (.keep [2] .ret)))
def ZM:AF where
 nargs:=1
 ntmps:=9
 res:=[.tmp 2]
 body:=(.seq (.reg [.mv 2 (.c (B false))]) (.seq (.reg [.mv 3 (.t 0),.bin 4 .geq (.t 3) (.c (U8 97)),.mv 5 (.t 4),.gd 5 true (some 6) (.mv 6 (.t 0)),.gd 5 true (some 7) (.bin 7 .leq (.t 6) (.c (U8 122))),.pick 8 (.t 5) (.t 7) (.c (B false)),.mv 2 (.t 8)]) (.keep [2] .ret)))
def Ko:AF where
 nargs:=1
 ntmps:=13
 res:=[.tmp 2]
 body:=(.seq (.reg [.mv 2 (.c (B false))]) (.seq (.reg [.mv 3 (.t 0),.bin 4 .geq (.t 3) (.c (U8 65)),.mv 5 (.t 4),.gd 5 true (some 6) (.mv 6 (.t 0)),.gd 5 true (some 7) (.bin 7 .leq (.t 6) (.c (U8 90))),.pick 8 (.t 5) (.t 7) (.c (B false)),.mv 9 (.t 8),.gd 9 false (some 10) (.mv 10 (.t 0)),.gd 9 false (some 11) (.bin 11 .eql (.t 10) (.c (U8 95))),.pick 12 (.t 9) (.c (B true)) (.t 11),.mv 2 (.t 12)]) (.keep [2] .ret)))
def qbm:AC:=(.seq (.seq (.reg [.mv 5 (.t 1),.mv 6 (.t 0),.slen 7 (.t 6),.bin 8 .lss (.t 5) (.t 7),.mv 9 (.t 8),.gd 9 true (some 10) (.mv 10 (.t 0)),.gd 9 true (some 11) (.mv 11 (.t 1)),.gd 9 true (some 12) (.ix 12 (.t 10) (.t 11)),.gd 9 true (some 13) (.call (some 13) (.c (Fc qgo)) [(.t 12)] (.ro true)),.pick 14 (.t 9) (.t 13) (.c (B false))]) (.keep [0,1,14] (.cond (.t 14) .skip (.keep [1] (.exit 0))))) (.keep [0,1] (.block 1 (.reg [.mv 15 (.t 1),.bin 16 .add (.t 15) (.c (I 1)),.mv 1 (.t 16)]))))
def qa1:Lp:=⟨[0,1],[(2,0)],qbm⟩
@[go_sem] theorem qH1:qa1.ls=[0,1]:=rfl
@[go_sem] theorem qH0:qa1.ks=[(2,0)]:=rfl
@[go_sem] theorem qHZ:qa1.body=qbm:=rfl
def Kp:AF where
 nargs:=2
 ntmps:=18
 res:=[.tmp 4]
 body:=(.seq (.reg [.mv 4 (.c (I 0))]) (.seq (.block 0 (lpC qa1)) (.keep [1] (.seq (.reg [.mv 17 (.t 1),.mv 4 (.t 17)]) (.keep [4] .ret)))))
def ZK:AF where
 nargs:=1
 ntmps:=9
 res:=[.tmp 2]
 body:=(.seq (.reg [.mv 2 (.c (B false))]) (.seq (.reg [.mv 3 (.t 0),.bin 4 .geq (.t 3) (.c (U8 48)),.mv 5 (.t 4),.gd 5 true (some 6) (.mv 6 (.t 0)),.gd 5 true (some 7) (.bin 7 .leq (.t 6) (.c (U8 57))),.pick 8 (.t 5) (.t 7) (.c (B false)),.mv 2 (.t 8)]) (.keep [2] .ret)))
def Y7:AC:=(.seq (.seq (.reg [.mv 8 (.t 5),.mv 9 (.t 0),.slen 10 (.t 9),.bin 11 .lss (.t 8) (.t 10)]) (.keep [0,1,5,11] (.cond (.t 11) .skip (.keep [] (.exit 0))))) (.keep [0,1,5] (.seq (.block 1 (.seq (.reg [.mv 14 (.t 0),.mv 15 (.t 5),.ix 16 (.t 14) (.t 15),.bin 17 .eql (.t 16) (.c (U8 39))]) (.keep [0,1,5,17] (.cond (.t 17) (.seq (.seq (.reg [.mv 18 (.t 0),.mv 19 (.t 1),.bin 20 .add (.t 19) (.c (I 1)),.mv 21 (.t 5),.ssl 22 (.t 18) (some (.t 20)) (some (.t 21)),.call (some 23) (.c (Fc qaB)) [(.t 22)] (.ro true)]) (.keep [5,23] (.cond (.t 23) (.seq (.reg [.mv 24 (.t 5),.bin 25 .add (.t 24) (.c (I 1)),.mv 4 (.t 25)]) (.keep [4] .ret)) .skip))) (.keep [] (.seq (.reg [.mv 4 (.c (I 0))]) (.keep [4] .ret)))) .skip)))) (.keep [0,1,5] (.reg [.mv 12 (.t 5),.bin 13 .add (.t 12) (.c (I 1)),.mv 5 (.t 13)])))))
def qa0:Lp:=⟨[0,1,5],[(2,0)],Y7⟩
@[go_sem] theorem qHY:qa0.ls=[0,1,5]:=rfl
@[go_sem] theorem qHX:qa0.ks=[(2,0)]:=rfl
@[go_sem] theorem qHW:qa0.body=Y7:=rfl
def ZL:AF where
 nargs:=2
 ntmps:=26
 res:=[.tmp 4]
 body:=(.seq (.reg [.mv 4 (.c (I 0))]) (.seq (.seq (.reg [.mv 6 (.t 1),.bin 7 .add (.t 6) (.c (I 1)),.mv 5 (.t 7)]) (.block 0 (lpC qa0))) (.keep [] (.seq (.reg [.mv 4 (.c (I 0))]) (.keep [4] .ret)))))
def kL:AF where
 nargs:=2
 ntmps:=42
 res:=[.tmp 4]
 body:=(.seq (.reg [.mv 4 (.c (B false))]) (.seq (.reg [.mv 5 (.t 0),.mv 6 (.t 1),.ix 7 (.t 5) (.t 6),.bin 8 .eql (.t 7) (.c (U8 46)),.mv 9 (.t 8),.gd 9 true (some 10) (.mv 10 (.t 1)),.gd 9 true (some 11) (.bin 11 .eql (.t 10) (.c (I 0))),.gd 9 true (some 12) (.mv 12 (.t 11)),.gd 12 false (some 13) (.mv 13 (.t 0)),.gd 12 false (some 14) (.mv 14 (.t 1)),.gd 12 false (some 15) (.bin 15 .sub (.t 14) (.c (I 1))),.gd 12 false (some 16) (.ix 16 (.t 13) (.t 15)),.gd 12 false (some 17) (.call (some 17) (.c (Fc qaz)) [(.t 16)] (.ro false)),.gd 12 false (some 18) (.un 18 .not (.t 17)),.gd 9 true (some 19) (.pick 19 (.t 12) (.c (B true)) (.t 18)),.pick 20 (.t 9) (.t 19) (.c (B false)),.mv 21 (.t 20),.gd 21 true (some 22) (.mv 22 (.t 1)),.gd 21 true (some 23) (.bin 23 .add (.t 22) (.c (I 1))),.gd 21 true (some 24) (.mv 24 (.t 0)),.gd 21 true (some 25) (.slen 25 (.t 24)),.gd 21 true (some 26) (.bin 26 .eql (.t 23) (.t 25)),.gd 21 true (some 27) (.mv 27 (.t 26)),.gd 27 false (some 28) (.mv 28 (.t 0)),.gd 27 false (some 29) (.mv 29 (.t 1)),.gd 27 false (some 30) (.bin 30 .add (.t 29) (.c (I 1))),.gd 27 false (some 31) (.ix 31 (.t 28) (.t 30)),.gd 27 false (some 32) (.call (some 32) (.c (Fc qdJ)) [(.t 31)] (.ro false)),.gd 21 true (some 33) (.pick 33 (.t 27) (.c (B true)) (.t 32)),.gd 21 true (some 34) (.mv 34 (.t 33)),.gd 34 false (some 35) (.mv 35 (.t 0)),.gd 34 false (some 36) (.mv 36 (.t 1)),.gd 34 false (some 37) (.bin 37 .add (.t 36) (.c (I 1))),.gd 34 false (some 38) (.ix 38 (.t 35) (.t 37)),.gd 34 false (some 39) (.bin 39 .eql (.t 38) (.c (U8 37))),.gd 21 true (some 40) (.pick 40 (.t 34) (.c (B true)) (.t 39)),.pick 41 (.t 21) (.t 40) (.c (B false)),.mv 4 (.t 41)]) (.keep [4] .ret)))
def qbh:AC:=(.seq (.seq (.reg [.mv 5 (.t 4),.mv 6 (.t 3),.slen 7 (.t 6),.bin 8 .lss (.t 5) (.t 7)]) (.keep [0,3,4,8] (.cond (.t 8) .skip (.keep [] (.exit 0))))) (.keep [0,3,4] (.seq (.block 1 (.seq (.reg [.mv 11 (.t 3),.mv 12 (.t 4),.ix 13 (.t 11) (.t 12),.mv 14 (.t 0),.bin 15 .eql (.t 13) (.t 14)]) (.keep [0,3,4,15] (.cond (.t 15) (.seq (.reg [.mv 2 (.c (B true))]) (.keep [2] .ret)) .skip)))) (.keep [0,3,4] (.reg [.mv 9 (.t 4),.bin 10 .add (.t 9) (.c (I 1)),.mv 4 (.t 10)])))))
def KR:Lp:=⟨[0,3,4],[(1,0)],qbh⟩
@[go_sem] theorem qHu:KR.ls=[0,3,4]:=rfl
@[go_sem] theorem qHt:KR.ks=[(1,0)]:=rfl
@[go_sem] theorem qHs:KR.body=qbh:=rfl
def YL:AF where
 nargs:=1
 ntmps:=16
 res:=[.tmp 2]
 body:=(.seq (.reg [.mv 2 (.c (B false))]) (.seq (.reg [.mv 3 (.c (S [43,45,42,47,92,94,60,62,61,126,58,46,63,64,35,38,36]))]) (.seq (.seq (.reg [.mv 4 (.c (I 0))]) (.block 0 (lpC KR))) (.keep [] (.seq (.reg [.mv 2 (.c (B false))]) (.keep [2] .ret))))))
def jG:AF where
 nargs:=2
 ntmps:=77
 res:=[.cell 4 true 4,.tmp 5]
 body:=(.seq (.reg [.new 4 (.c (.a [(I 0),(S []),(I 0),(.n 4)])),.mv 5 (.c (I 0))]) (.seq (.block 0 (.seq (.reg [.mv 7 (.t 0),.call (some 8) (.c (Fc Qo)) [(.t 7),(.c (I 1)),(.c (S []))] (.ro true),.mv 6 (.t 8)]) (.cond (.t 6) (.seq (.reg [.mv 9 (.t 0),.mv 10 (.t 1),.call (some 11) (.c (Fc Zf)) [(.t 9),(.t 10)] (.io false),.ext 12 (.t 11) 0,.ext 13 (.t 11) 1,.st 4 (.t 4) (.t 12),.mv 5 (.t 13)]) (.keep [0,4,5] .ret)) (.seq (.reg [.mv 15 (.t 0),.call (some 16) (.c (Fc Qp)) [(.t 15),(.c (S [40]))] (.io true),.mv 14 (.t 16)]) (.cond (.t 14) (.seq (.reg [.mv 17 (.t 0),.call (some 18) (.c (Fc Y5)) [(.t 17)] (.io false),.st 4 (.t 4) (.t 18),.mv 5 (.c (I 0))]) (.keep [0,4,5] .ret)) (.seq (.reg [.mv 20 (.t 0),.call (some 21) (.c (Fc Qp)) [(.t 20),(.c (S [91]))] (.io true),.mv 19 (.t 21)]) (.cond (.t 19) (.seq (.reg [.mv 22 (.t 0),.call (some 23) (.c (Fc qaH)) [(.t 22)] (.io false),.st 4 (.t 4) (.t 23),.mv 5 (.c (I 0))]) (.keep [0,4,5] .ret)) (.seq (.reg [.mv 25 (.t 0),.call (some 26) (.c (Fc Qo)) [(.t 25),(.c (I 3)),(.c (S []))] (.ro true),.mv 24 (.t 26)]) (.cond (.t 24) (.seq (.reg [.mv 27 (.t 0),.mv 28 (.t 0),.nilc 29 (.t 28),.fa 30 (.t 29) 1,.ld 31 false 1 (.t 30),.bin 32 .add (.t 31) (.c (I 1)),.nilc 33 (.t 27),.fa 34 (.t 33) 1,.st 1 (.t 34) (.t 32)]) (.keep [0,4] (.seq (.dreg [⟨0,[]⟩,⟨0,[]⟩,⟨0,[]⟩,⟨0,[(0,0),(0,1),(0,2),(0,3),(31,0),(55,0)]⟩,⟨0,[]⟩,⟨0,[]⟩,⟨0,[]⟩,⟨0,[(0,0),(0,1),(0,2),(0,3),(31,0),(55,0)]⟩,⟨0,[]⟩,⟨0,[(0,0),(0,1),(0,2),(0,3),(31,0),(38,0),(42,0),(55,0)]⟩,⟨0,[]⟩,⟨0,[(0,0),(0,1),(0,2),(0,3),(31,0),(38,0),(42,0),(55,0)]⟩,⟨2,[(0,0),(0,1),(0,2),(0,3),(31,0),(38,0),(42,0),(46,0),(55,0)]⟩,⟨1,[(4,0)]⟩,⟨0,[]⟩] [.mv 35 (.t 0),.nilc 36 (.t 35),.fa 37 (.t 36) 0,.ldq 38 false 1 (.t 37),.mv 39 (.t 0),.nilc 40 (.t 39),.fa 41 (.t 40) 1,.ldq 42 false 1 (.t 41),.bin 43 .sub (.t 42) (.c (I 1)),.ia 44 5 (.t 38) (.t 43),.fa 45 (.t 44) 2,.ldq 46 false 1 (.t 45),.call (some 47) (.c (Fc qaC)) [(.t 46)] (.ro false),.st 4 (.t 4) (.t 47),.mv 5 (.c (I 0))]) (.keep [0,4,5] .ret)))) (.seq (.reg [.mv 49 (.t 0),.call (some 50) (.c (Fc Qo)) [(.t 49),(.c (I 2)),(.c (S []))] (.ro true),.mv 48 (.t 50)]) (.cond (.t 48) (.seq (.reg [.mv 51 (.t 0),.mv 52 (.t 0),.nilc 53 (.t 52),.fa 54 (.t 53) 1,.ld 55 false 1 (.t 54),.bin 56 .add (.t 55) (.c (I 1)),.nilc 57 (.t 51),.fa 58 (.t 57) 1,.st 1 (.t 58) (.t 56)]) (.keep [0,4] (.seq (.dreg [⟨0,[]⟩,⟨0,[]⟩,⟨0,[]⟩,⟨0,[]⟩,⟨0,[(0,0),(0,1),(0,2),(0,3),(31,0),(55,0)]⟩,⟨0,[]⟩,⟨0,[]⟩,⟨0,[]⟩,⟨0,[(0,0),(0,1),(0,2),(0,3),(31,0),(55,0)]⟩,⟨0,[]⟩,⟨0,[(0,0),(0,1),(0,2),(0,3),(31,0),(55,0),(63,0),(67,0)]⟩,⟨0,[]⟩,⟨0,[(0,0),(0,1),(0,2),(0,3),(31,0),(55,0),(63,0),(67,0)]⟩,⟨1,[(0,0),(0,1),(0,2),(0,3),(31,0),(55,0),(63,0),(67,0),(71,0)]⟩,⟨1,[(4,0)]⟩,⟨0,[]⟩] [.mv 59 (.t 0),.mv 60 (.t 0),.nilc 61 (.t 60),.fa 62 (.t 61) 0,.ldq 63 false 1 (.t 62),.mv 64 (.t 0),.nilc 65 (.t 64),.fa 66 (.t 65) 1,.ldq 67 false 1 (.t 66),.bin 68 .sub (.t 67) (.c (I 1)),.ia 69 5 (.t 63) (.t 68),.fa 70 (.t 69) 1,.ldq 71 false 1 (.t 70),.call (some 72) (.c (Fc qgr)) [(.t 59),(.t 71)] (.io false),.st 4 (.t 4) (.t 72),.mv 5 (.c (I 0))]) (.keep [0,4,5] .ret)))) .skip))))))))))) (.keep [0,4] (.seq (.reg [.mv 73 (.t 0),.nilc 74 (.t 73),.fa 75 (.t 74) 2,.st 1 (.t 75) (.c (B true))]) (.keep [0,4] (.seq (.reg [.build 76 (.a [(I 0),(S []),(I 0),(.n 4)]) [],.st 4 (.t 4) (.t 76),.mv 5 (.c (I 0))]) (.keep [0,4,5] .ret)))))))
def Q5:AF where
 nargs:=1
 ntmps:=40
 res:=[.cell 2 true 4,.tmp 3]
 body:=(.seq (.reg [.new 2 (.c (.a [(S []),(I 0),(I 0),(I 0)])),.mv 3 (.c (B false))]) (.seq (.seq (.reg [.mv 4 (.t 0),.call (some 5) (.c (Fc Qo)) [(.t 4),(.c (I 4)),(.c (S [44]))] (.ro true)]) (.cond (.t 5) (.seq (.reg [.call (some 6) (.c (Fc Zc)) [(.c (S [44]))] (.ro false),.ext 7 (.t 6) 0,.ext 8 (.t 6) 1,.st 4 (.t 2) (.t 7),.mv 3 (.t 8)]) (.keep [2,3] .ret)) .skip)) (.keep [0,2] (.seq (.seq (.dreg [⟨0,[]⟩,⟨2,[(0,0),(0,1),(0,2),(0,3)]⟩,⟨0,[]⟩,⟨0,[]⟩,⟨0,[]⟩,⟨0,[]⟩,⟨0,[(0,0),(0,1),(0,2),(0,3)]⟩,⟨0,[]⟩,⟨0,[]⟩,⟨0,[]⟩,⟨0,[(0,0),(0,1),(0,2),(0,3)]⟩,⟨0,[(0,0),(0,1),(0,2),(0,3),(15,0),(19,0)]⟩,⟨0,[]⟩,⟨0,[(0,0),(0,1),(0,2),(0,3),(15,0),(19,0)]⟩,⟨0,[]⟩,⟨0,[]⟩] [.mv 9 (.t 0),.call (some 10) (.c (Fc Qo)) [(.t 9),(.c (I 1)),(.c (S []))] (.ro true),.mv 11 (.t 10),.gd 11 true (some 12) (.mv 12 (.t 0)),.gd 11 true (some 13) (.nilc 13 (.t 12)),.gd 11 true (some 14) (.fa 14 (.t 13) 0),.gd 11 true (some 15) (.ldq 15 false 1 (.t 14)),.gd 11 true (some 16) (.mv 16 (.t 0)),.gd 11 true (some 17) (.nilc 17 (.t 16)),.gd 11 true (some 18) (.fa 18 (.t 17) 1),.gd 11 true (some 19) (.ldq 19 false 1 (.t 18)),.gd 11 true (some 20) (.ia 20 5 (.t 15) (.t 19)),.gd 11 true (some 21) (.fa 21 (.t 20) 4),.gd 11 true (some 22) (.ldq 22 false 1 (.t 21)),.gd 11 true (some 23) (.un 23 .not (.t 22)),.pick 24 (.t 11) (.t 23) (.c (B false))]) (.keep [0,2,24] (.cond (.t 24) (.seq (.dreg [⟨0,[]⟩,⟨0,[]⟩,⟨0,[]⟩,⟨0,[(0,0),(0,1),(0,2),(0,3)]⟩,⟨0,[]⟩,⟨0,[]⟩,⟨0,[]⟩,⟨0,[(0,0),(0,1),(0,2),(0,3)]⟩,⟨0,[(0,0),(0,1),(0,2),(0,3),(28,0),(32,0)]⟩,⟨0,[]⟩,⟨0,[(0,0),(0,1),(0,2),(0,3),(28,0),(32,0)]⟩,⟨2,[(0,0),(0,1),(0,2),(0,3),(28,0),(32,0),(35,0)]⟩,⟨0,[]⟩,⟨0,[]⟩,⟨1,[(2,0)]⟩,⟨0,[]⟩] [.mv 25 (.t 0),.nilc 26 (.t 25),.fa 27 (.t 26) 0,.ldq 28 false 1 (.t 27),.mv 29 (.t 0),.nilc 30 (.t 29),.fa 31 (.t 30) 1,.ldq 32 false 1 (.t 31),.ia 33 5 (.t 28) (.t 32),.fa 34 (.t 33) 1,.ldq 35 false 1 (.t 34),.call (some 36) (.c (Fc Zc)) [(.t 35)] (.ro false),.ext 37 (.t 36) 0,.ext 38 (.t 36) 1,.st 4 (.t 2) (.t 37),.mv 3 (.t 38)]) (.keep [2,3] .ret)) .skip))) (.keep [2] (.seq (.reg [.build 39 (.a [(S []),(I 0),(I 0),(I 0)]) [],.st 4 (.t 2) (.t 39),.mv 3 (.c (B false))]) (.keep [2,3] .ret)))))))
def YV:AF where
 nargs:=2
 ntmps:=21
 res:=[.cell 4 true 2,.tmp 5]
 body:=(.seq (.reg [.new 2 (.t 0),.new 3 (.t 1),.new 4 (.c (.a [(.n 9),(.n 1)])),.mv 5 (.c (B false))]) (.keep [2,3,4] (.seq (.reg [.ld 7 true 2 (.t 2),.call (some 8) (.c (Fc KL)) [(.t 7)] (.ro false),.new 6 (.c (.a [(.n 9),(.n 1)])),.st 2 (.t 6) (.t 8)]) (.keep [2,3,4,6] (.seq (.reg [.fa 9 (.t 6) 0,.ld 10 false 1 (.t 9),.ld 11 true 9 (.t 3),.mks 12 9 [(.t 11)],.app 13 9 128 (.t 10) (.t 12),.fa 14 (.t 6) 0,.st 1 (.t 14) (.t 13)]) (.keep [2,4,6] (.seq (.seq (.reg [.ld 15 true 2 (.t 6),.call (some 16) (.c (Fc qf4)) [(.t 15)] (.ro true),.un 17 .not (.t 16)]) (.cond (.t 17) (.seq (.reg [.ld 18 true 2 (.t 2),.call (some 19) (.c (Fc KL)) [(.t 18)] (.ro false),.st 2 (.t 4) (.t 19),.mv 5 (.c (B false))]) (.keep [4,5] .ret)) .skip)) (.keep [4,6] (.seq (.reg [.ld 20 true 2 (.t 6),.st 2 (.t 4) (.t 20),.mv 5 (.c (B true))]) (.keep [4,5] .ret))))))))))
def qgI:AC:=(.seq (.seq (.reg [.mv 9 (.t 6),.fa 10 (.t 2) 1,.ld 11 false 1 (.t 10),.len 12 (.t 11),.bin 13 .lss (.t 9) (.t 12)]) (.keep [1,2,4,5,6,13] (.cond (.t 13) .skip (.keep [1,4,5] (.exit 0))))) (.keep [1,2,4,5,6] (.seq (.block 1 (.seq (.reg [.fa 16 (.t 2) 1,.ld 17 false 1 (.t 16),.mv 18 (.t 6),.ia 19 1 (.t 17) (.t 18),.ld 20 false 1 (.t 19),.mv 21 (.t 1),.bin 22 .eql (.t 20) (.t 21)]) (.keep [1,2,4,5,6,22] (.cond (.t 22) (.seq (.reg [.ld 23 true 2 (.t 5),.st 2 (.t 4) (.t 23)]) (.keep [4] .ret)) .skip)))) (.keep [1,2,4,5,6] (.reg [.mv 14 (.t 6),.bin 15 .add (.t 14) (.c (I 1)),.mv 6 (.t 15)])))))
def qa8:Lp:=⟨[1,2,4,5,6],[(2,0)],qgI⟩
@[go_sem] theorem qIH:qa8.ls=[1,2,4,5,6]:=rfl
@[go_sem] theorem qIG:qa8.ks=[(2,0)]:=rfl
@[go_sem] theorem qIF:qa8.body=qgI:=rfl
def Kw:AF where
 nargs:=2
 ntmps:=35
 res:=[.cell 4 true 2]
 body:=(.seq (.reg [.new 2 (.t 0),.new 4 (.c (.a [(.n 9),(.n 1)]))]) (.seq (.reg [.ld 7 true 2 (.t 2),.call (some 8) (.c (Fc KL)) [(.t 7)] (.ro false),.new 5 (.c (.a [(.n 9),(.n 1)])),.st 2 (.t 5) (.t 8)]) (.keep [1,2,4,5] (.seq (.seq (.reg [.mv 6 (.c (I 0))]) (.block 0 (lpC qa8))) (.keep [1,4,5] (.seq (.seq (.reg [.fa 24 (.t 5) 1,.ld 25 false 1 (.t 24),.len 26 (.t 25),.bin 27 .lss (.t 26) (.c (I 40))]) (.keep [1,4,5,27] (.cond (.t 27) (.reg [.fa 28 (.t 5) 1,.ld 29 false 1 (.t 28),.mv 30 (.t 1),.mks 31 1 [(.t 30)],.app 32 1 16 (.t 29) (.t 31),.fa 33 (.t 5) 1,.st 1 (.t 33) (.t 32)]) .skip))) (.keep [4,5] (.seq (.reg [.ld 34 true 2 (.t 5),.st 2 (.t 4) (.t 34)]) (.keep [4] .ret)))))))))
def zF:AF where
 nargs:=1
 ntmps:=32
 res:=[.tmp 2]
 body:=(.seq (.reg [.mv 2 (.c (B false))]) (.seq (.seq (.reg [.mv 3 (.t 0)]) (.block 0 (.seq (.seq (.reg [.bin 5 .eql (.t 3) (.c (S [116,114,117,101,47,48])),.mv 4 (.t 5)]) (.cond (.t 4) .skip (.seq (.reg [.bin 6 .eql (.t 3) (.c (S [102,97,105,108,47,48])),.mv 4 (.t 6)]) (.cond (.t 4) .skip (.seq (.reg [.bin 7 .eql (.t 3) (.c (S [33,47,48])),.mv 4 (.t 7)]) (.cond (.t 4) .skip (.seq (.reg [.bin 8 .eql (.t 3) (.c (S [44,47,50])),.mv 4 (.t 8)]) (.cond (.t 4) .skip (.seq (.reg [.bin 9 .eql (.t 3) (.c (S [59,47,50])),.mv 4 (.t 9)]) (.cond (.t 4) .skip (.seq (.reg [.bin 10 .eql (.t 3) (.c (S [45,62,47,50])),.mv 4 (.t 10)]) (.cond (.t 4) .skip (.seq (.reg [.bin 11 .eql (.t 3) (.c (S [92,43,47,49])),.mv 4 (.t 11)]) (.cond (.t 4) .skip (.seq (.reg [.bin 12 .eql (.t 3) (.c (S [99,97,108,108,47,49])),.mv 4 (.t 12)]) (.cond (.t 4) .skip (.seq (.reg [.bin 13 .eql (.t 3) (.c (S [99,97,108,108,47,50])),.mv 4 (.t 13)]) (.cond (.t 4) .skip (.seq (.reg [.bin 14 .eql (.t 3) (.c (S [99,97,108,108,47,51])),.mv 4 (.t 14)]) (.cond (.t 4) .skip (.seq (.reg [.bin 15 .eql (.t 3) (.c (S [99,97,116,99,104,47,51])),.mv 4 (.t 15)]) (.cond (.t 4) .skip (.reg [.bin 16 .eql (.t 3) (.c (S [116,104,114,111,119,47,49])),.mv 4 (.t 16)]))))))))))))))))))))))) (.keep [3,4] (.cond (.t 4) (.seq (.reg [.mv 2 (.c (B true))]) (.keep [2] .ret)) (.seq (.seq (.reg [.bin 18 .eql (.t 3) (.c (S [61,47,50])),.mv 17 (.t 18)]) (.cond (.t 17) .skip (.seq (.reg [.bin 19 .eql (.t 3) (.c (S [92,61,47,50])),.mv 17 (.t 19)]) (.cond (.t 17) .skip (.seq (.reg [.bin 20 .eql (.t 3) (.c (S [61,61,47,50])),.mv 17 (.t 20)]) (.cond (.t 17) .skip (.seq (.reg [.bin 21 .eql (.t 3) (.c (S [105,115,47,50])),.mv 17 (.t 21)]) (.cond (.t 17) .skip (.seq (.reg [.bin 22 .eql (.t 3) (.c (S [60,47,50])),.mv 17 (.t 22)]) (.cond (.t 17) .skip (.seq (.reg [.bin 23 .eql (.t 3) (.c (S [61,58,61,47,50])),.mv 17 (.t 23)]) (.cond (.t 17) .skip (.seq (.reg [.bin 24 .eql (.t 3) (.c (S [118,97,114,47,49])),.mv 17 (.t 24)]) (.cond (.t 17) .skip (.seq (.reg [.bin 25 .eql (.t 3) (.c (S [97,116,111,109,47,49])),.mv 17 (.t 25)]) (.cond (.t 17) .skip (.seq (.reg [.bin 26 .eql (.t 3) (.c (S [119,114,105,116,101,47,49])),.mv 17 (.t 26)]) (.cond (.t 17) .skip (.seq (.reg [.bin 27 .eql (.t 3) (.c (S [97,115,115,101,114,116,122,47,49])),.mv 17 (.t 27)]) (.cond (.t 17) .skip (.seq (.reg [.bin 28 .eql (.t 3) (.c (S [114,101,116,114,97,99,116,47,49])),.mv 17 (.t 28)]) (.cond (.t 17) .skip (.seq (.reg [.bin 29 .eql (.t 3) (.c (S [58,45,47,50])),.mv 17 (.t 29)]) (.cond (.t 17) .skip (.seq (.reg [.bin 30 .eql (.t 3) (.c (S [58,45,47,49])),.mv 17 (.t 30)]) (.cond (.t 17) .skip (.reg [.bin 31 .eql (.t 3) (.c (S [45,45,62,47,50])),.mv 17 (.t 31)]))))))))))))))))))))))))))) (.keep [17] (.cond (.t 17) (.seq (.reg [.mv 2 (.c (B true))]) (.keep [2] .ret)) .skip)))))))) (.keep [] (.seq (.reg [.mv 2 (.c (B false))]) (.keep [2] .ret)))))
def qjS:AC:=(.seq (.seq (.reg [.mv 6 (.t 5),.mv 7 (.t 0),.len 8 (.t 7),.bin 9 .lss (.t 6) (.t 8)]) (.keep [0,1,5,9] (.cond (.t 9) .skip (.keep [] (.exit 0))))) (.keep [0,1,5] (.seq (.block 1 (.seq (.reg [.mv 12 (.t 0),.mv 13 (.t 5),.ia 14 1 (.t 12) (.t 13),.ld 15 false 1 (.t 14),.mv 16 (.t 1),.bin 17 .eql (.t 15) (.t 16)]) (.keep [0,1,5,17] (.cond (.t 17) (.seq (.reg [.mv 4 (.c (B true))]) (.keep [4] .ret)) .skip)))) (.keep [0,1,5] (.reg [.mv 10 (.t 5),.bin 11 .add (.t 10) (.c (I 1)),.mv 5 (.t 11)])))))
def qd9:Lp:=⟨[0,1,5],[(2,0)],qjS⟩
@[go_sem] theorem qHJ:qd9.ls=[0,1,5]:=rfl
@[go_sem] theorem qHI:qd9.ks=[(2,0)]:=rfl
@[go_sem] theorem qHH:qd9.body=qjS:=rfl
def qdc:AF where
 nargs:=2
 ntmps:=18
 res:=[.tmp 4]
 body:=(.seq (.reg [.mv 4 (.c (B false))]) (.seq (.seq (.reg [.mv 5 (.c (I 0))]) (.block 0 (lpC qd9))) (.keep [] (.seq (.reg [.mv 4 (.c (B false))]) (.keep [4] .ret)))))
def Kb:AF where
 nargs:=1
 ntmps:=12
 res:=[.tmp 2]
 body:=(.seq (.reg [.mv 2 (.c (U8 0))]) (.seq (.seq (.reg [.mv 3 (.t 0),.bin 4 .lss (.t 3) (.c (I 10))]) (.cond (.t 4) (.seq (.reg [.mv 5 (.t 0),.bin 6 .add (.c (I 48)) (.t 5),.int 7 .u8 (.t 6),.mv 2 (.t 7)]) (.keep [2] .ret)) .skip)) (.keep [0] (.seq (.reg [.mv 8 (.t 0),.bin 9 .add (.c (I 97)) (.t 8),.bin 10 .sub (.t 9) (.c (I 10)),.int 11 .u8 (.t 10),.mv 2 (.t 11)]) (.keep [2] .ret)))))
def Q0:AF where
 nargs:=1
 ntmps:=18
 res:=[.cell 2 true 4,.tmp 3]
 body:=(.seq (.reg [.new 2 (.c (.a [(S []),(I 0),(I 0),(I 0)])),.mv 3 (.c (B false))]) (.seq (.seq (.reg [.mv 4 (.t 0)]) (.block 0 (.seq (.reg [.bin 6 .eql (.t 4) (.c (S [58,45])),.mv 5 (.t 6)]) (.cond (.t 5) (.seq (.reg [.mv 7 (.t 0),.build 8 (.a [(S []),(I 0),(I 0),(I 0)]) [(0,1,(.t 7)),(1,1,(.c (I 1200))),(3,1,(.c (I 1199)))],.st 4 (.t 2) (.t 8),.mv 3 (.c (B true))]) (.keep [2,3] .ret)) (.seq (.reg [.bin 10 .eql (.t 4) (.c (S [92,43])),.mv 9 (.t 10)]) (.cond (.t 9) (.seq (.reg [.mv 11 (.t 0),.build 12 (.a [(S []),(I 0),(I 0),(I 0)]) [(0,1,(.t 11)),(1,1,(.c (I 900))),(3,1,(.c (I 900)))],.st 4 (.t 2) (.t 12),.mv 3 (.c (B true))]) (.keep [2,3] .ret)) (.seq (.reg [.bin 14 .eql (.t 4) (.c (S [45])),.mv 13 (.t 14)]) (.cond (.t 13) (.seq (.reg [.mv 15 (.t 0),.build 16 (.a [(S []),(I 0),(I 0),(I 0)]) [(0,1,(.t 15)),(1,1,(.c (I 200))),(3,1,(.c (I 200)))],.st 4 (.t 2) (.t 16),.mv 3 (.c (B true))]) (.keep [2,3] .ret)) .skip)))))))) (.keep [2] (.seq (.reg [.build 17 (.a [(S []),(I 0),(I 0),(I 0)]) [],.st 4 (.t 2) (.t 17),.mv 3 (.c (B false))]) (.keep [2,3] .ret)))))
def qcM:AF where
 nargs:=1
 ntmps:=22
 res:=[.tmp 2]
 body:=(.seq (.reg [.new 1 (.t 0),.mv 2 (.c (S []))]) (.seq (.dreg [⟨0,[]⟩,⟨0,[(1,0)]⟩,⟨0,[(0,0),(0,1),(0,2),(0,3),(4,0)]⟩,⟨0,[(0,0),(0,1),(0,2),(0,3),(1,0),(4,0)]⟩,⟨2,[(0,0),(0,1),(0,2),(0,3),(4,0),(6,0)]⟩,⟨0,[]⟩,⟨0,[]⟩,⟨0,[]⟩,⟨0,[(1,0)]⟩,⟨2,[(0,0),(0,1),(0,2),(0,3),(11,0)]⟩,⟨0,[]⟩,⟨0,[]⟩,⟨0,[]⟩,⟨0,[(1,0)]⟩,⟨0,[(0,0),(0,1),(0,2),(0,3),(16,0)]⟩,⟨0,[(0,0),(0,1),(0,2),(0,3),(1,0),(16,0)]⟩,⟨2,[(0,0),(0,1),(0,2),(0,3),(16,0),(18,0)]⟩,⟨0,[]⟩,⟨0,[]⟩,⟨0,[]⟩] [.fa 3 (.t 1) 3,.ldq 4 false 1 (.t 3),.ia 5 4 (.t 4) (.c (I 0)),.ldq 6 true 4 (.t 5),.call (some 7) (.c (Fc qdA)) [(.t 6)] (.ro false),.bin 8 .add (.c (S [40])) (.t 7),.bin 9 .add (.t 8) (.c (S [32])),.fa 10 (.t 1) 1,.ldq 11 false 1 (.t 10),.call (some 12) (.c (Fc qdx)) [(.t 11)] (.ro false),.bin 13 .add (.t 9) (.t 12),.bin 14 .add (.t 13) (.c (S [32])),.fa 15 (.t 1) 3,.ldq 16 false 1 (.t 15),.ia 17 4 (.t 16) (.c (I 1)),.ldq 18 true 4 (.t 17),.call (some 19) (.c (Fc qdA)) [(.t 18)] (.ro false),.bin 20 .add (.t 14) (.t 19),.bin 21 .add (.t 20) (.c (S [41])),.mv 2 (.t 21)]) (.keep [2] .ret)))
def qjB:AC:=(.seq (.reg [.bin 26 .lss (.t 25) (.t 24)]) (.seq (.cond (.t 26) .skip (.keep [0] (.exit 0))) (.keep [0,23,24,25] (.seq (.block 1 (.seq (.reg [.ia 27 4 (.t 23) (.t 25),.ld 28 true 4 (.t 27),.new 6 (.c (.a [(I 0),(S []),(I 0),(.n 4)])),.st 4 (.t 6) (.t 28)]) (.keep [0,6,23,24,25] (.reg [.mv 29 (.t 0),.ld 30 true 4 (.t 6),.call (some 31) (.c (Fc qjp)) [(.t 29),(.t 30)] (.io false),.mv 0 (.t 31)])))) (.keep [0,23,24,25] (.reg [.bin 32 .add (.t 25) (.c (I 1)),.mv 25 (.t 32)]))))))
def qdU:Lp:=⟨[0,23,24,25],[(0,0)],qjB⟩
@[go_sem] theorem qF5:qdU.ls=[0,23,24,25]:=rfl
@[go_sem] theorem qF4:qdU.ks=[(0,0)]:=rfl
@[go_sem] theorem qF3:qdU.body=qjB:=rfl
def qcw:AF where
 nargs:=2
 ntmps:=34
 res:=[.tmp 4]
 body:=(.seq (.reg [.new 3 (.t 1),.mv 4 (.c (.n 1))]) (.seq (.seq (.reg [.fa 7 (.t 3) 0,.ld 8 false 1 (.t 7),.bin 9 .eql (.t 8) (.c (I 1)),.mv 10 (.t 9),.gd 10 true (some 11) (.mv 11 (.t 0)),.gd 10 true (some 12) (.fa 12 (.t 3) 2),.gd 10 true (some 13) (.ld 13 false 1 (.t 12)),.gd 10 true (some 14) (.call (some 14) (.c (Fc qpF)) [(.t 11),(.t 13)] (.ro true)),.gd 10 true (some 15) (.un 15 .not (.t 14)),.pick 16 (.t 10) (.t 15) (.c (B false))]) (.keep [0,3,16] (.cond (.t 16) (.reg [.mv 17 (.t 0),.fa 18 (.t 3) 2,.ld 19 false 1 (.t 18),.mks 20 1 [(.t 19)],.app 21 1 8 (.t 17) (.t 20),.mv 0 (.t 21)]) .skip))) (.keep [0,3] (.seq (.seq (.reg [.fa 22 (.t 3) 3,.ld 23 false 1 (.t 22),.len 24 (.t 23),.mv 25 (.c (I 0))]) (.keep [0,23,24,25] (.block 0 (lpC qdU)))) (.keep [0] (.seq (.reg [.mv 33 (.t 0),.mv 4 (.t 33)]) (.keep [4] .ret)))))))
def qc6:AF where
 nargs:=2
 ntmps:=9
 res:=[.tmp 4]
 body:=(.seq (.reg [.mv 4 (.c (B false))]) (.seq (.reg [.mv 5 (.t 0),.mv 6 (.t 1),.call (some 7) (.c (Fc qjs)) [(.t 5),(.t 6)] (.ro false),.bin 8 .geq (.t 7) (.c (I 0)),.mv 4 (.t 8)]) (.keep [4] .ret)))
def qjV:AC:=(.seq (.seq (.reg [.mv 7 (.t 5),.mv 8 (.t 0),.call (some 9) (.c (Fc xF)) [(.t 8),(.c (I 6))] (.io true),.bin 10 .lss (.t 7) (.t 9)]) (.keep [0,3,4,5,10] (.cond (.t 10) .skip (.keep [0,3] (.exit 0))))) (.keep [0,3,4,5] (.seq (.block 1 (.seq (.reg [.mv 13 (.t 0),.call (some 14) (.c (Fc xF)) [(.t 13),(.c (I 12))] (.io true)]) (.block 2 (.seq (.reg [.bin 22 .eql (.t 14) (.c (I 0)),.mv 21 (.t 22)]) (.cond (.t 21) (.reg [.mv 23 (.t 3),.bin 24 .add (.t 23) (.c (S [58,45,32,105,110,99,108,117,100,101,40,116,119,111,41,46,10])),.mv 3 (.t 24)]) (.seq (.reg [.bin 26 .eql (.t 14) (.c (I 1)),.mv 25 (.t 26)]) (.cond (.t 25) (.reg [.mv 27 (.t 3),.bin 28 .add (.t 27) (.c (S [58,45,32,105,102,40,112,40,97,41,41,46,10])),.mv 29 (.t 0),.mv 30 (.t 4),.call (some 31) (.c (Fc jK)) [(.t 29),(.t 30)] (.io false),.bin 32 .add (.t 28) (.t 31),.bin 33 .add (.t 32) (.c (S [46,10,58,45,32,101,108,115,101,46,10,122,40,49,41,46,10,58,45,32,101,110,100,105,102,46,10])),.mv 3 (.t 33)]) (.seq (.reg [.bin 35 .eql (.t 14) (.c (I 2)),.mv 34 (.t 35)]) (.cond (.t 34) (.reg [.mv 36 (.t 3),.bin 37 .add (.t 36) (.c (S [58,45,32,111,112,101,110,40,47,40,111,44,32,49,41,41,46,10])),.mv 3 (.t 37)]) (.seq (.reg [.bin 39 .eql (.t 14) (.c (I 3)),.mv 38 (.t 39)]) (.cond (.t 38) (.reg [.mv 40 (.t 3),.bin 41 .add (.t 40) (.c (S [115,32,45,45,62,32,91,97,93,44,32,115,46,10,115,32,45,45,62,32,91,93,46,10])),.mv 3 (.t 41)]) (.seq (.reg [.bin 43 .eql (.t 14) (.c (I 4)),.mv 42 (.t 43)]) (.cond (.t 42) (.reg [.mv 44 (.t 3),.bin 45 .add (.t 44) (.c (S [101,120,112,97,110,100,40,111,108,100,40,88,41,44,32,112,40,88,41,41,46,10,111,108,100,40,107,41,46,10])),.mv 3 (.t 45)]) (.seq (.reg [.bin 47 .eql (.t 14) (.c (I 5)),.mv 46 (.t 47)]) (.cond (.t 46) (.reg [.mv 48 (.t 3),.bin 49 .add (.t 48) (.c (S [58,45,32,119,114,105,116,101,40,120,41,46,10,58,45,32,102,97,105,108,46,10])),.mv 3 (.t 49)]) (.seq (.reg [.bin 51 .eql (.t 14) (.c (I 6)),.mv 50 (.t 51)]) (.cond (.t 50) (.reg [.mv 52 (.t 3),.mv 53 (.t 0),.mks 54 1 [(.c (S [97,32,98,46,10])),(.c (S [58,45,32,101,108,115,101,46,10])),(.c (S [58,45,32,105,102,40,116,114,117,101,41,46,10])),(.c (S [58,45,32,101,110,100,105,102,46,10])),(.c (S [88,46,10])),(.c (S [116,114,117,101,46,10])),(.c (S [58,45,32,97,115,115,101,114,116,122,40,112,40,110,41,41,46,10])),(.c (S [58,45,32,105,110,99,108,117,100,101,40,110,111,110,101,41,46,10]))],.call (some 55) (.c (Fc jK)) [(.t 53),(.t 54)] (.io false),.bin 56 .add (.t 52) (.t 55),.mv 3 (.t 56)]) (.reg [.mv 15 (.t 3),.mv 16 (.t 0),.mv 17 (.t 4),.call (some 18) (.c (Fc jK)) [(.t 16),(.t 17)] (.io false),.bin 19 .add (.t 15) (.t 18),.bin 20 .add (.t 19) (.c (S [46,10])),.mv 3 (.t 20)])))))))))))))))))) (.keep [0,3,4,5] (.reg [.mv 11 (.t 5),.bin 12 .add (.t 11) (.c (I 1)),.mv 5 (.t 12)])))))
def qec:Lp:=⟨[0,3,4,5],[(1,0)],qjV⟩
@[go_sem] theorem qIN:qec.ls=[0,3,4,5]:=rfl
@[go_sem] theorem qIM:qec.ks=[(1,0)]:=rfl
@[go_sem] theorem qIL:qec.body=qjV:=rfl
def qdg:AF where
 nargs:=1
 ntmps:=58
 res:=[.tmp 2]
 body:=(.seq (.reg [.mv 2 (.c (S []))]) (.seq (.reg [.mv 3 (.c (S []))]) (.seq (.reg [.call (some 6) (.c (Fc qaI)) [] (.ro false),.mv 4 (.t 6)]) (.seq (.seq (.reg [.mv 5 (.c (I 0))]) (.block 0 (lpC qec))) (.keep [0,3] (.seq (.reg [.mv 57 (.t 3),.mv 2 (.t 57)]) (.keep [0,2] .ret)))))))
def qbd:AC:=(.seq (.seq (.reg [.mv 7 (.t 1),.mv 8 (.t 0),.slen 9 (.t 8),.bin 10 .lss (.t 7) (.t 9),.mv 11 (.t 10),.gd 11 true (some 12) (.mv 12 (.t 2)),.gd 11 true (some 13) (.mv 13 (.t 0)),.gd 11 true (some 14) (.mv 14 (.t 1)),.gd 11 true (some 15) (.ix 15 (.t 13) (.t 14)),.gd 11 true (some 16) (.call (some 16) (.t 12) [(.t 15)] (.ro true)),.pick 17 (.t 11) (.t 16) (.c (B false))]) (.keep [0,1,2,17] (.cond (.t 17) .skip (.keep [1] (.exit 0))))) (.keep [0,1,2] (.block 1 (.reg [.mv 18 (.t 1),.bin 19 .add (.t 18) (.c (I 1)),.mv 1 (.t 19)]))))
def qaO:Lp:=⟨[0,1,2],[(3,0)],qbd⟩
@[go_sem] theorem qGt:qaO.ls=[0,1,2]:=rfl
@[go_sem] theorem qGs:qaO.ks=[(3,0)]:=rfl
@[go_sem] theorem qGr:qaO.body=qbd:=rfl
def XY:AF where
 nargs:=3
 ntmps:=21
 res:=[.tmp 6]
 body:=(.seq (.reg [.mv 6 (.c (I 0))]) (.seq (.block 0 (lpC qaO)) (.keep [1] (.seq (.reg [.mv 20 (.t 1),.mv 6 (.t 20)]) (.keep [6] .ret)))))
def ZE:AF where
 nargs:=1
 ntmps:=9
 res:=[.tmp 2]
 body:=(.seq (.reg [.mv 2 (.c (B false))]) (.seq (.reg [.mv 3 (.t 0),.bin 4 .geq (.t 3) (.c (U8 97)),.mv 5 (.t 4),.gd 5 true (some 6) (.mv 6 (.t 0)),.gd 5 true (some 7) (.bin 7 .leq (.t 6) (.c (U8 122))),.pick 8 (.t 5) (.t 7) (.c (B false)),.mv 2 (.t 8)]) (.keep [2] .ret)))
def qjL:AC:=(.seq (.seq (.reg [.mv 12 (.t 5),.mv 13 (.t 0),.len 14 (.t 13),.bin 15 .lss (.t 12) (.t 14)]) (.keep [0,1,5,15] (.cond (.t 15) .skip (.keep [1] (.exit 0))))) (.keep [0,1,5] (.seq (.block 1 (.seq (.reg [.mv 18 (.t 0),.mv 19 (.t 5),.ia 20 4 (.t 18) (.t 19),.ld 21 true 4 (.t 20),.mv 22 (.t 1),.call (some 23) (.c (Fc qf1)) [(.t 21),(.t 22)] (.ro false),.mv 1 (.t 23)]) (.keep [0,1,5] (.seq (.reg [.mv 24 (.t 1),.bin 25 .lss (.t 24) (.c (I 0))]) (.cond (.t 25) (.seq (.reg [.mv 4 (.c (I (-1)))]) (.keep [4] .ret)) .skip))))) (.keep [0,1,5] (.reg [.mv 16 (.t 5),.bin 17 .add (.t 16) (.c (I 1)),.mv 5 (.t 17)])))))
def qd2:Lp:=⟨[0,1,5],[(2,0)],qjL⟩
@[go_sem] theorem qGU:qd2.ls=[0,1,5]:=rfl
@[go_sem] theorem qGT:qd2.ks=[(2,0)]:=rfl
@[go_sem] theorem qGS:qd2.body=qjL:=rfl
def qcY:AF where
 nargs:=2
 ntmps:=27
 res:=[.tmp 4]
 body:=(.seq (.reg [.mv 4 (.c (I 0))]) (.seq (.reg [.mv 6 (.t 1),.mv 7 (.t 0),.len 8 (.t 7),.bin 9 .sub (.t 6) (.t 8),.mv 1 (.t 9)]) (.keep [0,1] (.seq (.seq (.reg [.mv 10 (.t 1),.bin 11 .lss (.t 10) (.c (I 0))]) (.cond (.t 11) (.seq (.reg [.mv 4 (.c (I (-1)))]) (.keep [4] .ret)) .skip)) (.keep [0,1] (.seq (.seq (.reg [.mv 5 (.c (I 0))]) (.block 0 (lpC qd2))) (.keep [1] (.seq (.reg [.mv 26 (.t 1),.mv 4 (.t 26)]) (.keep [4] .ret)))))))))
def qjO:AC:=(.seq (.seq (.reg [.mv 8 (.t 4),.mv 9 (.t 0),.len 10 (.t 9),.bin 11 .lss (.t 8) (.t 10)]) (.keep [0,3,4,11] (.cond (.t 11) .skip (.keep [3] (.exit 0))))) (.keep [0,3,4] (.seq (.block 1 (.reg [.mv 14 (.t 3),.mv 15 (.t 4),.mv 16 (.t 0),.mv 17 (.t 4),.ia 18 4 (.t 16) (.t 17),.ld 19 true 4 (.t 18),.call (some 20) (.c (Fc qf2)) [(.t 19)] (.ro false),.ia 21 4 (.t 14) (.t 15),.st 4 (.t 21) (.t 20)])) (.keep [0,3,4] (.reg [.mv 12 (.t 4),.bin 13 .add (.t 12) (.c (I 1)),.mv 4 (.t 13)])))))
def qd5:Lp:=⟨[0,3,4],[(1,0)],qjO⟩
@[go_sem] theorem qG3:qd5.ls=[0,3,4]:=rfl
@[go_sem] theorem qG2:qd5.ks=[(1,0)]:=rfl
@[go_sem] theorem qG1:qd5.body=qjO:=rfl
def qc4:AF where
 nargs:=1
 ntmps:=23
 res:=[.tmp 2]
 body:=(.seq (.reg [.mv 2 (.c (.n 4))]) (.seq (.reg [.mv 5 (.t 0),.len 6 (.t 5),.mk 7 4 (.a [(I 0),(S []),(I 0),(.n 4)]) 56 (.t 6) (.t 6),.mv 3 (.t 7)]) (.keep [0,3] (.seq (.seq (.reg [.mv 4 (.c (I 0))]) (.block 0 (lpC qd5))) (.keep [3] (.seq (.reg [.mv 22 (.t 3),.mv 2 (.t 22)]) (.keep [2] .ret)))))))
def qjI:AC:=(.seq (.seq (.reg [.mv 11 (.t 5),.mv 12 (.t 0),.len 13 (.t 12),.bin 14 .lss (.t 11) (.t 13)]) (.keep [0,1,5,14] (.cond (.t 14) .skip (.keep [] (.exit 0))))) (.keep [0,1,5] (.seq (.block 1 (.seq (.dreg [⟨0,[]⟩,⟨0,[]⟩,⟨0,[(0,0),(0,1),(0,2),(0,3),(100000,0),(100000,1),(100000,2),(100000,3),(100000,4),(100000,5)]⟩,⟨0,[(0,0),(0,1),(0,2),(0,3),(100000,0),(100000,1),(100000,2),(100000,3),(100000,4),(100000,5)]⟩,⟨0,[]⟩,⟨0,[]⟩,⟨0,[(1,0),(1,1),(1,2),(1,3),(100000,0),(100000,1),(100000,2),(100000,3),(100000,4),(100000,5)]⟩,⟨0,[(1,0),(1,1),(1,2),(1,3),(100000,0),(100000,1),(100000,2),(100000,3),(100000,4),(100000,5)]⟩,⟨2,[(0,0),(0,1),(0,2),(0,3),(1,0),(1,1),(1,2),(1,3),(20,0),(24,0),(100000,0),(100000,1),(100000,2),(100000,3),(100000,4),(100000,5)]⟩,⟨0,[]⟩] [.mv 17 (.t 0),.mv 18 (.t 5),.ia 19 4 (.t 17) (.t 18),.ldq 20 true 4 (.t 19),.mv 21 (.t 1),.mv 22 (.t 5),.ia 23 4 (.t 21) (.t 22),.ldq 24 true 4 (.t 23),.call (some 25) (.c (Fc qf0)) [(.t 20),(.t 24)] (.ro true),.un 26 .not (.t 25)]) (.keep [0,1,5,26] (.cond (.t 26) (.seq (.reg [.mv 4 (.c (B false))]) (.keep [4] .ret)) .skip)))) (.keep [0,1,5] (.reg [.mv 15 (.t 5),.bin 16 .add (.t 15) (.c (I 1)),.mv 5 (.t 16)])))))
def qdZ:Lp:=⟨[0,1,5],[(2,0)],qjI⟩
@[go_sem] theorem qGL:qdZ.ls=[0,1,5]:=rfl
@[go_sem] theorem qGK:qdZ.ks=[(2,0)]:=rfl
@[go_sem] theorem qGJ:qdZ.body=qjI:=rfl
def qcS:AF where
 nargs:=2
 ntmps:=27
 res:=[.tmp 4]
 body:=(.seq (.reg [.mv 4 (.c (B false))]) (.seq (.seq (.reg [.mv 6 (.t 0),.len 7 (.t 6),.mv 8 (.t 1),.len 9 (.t 8),.bin 10 .neq (.t 7) (.t 9)]) (.keep [0,1,10] (.cond (.t 10) (.seq (.reg [.mv 4 (.c (B false))]) (.keep [4] .ret)) .skip))) (.keep [0,1] (.seq (.seq (.reg [.mv 5 (.c (I 0))]) (.block 0 (lpC qdZ))) (.keep [] (.seq (.reg [.mv 4 (.c (B true))]) (.keep [4] .ret)))))))
def QX:AF where
 nargs:=1
 ntmps:=18
 res:=[.cell 2 true 4,.tmp 3]
 body:=(.seq (.reg [.new 2 (.c (.a [(S []),(I 0),(I 0),(I 0)])),.mv 3 (.c (B false))]) (.seq (.seq (.reg [.mv 4 (.t 0)]) (.block 0 (.seq (.reg [.bin 6 .eql (.t 4) (.c (S [58,45])),.mv 5 (.t 6)]) (.cond (.t 5) (.seq (.reg [.mv 7 (.t 0),.build 8 (.a [(S []),(I 0),(I 0),(I 0)]) [(0,1,(.t 7)),(1,1,(.c (I 1200))),(3,1,(.c (I 1199)))],.st 4 (.t 2) (.t 8),.mv 3 (.c (B true))]) (.keep [2,3] .ret)) (.seq (.reg [.bin 10 .eql (.t 4) (.c (S [92,43])),.mv 9 (.t 10)]) (.cond (.t 9) (.seq (.reg [.mv 11 (.t 0),.build 12 (.a [(S []),(I 0),(I 0),(I 0)]) [(0,1,(.t 11)),(1,1,(.c (I 900))),(3,1,(.c (I 900)))],.st 4 (.t 2) (.t 12),.mv 3 (.c (B true))]) (.keep [2,3] .ret)) (.seq (.reg [.bin 14 .eql (.t 4) (.c (S [45])),.mv 13 (.t 14)]) (.cond (.t 13) (.seq (.reg [.mv 15 (.t 0),.build 16 (.a [(S []),(I 0),(I 0),(I 0)]) [(0,1,(.t 15)),(1,1,(.c (I 200))),(3,1,(.c (I 200)))],.st 4 (.t 2) (.t 16),.mv 3 (.c (B true))]) (.keep [2,3] .ret)) .skip)))))))) (.keep [2] (.seq (.reg [.build 17 (.a [(S []),(I 0),(I 0),(I 0)]) [],.st 4 (.t 2) (.t 17),.mv 3 (.c (B false))]) (.keep [2,3] .ret)))))
def Qs:AC:=(.seq (.seq (.reg [.mv 11 (.t 5),.mv 12 (.t 0),.slen 13 (.t 12),.bin 14 .lss (.t 11) (.t 13)]) (.keep [0,4,5,14] (.cond (.t 14) .skip (.keep [4] (.exit 0))))) (.keep [0,4,5] (.block 1 (.seq (.seq (.reg [.mv 15 (.t 0),.mv 16 (.t 5),.ix 17 (.t 15) (.t 16)]) (.block 2 (.seq (.seq (.reg [.bin 19 .eql (.t 17) (.c (U8 32)),.mv 18 (.t 19)]) (.cond (.t 18) .skip (.seq (.reg [.bin 20 .eql (.t 17) (.c (U8 9)),.mv 18 (.t 20)]) (.cond (.t 18) .skip (.reg [.bin 21 .eql (.t 17) (.c (U8 10)),.mv 18 (.t 21)]))))) (.keep [0,4,5,17,18] (.cond (.t 18) (.seq (.reg [.mv 22 (.t 5),.bin 23 .add (.t 22) (.c (I 1)),.mv 5 (.t 23)]) (.keep [0,4,5] (.exit 1))) (.seq (.reg [.bin 25 .eql (.t 17) (.c (U8 37)),.mv 24 (.t 25)]) (.cond (.t 24) (.seq (.reg [.mv 26 (.t 0),.mv 27 (.t 5),.call (some 28) (.c (Fc Y1)) [(.t 26),(.t 27),(.c (Fc qdm))] (.ro false),.mv 5 (.t 28)]) (.keep [0,4,5] (.exit 1))) .skip))))))) (.keep [0,4,5] (.seq (.reg [.mv 30 (.t 0),.mv 31 (.t 5),.call (some 32) (.c (Fc qfW)) [(.t 30),(.t 31)] (.ro false),.mv 29 (.t 32),.ext 33 (.t 29) 0,.ext 34 (.t 29) 1,.new 6 (.c (.a [(I 0),(S []),(I 0),(I 0),(B false)])),.st 5 (.t 6) (.t 33),.mv 7 (.t 34)]) (.keep [0,4,6,7] (.seq (.reg [.mv 35 (.t 7),.mv 36 (.t 0),.slen 37 (.t 36),.bin 38 .lss (.t 35) (.t 37),.mv 39 (.t 38),.gd 39 true (some 40) (.mv 40 (.t 0)),.gd 39 true (some 41) (.mv 41 (.t 7)),.gd 39 true (some 42) (.ix 42 (.t 40) (.t 41)),.gd 39 true (some 43) (.bin 43 .eql (.t 42) (.c (U8 40))),.pick 44 (.t 39) (.t 43) (.c (B false)),.fa 45 (.t 6) 4,.st 1 (.t 45) (.t 44)]) (.keep [0,4,6,7] (.seq (.reg [.mv 46 (.t 4),.ld 47 true 5 (.t 6),.mks 48 5 [(.t 47)],.app 49 5 48 (.t 46) (.t 48),.mv 4 (.t 49)]) (.keep [0,4,7] (.reg [.mv 50 (.t 7),.mv 5 (.t 50)]))))))))))))
def qaM:Lp:=⟨[0,4,5],[(1,0)],Qs⟩
@[go_sem] theorem qF2:qaM.ls=[0,4,5]:=rfl
@[go_sem] theorem qF1:qaM.ks=[(1,0)]:=rfl
@[go_sem] theorem qF0:qaM.body=Qs:=rfl
def Yy:AF where
 nargs:=1
 ntmps:=52
 res:=[.tmp 2,.tmp 3]
 body:=(.seq (.reg [.mv 2 (.c (.n 5)),.mv 3 (.c (B false))]) (.seq (.seq (.reg [.mv 8 (.t 0),.slen 9 (.t 8),.bin 10 .gtr (.t 9) (.c (I 3000))]) (.cond (.t 10) (.seq (.reg [.mv 2 (.c (.n 5)),.mv 3 (.c (B false))]) (.keep [2,3] .ret)) .skip)) (.keep [0] (.seq (.reg [.mv 4 (.c (.n 5))]) (.seq (.seq (.reg [.mv 5 (.c (I 0))]) (.block 0 (lpC qaM))) (.keep [4] (.seq (.reg [.mv 51 (.t 4),.mv 2 (.t 51),.mv 3 (.c (B true))]) (.keep [2,3] .ret))))))))
def Z1:AC:=(.seq (.seq (.reg [.mv 4 (.t 3),.mv 5 (.t 0),.slen 6 (.t 5),.bin 7 .lss (.t 4) (.t 6)]) (.keep [0,3,7] (.cond (.t 7) .skip (.keep [0] (.exit 0))))) (.keep [0,3] (.seq (.block 1 (.seq (.reg [.mv 10 (.t 0),.mv 11 (.t 3),.ix 12 (.t 10) (.t 11),.bin 13 .lss (.t 12) (.c (U8 33)),.mv 14 (.t 13),.gd 14 false (some 15) (.mv 15 (.t 0)),.gd 14 false (some 16) (.mv 16 (.t 3)),.gd 14 false (some 17) (.ix 17 (.t 15) (.t 16)),.gd 14 false (some 18) (.bin 18 .gtr (.t 17) (.c (U8 126))),.pick 19 (.t 14) (.c (B true)) (.t 18),.mv 20 (.t 19),.gd 20 false (some 21) (.mv 21 (.t 0)),.gd 20 false (some 22) (.mv 22 (.t 3)),.gd 20 false (some 23) (.ix 23 (.t 21) (.t 22)),.gd 20 false (some 24) (.bin 24 .eql (.t 23) (.c (U8 39))),.pick 25 (.t 20) (.c (B true)) (.t 24),.mv 26 (.t 25),.gd 26 false (some 27) (.mv 27 (.t 0)),.gd 26 false (some 28) (.mv 28 (.t 3)),.gd 26 false (some 29) (.ix 29 (.t 27) (.t 28)),.gd 26 false (some 30) (.bin 30 .eql (.t 29) (.c (U8 34))),.pick 31 (.t 26) (.c (B true)) (.t 30)]) (.keep [0,3,31] (.cond (.t 31) (.seq (.reg [.mv 2 (.c (B false))]) (.keep [2] .ret)) .skip)))) (.keep [0,3] (.reg [.mv 8 (.t 3),.bin 9 .add (.t 8) (.c (I 1)),.mv 3 (.t 9)])))))
def KT:Lp:=⟨[0,3],[(1,0)],Z1⟩
@[go_sem] theorem qHP:KT.ls=[0,3]:=rfl
@[go_sem] theorem qHO:KT.ks=[(1,0)]:=rfl
@[go_sem] theorem qHN:KT.body=Z1:=rfl
def YQ:AF where
 nargs:=1
 ntmps:=35
 res:=[.tmp 2]
 body:=(.seq (.reg [.mv 2 (.c (B false))]) (.seq (.seq (.reg [.mv 3 (.c (I 0))]) (.block 0 (lpC KT))) (.keep [0] (.seq (.reg [.mv 32 (.t 0),.slen 33 (.t 32),.call (some 34) (.c (Fc Y4)) [(.t 33),(.c (I 1)),(.c (I 20))] (.ro false),.mv 2 (.t 34)]) (.keep [2] .ret)))))
def Kq:AF where
 nargs:=1
 ntmps:=13
 res:=[.tmp 2]
 body:=(.seq (.reg [.mv 2 (.c (B false))]) (.seq (.reg [.mv 3 (.t 0),.call (some 4) (.c (Fc qdK)) [(.t 3)] (.ro false),.mv 5 (.t 4),.gd 5 false (some 6) (.mv 6 (.t 0)),.gd 5 false (some 7) (.call (some 7) (.c (Fc qaG)) [(.t 6)] (.ro false)),.pick 8 (.t 5) (.c (B true)) (.t 7),.mv 9 (.t 8),.gd 9 false (some 10) (.mv 10 (.t 0)),.gd 9 false (some 11) (.call (some 11) (.c (Fc qaF)) [(.t 10)] (.ro false)),.pick 12 (.t 9) (.c (B true)) (.t 11),.mv 2 (.t 12)]) (.keep [2] .ret)))
def xW:AF where
 nargs:=2
 ntmps:=122
 res:=[.cell 4 true 4,.tmp 5]
 body:=(.seq (.reg [.new 4 (.c (.a [(I 0),(S []),(I 0),(.n 4)])),.mv 5 (.c (I 0))]) (.seq (.dreg [⟨0,[]⟩,⟨0,[]⟩,⟨0,[]⟩,⟨0,[(0,0),(0,1),(0,2),(0,3),(28,0),(47,0),(82,0),(115,0)]⟩,⟨0,[]⟩,⟨0,[]⟩,⟨0,[]⟩,⟨0,[(0,0),(0,1),(0,2),(0,3),(28,0),(47,0),(82,0),(115,0)]⟩,⟨0,[(0,0),(0,1),(0,2),(0,3),(15,0),(19,0),(28,0),(47,0),(82,0),(115,0)]⟩,⟨0,[(0,0),(0,1),(0,2),(0,3),(15,0),(19,0),(28,0),(47,0),(82,0),(115,0)]⟩,⟨1,[]⟩,⟨1,[(6,0)]⟩] [.mv 12 (.t 0),.nilc 13 (.t 12),.fa 14 (.t 13) 0,.ldq 15 false 1 (.t 14),.mv 16 (.t 0),.nilc 17 (.t 16),.fa 18 (.t 17) 1,.ldq 19 false 1 (.t 18),.ia 20 5 (.t 15) (.t 19),.ldq 21 true 5 (.t 20),.new 6 (.c (.a [(I 0),(S []),(I 0),(I 0),(B false)])),.st 5 (.t 6) (.t 21)]) (.keep [0,1,4,6] (.seq (.seq (.reg [.fa 22 (.t 6) 4,.ld 23 false 1 (.t 22)]) (.cond (.t 23) (.seq (.reg [.mv 24 (.t 0),.mv 25 (.t 0),.nilc 26 (.t 25),.fa 27 (.t 26) 1,.ld 28 false 1 (.t 27),.bin 29 .add (.t 28) (.c (I 2)),.nilc 30 (.t 24),.fa 31 (.t 30) 1,.st 1 (.t 31) (.t 29)]) (.keep [0,4,6] (.seq (.reg [.mv 32 (.t 0),.fa 33 (.t 6) 1,.ld 34 false 1 (.t 33),.call (some 35) (.c (Fc qdM)) [(.t 32),(.t 34)] (.io false),.st 4 (.t 4) (.t 35),.mv 5 (.c (I 0))]) (.keep [0,4,5] .ret)))) .skip)) (.keep [0,1,4,6] (.seq (.seq (.reg [.fa 36 (.t 6) 1,.ld 37 false 1 (.t 36),.bin 38 .eql (.t 37) (.c (S [45])),.mv 39 (.t 38),.gd 39 true (some 40) (.mv 40 (.t 0)),.gd 39 true (some 41) (.call (some 41) (.c (Fc qgq)) [(.t 40)] (.ro true)),.pick 42 (.t 39) (.t 41) (.c (B false))]) (.keep [0,1,4,6,42] (.cond (.t 42) (.seq (.reg [.mv 43 (.t 0),.mv 44 (.t 0),.nilc 45 (.t 44),.fa 46 (.t 45) 1,.ld 47 false 1 (.t 46),.bin 48 .add (.t 47) (.c (I 2)),.nilc 49 (.t 43),.fa 50 (.t 49) 1,.st 1 (.t 50) (.t 48)]) (.keep [0,4] (.seq (.dreg [⟨0,[]⟩,⟨0,[]⟩,⟨0,[]⟩,⟨0,[(0,0),(0,1),(0,2),(0,3),(28,0),(47,0),(82,0),(115,0)]⟩,⟨0,[]⟩,⟨0,[]⟩,⟨0,[]⟩,⟨0,[(0,0),(0,1),(0,2),(0,3),(28,0),(47,0),(82,0),(115,0)]⟩,⟨0,[]⟩,⟨0,[(0,0),(0,1),(0,2),(0,3),(28,0),(47,0),(54,0),(58,0),(82,0),(115,0)]⟩,⟨0,[]⟩,⟨0,[(0,0),(0,1),(0,2),(0,3),(28,0),(47,0),(54,0),(58,0),(82,0),(115,0)]⟩,⟨0,[]⟩,⟨2,[(0,0),(0,1),(0,2),(0,3),(28,0),(47,0),(54,0),(58,0),(62,0),(82,0),(115,0)]⟩,⟨1,[(4,0)]⟩,⟨0,[]⟩] [.mv 51 (.t 0),.nilc 52 (.t 51),.fa 53 (.t 52) 0,.ldq 54 false 1 (.t 53),.mv 55 (.t 0),.nilc 56 (.t 55),.fa 57 (.t 56) 1,.ldq 58 false 1 (.t 57),.bin 59 .sub (.t 58) (.c (I 1)),.ia 60 5 (.t 54) (.t 59),.fa 61 (.t 60) 2,.ldq 62 false 1 (.t 61),.un 63 .neg (.t 62),.call (some 64) (.c (Fc qaC)) [(.t 63)] (.ro false),.st 4 (.t 4) (.t 64),.mv 5 (.c (I 0))]) (.keep [0,4,5] .ret)))) .skip))) (.keep [0,1,4,6] (.seq (.reg [.fa 66 (.t 6) 1,.ld 67 false 1 (.t 66),.call (some 68) (.c (Fc qdF)) [(.t 67)] (.ro false),.mv 65 (.t 68),.ext 69 (.t 65) 0,.ext 70 (.t 65) 1,.new 7 (.c (.a [(S []),(I 0),(I 0),(I 0)])),.st 4 (.t 7) (.t 69),.mv 8 (.t 70)]) (.keep [0,1,4,6,7,8] (.seq (.seq (.reg [.mv 71 (.t 8),.mv 72 (.t 71),.gd 72 true (some 73) (.fa 73 (.t 7) 1),.gd 72 true (some 74) (.ld 74 false 1 (.t 73)),.gd 72 true (some 75) (.mv 75 (.t 1)),.gd 72 true (some 76) (.bin 76 .leq (.t 74) (.t 75)),.pick 77 (.t 72) (.t 76) (.c (B false))]) (.keep [0,4,6,7,8,77] (.cond (.t 77) (.seq (.reg [.mv 78 (.t 0),.mv 79 (.t 0),.nilc 80 (.t 79),.fa 81 (.t 80) 1,.ld 82 false 1 (.t 81),.bin 83 .add (.t 82) (.c (I 1)),.nilc 84 (.t 78),.fa 85 (.t 84) 1,.st 1 (.t 85) (.t 83)]) (.keep [0,4,6,7] (.seq (.reg [.mv 86 (.t 0),.fa 87 (.t 7) 3,.ld 88 false 1 (.t 87),.call (some 89) (.c (Fc z6)) [(.t 86),(.t 88)] (.io false),.new 9 (.c (.a [(I 0),(S []),(I 0),(.n 4)])),.st 4 (.t 9) (.t 89)]) (.keep [0,4,6,7,9] (.seq (.dreg [⟨0,[]⟩,⟨0,[(6,0)]⟩,⟨0,[(9,0)]⟩,⟨1,[]⟩,⟨0,[]⟩,⟨0,[]⟩,⟨0,[(7,0)]⟩,⟨1,[(4,0)]⟩,⟨0,[]⟩] [.fa 90 (.t 6) 1,.ldq 91 false 1 (.t 90),.ldq 92 true 4 (.t 9),.mks 93 4 [(.t 92)],.build 94 (.a [(I 0),(S []),(I 0),(.n 4)]) [(0,1,(.c (I 4))),(1,1,(.t 91)),(3,1,(.t 93))],.fa 95 (.t 7) 1,.ldq 96 false 1 (.t 95),.st 4 (.t 4) (.t 94),.mv 5 (.t 96)]) (.keep [0,4,5] .ret)))))) .skip))) (.keep [0,4,6,8] (.seq (.reg [.fa 98 (.t 6) 1,.ld 99 false 1 (.t 98),.call (some 100) (.c (Fc Zc)) [(.t 99)] (.ro true),.mv 97 (.t 100),.ext 101 (.t 97) 0,.ext 102 (.t 97) 1,.new 10 (.c (.a [(S []),(I 0),(I 0),(I 0)])),.st 4 (.t 10) (.t 101),.mv 11 (.t 102)]) (.keep [0,4,6,8,11] (.seq (.seq (.reg [.mv 103 (.t 8),.mv 104 (.t 103),.gd 104 false (some 105) (.mv 105 (.t 11)),.pick 106 (.t 104) (.c (B true)) (.t 105)]) (.keep [0,4,6,106] (.cond (.t 106) (.seq (.reg [.mv 107 (.t 0),.nilc 108 (.t 107),.fa 109 (.t 108) 2,.st 1 (.t 109) (.c (B true))]) (.keep [0,4] (.seq (.reg [.build 110 (.a [(I 0),(S []),(I 0),(.n 4)]) [],.st 4 (.t 4) (.t 110),.mv 5 (.c (I 0))]) (.keep [0,4,5] .ret)))) .skip))) (.keep [0,4,6] (.seq (.reg [.mv 111 (.t 0),.mv 112 (.t 0),.nilc 113 (.t 112),.fa 114 (.t 113) 1,.ld 115 false 1 (.t 114),.bin 116 .add (.t 115) (.c (I 1)),.nilc 117 (.t 111),.fa 118 (.t 117) 1,.st 1 (.t 118) (.t 116)]) (.keep [0,4,6] (.seq (.reg [.fa 119 (.t 6) 1,.ld 120 false 1 (.t 119),.call (some 121) (.c (Fc Zd)) [(.t 120)] (.ro false),.st 4 (.t 4) (.t 121),.mv 5 (.c (I 0))]) (.keep [0,4,5] .ret)))))))))))))))))))
def YT:AF where
 nargs:=2
 ntmps:=16
 res:=[.tmp 4]
 body:=(.seq (.reg [.mv 4 (.c (B false))]) (.seq (.seq (.reg [.mv 5 (.t 0),.mv 6 (.t 1),.call (some 7) (.c (Fc Qo)) [(.t 5),(.c (I 4)),(.t 6)] (.ro true)]) (.cond (.t 7) (.seq (.reg [.mv 8 (.t 0),.mv 9 (.t 0),.nilc 10 (.t 9),.fa 11 (.t 10) 1,.ld 12 false 1 (.t 11),.bin 13 .add (.t 12) (.c (I 1)),.nilc 14 (.t 8),.fa 15 (.t 14) 1,.st 1 (.t 15) (.t 13)]) (.keep [0] (.seq (.reg [.mv 4 (.c (B true))]) (.keep [0,4] .ret)))) .skip)) (.keep [0] (.seq (.reg [.mv 4 (.c (B false))]) (.keep [0,4] .ret)))))
def Qi:AF where
 nargs:=1
 ntmps:=75
 res:=[.cell 2 true 4]
 body:=(.seq (.reg [.new 2 (.c (.a [(I 0),(S []),(I 0),(.n 4)]))]) (.seq (.seq (.dreg [⟨0,[]⟩,⟨2,[(0,0),(0,1),(0,2),(0,3),(53,0)]⟩,⟨0,[]⟩,⟨0,[]⟩,⟨0,[]⟩,⟨0,[]⟩,⟨0,[(0,0),(0,1),(0,2),(0,3),(53,0)]⟩,⟨0,[]⟩,⟨0,[]⟩,⟨0,[]⟩,⟨0,[]⟩,⟨0,[(0,0),(0,1),(0,2),(0,3),(53,0)]⟩,⟨0,[(0,0),(0,1),(0,2),(0,3),(15,0),(53,0)]⟩,⟨0,[]⟩,⟨0,[]⟩,⟨0,[]⟩,⟨0,[]⟩,⟨0,[]⟩,⟨0,[]⟩,⟨0,[(0,0),(0,1),(0,2),(0,3),(53,0)]⟩,⟨0,[]⟩,⟨0,[]⟩,⟨0,[]⟩,⟨0,[(0,0),(0,1),(0,2),(0,3),(53,0)]⟩,⟨0,[]⟩,⟨0,[(0,0),(0,1),(0,2),(0,3),(23,0),(27,0),(53,0)]⟩,⟨0,[]⟩,⟨0,[(0,0),(0,1),(0,2),(0,3),(23,0),(27,0),(53,0)]⟩,⟨0,[]⟩,⟨0,[]⟩,⟨0,[]⟩,⟨0,[]⟩,⟨0,[]⟩,⟨0,[]⟩,⟨0,[(0,0),(0,1),(0,2),(0,3),(53,0)]⟩,⟨0,[]⟩,⟨0,[]⟩,⟨0,[]⟩,⟨0,[(0,0),(0,1),(0,2),(0,3),(53,0)]⟩,⟨0,[]⟩,⟨0,[(0,0),(0,1),(0,2),(0,3),(38,0),(42,0),(53,0)]⟩,⟨0,[]⟩,⟨0,[(0,0),(0,1),(0,2),(0,3),(38,0),(42,0),(53,0)]⟩,⟨0,[]⟩,⟨0,[]⟩] [.mv 4 (.t 0),.call (some 5) (.c (Fc Qo)) [(.t 4),(.c (I 1)),(.c (S []))] (.ro true),.mv 6 (.t 5),.gd 6 true (some 7) (.mv 7 (.t 0)),.gd 6 true (some 8) (.nilc 8 (.t 7)),.gd 6 true (some 9) (.fa 9 (.t 8) 1),.gd 6 true (some 10) (.ldq 10 false 1 (.t 9)),.gd 6 true (some 11) (.bin 11 .add (.t 10) (.c (I 1))),.gd 6 true (some 12) (.mv 12 (.t 0)),.gd 6 true (some 13) (.nilc 13 (.t 12)),.gd 6 true (some 14) (.fa 14 (.t 13) 0),.gd 6 true (some 15) (.ldq 15 false 1 (.t 14)),.gd 6 true (some 16) (.len 16 (.t 15)),.gd 6 true (some 17) (.bin 17 .lss (.t 11) (.t 16)),.pick 18 (.t 6) (.t 17) (.c (B false)),.mv 19 (.t 18),.gd 19 true (some 20) (.mv 20 (.t 0)),.gd 19 true (some 21) (.nilc 21 (.t 20)),.gd 19 true (some 22) (.fa 22 (.t 21) 0),.gd 19 true (some 23) (.ldq 23 false 1 (.t 22)),.gd 19 true (some 24) (.mv 24 (.t 0)),.gd 19 true (some 25) (.nilc 25 (.t 24)),.gd 19 true (some 26) (.fa 26 (.t 25) 1),.gd 19 true (some 27) (.ldq 27 false 1 (.t 26)),.gd 19 true (some 28) (.bin 28 .add (.t 27) (.c (I 1))),.gd 19 true (some 29) (.ia 29 5 (.t 23) (.t 28)),.gd 19 true (some 30) (.fa 30 (.t 29) 0),.gd 19 true (some 31) (.ldq 31 false 1 (.t 30)),.gd 19 true (some 32) (.bin 32 .eql (.t 31) (.c (I 4))),.pick 33 (.t 19) (.t 32) (.c (B false)),.mv 34 (.t 33),.gd 34 true (some 35) (.mv 35 (.t 0)),.gd 34 true (some 36) (.nilc 36 (.t 35)),.gd 34 true (some 37) (.fa 37 (.t 36) 0),.gd 34 true (some 38) (.ldq 38 false 1 (.t 37)),.gd 34 true (some 39) (.mv 39 (.t 0)),.gd 34 true (some 40) (.nilc 40 (.t 39)),.gd 34 true (some 41) (.fa 41 (.t 40) 1),.gd 34 true (some 42) (.ldq 42 false 1 (.t 41)),.gd 34 true (some 43) (.bin 43 .add (.t 42) (.c (I 1))),.gd 34 true (some 44) (.ia 44 5 (.t 38) (.t 43)),.gd 34 true (some 45) (.fa 45 (.t 44) 1),.gd 34 true (some 46) (.ldq 46 false 1 (.t 45)),.gd 34 true (some 47) (.bin 47 .eql (.t 46) (.c (S [41]))),.pick 48 (.t 34) (.t 47) (.c (B false))]) (.keep [0,2,48] (.cond (.t 48) (.seq (.reg [.mv 49 (.t 0),.mv 50 (.t 0),.nilc 51 (.t 50),.fa 52 (.t 51) 1,.ld 53 false 1 (.t 52),.bin 54 .add (.t 53) (.c (I 2)),.nilc 55 (.t 49),.fa 56 (.t 55) 1,.st 1 (.t 56) (.t 54)]) (.keep [0,2] (.seq (.dreg [⟨0,[]⟩,⟨0,[]⟩,⟨0,[]⟩,⟨0,[(0,0),(0,1),(0,2),(0,3),(53,0)]⟩,⟨0,[]⟩,⟨0,[]⟩,⟨0,[]⟩,⟨0,[(0,0),(0,1),(0,2),(0,3),(53,0)]⟩,⟨0,[]⟩,⟨0,[(0,0),(0,1),(0,2),(0,3),(53,0),(60,0),(64,0)]⟩,⟨0,[]⟩,⟨0,[(0,0),(0,1),(0,2),(0,3),(53,0),(60,0),(64,0)]⟩,⟨2,[(0,0),(0,1),(0,2),(0,3),(53,0),(60,0),(64,0),(68,0)]⟩,⟨1,[(2,0)]⟩] [.mv 57 (.t 0),.nilc 58 (.t 57),.fa 59 (.t 58) 0,.ldq 60 false 1 (.t 59),.mv 61 (.t 0),.nilc 62 (.t 61),.fa 63 (.t 62) 1,.ldq 64 false 1 (.t 63),.bin 65 .sub (.t 64) (.c (I 2)),.ia 66 5 (.t 60) (.t 65),.fa 67 (.t 66) 1,.ldq 68 false 1 (.t 67),.call (some 69) (.c (Fc Zd)) [(.t 68)] (.ro false),.st 4 (.t 2) (.t 69)]) (.keep [0,2] .ret)))) .skip))) (.keep [0,2] (.seq (.reg [.mv 70 (.t 0),.call (some 71) (.c (Fc z6)) [(.t 70),(.c (I 1200))] (.io false),.new 3 (.c (.a [(I 0),(S []),(I 0),(.n 4)])),.st 4 (.t 3) (.t 71)]) (.keep [0,2,3] (.seq (.reg [.mv 72 (.t 0),.call (some 73) (.c (Fc jM)) [(.t 72),(.c (S [41]))] (.io true)]) (.seq (.reg [.ld 74 true 4 (.t 3),.st 4 (.t 2) (.t 74)]) (.keep [0,2] .ret))))))))
def qel:AC:=(.seq (.seq (.reg [.mv 34 (.t 5),.bin 35 .geq (.t 34) (.c (I 0))]) (.cond (.t 35) .skip (.keep [0,2,4] (.exit 2)))) (.keep [0,2,3,4,5] (.seq (.block 3 (.opd [(500000,3,some 5)] (.dreg [⟨0,[]⟩,⟨0,[]⟩,⟨0,[(0,0),(0,1),(0,2),(0,3),(9,0),(18,0),(18,1),(18,2),(18,3),(19,0),(20,0),(100000,0),(100000,1),(100000,2),(100000,3),(100000,4),(100000,5)]⟩,⟨0,[(0,0),(0,1),(0,2),(0,3),(9,0),(18,0),(18,1),(18,2),(18,3),(19,0),(20,0),(100000,0),(100000,1),(100000,2),(100000,3),(100000,4),(100000,5)]⟩,⟨0,[(4,0),(100000,0),(100000,1),(100000,2),(100000,3),(100000,4),(100000,5)]⟩,⟨1,[(0,0),(0,1),(0,2),(0,3),(9,0),(10,0),(10,1),(10,2),(10,3),(18,0),(18,1),(18,2),(18,3),(19,0),(20,0),(26,0),(26,1),(26,2),(26,3),(41,0),(42,0),(100000,0),(100000,1),(100000,2),(100000,3),(100000,4),(100000,5),(500000,0)]⟩,⟨1,[(4,0),(100000,0),(100000,1),(100000,2),(100000,3),(100000,4),(100000,5)]⟩] [.mv 38 (.t 3),.mv 39 (.t 5),.ia 40 4 (.t 38) (.t 39),.ldq 41 true 4 (.t 40),.ldq 42 true 4 (.t 4),.call (some 43) (.c (Fc Ze)) [(.c (S [46])),(.t 41),(.t 42)] (.io false),.st 4 (.t 4) (.t 43)]))) (.keep [0,2,3,4,5] (.reg [.mv 36 (.t 5),.bin 37 .sub (.t 36) (.c (I 1)),.mv 5 (.t 37)])))))
def qa4:Lp:=⟨[0,2,3,4,5],[(1,0)],qel⟩
@[go_sem] theorem qId:qa4.ls=[0,2,3,4,5]:=rfl
@[go_sem] theorem qIc:qa4.ks=[(1,0)]:=rfl
@[go_sem] theorem qIb:qa4.body=qel:=rfl
def K1:AC:=(.seq (.seq (.reg [.mv 11 (.t 0),.nilc 12 (.t 11),.fa 13 (.t 12) 2,.ld 14 false 1 (.t 13),.un 15 .not (.t 14)]) (.keep [0,2,3,4,15] (.cond (.t 15) .skip (.keep [0,2,3,4] (.exit 0))))) (.keep [0,2,3,4] (.block 1 (.seq (.reg [.mv 16 (.t 3),.mv 17 (.t 0),.call (some 18) (.c (Fc z6)) [(.t 17),(.c (I 999))] (.io false),.mks 19 4 [(.t 18)],.app 20 4 56 (.t 16) (.t 19),.mv 3 (.t 20)]) (.keep [0,2,3,4] (.seq (.seq (.reg [.mv 21 (.t 0),.call (some 22) (.c (Fc Qp)) [(.t 21),(.c (S [93]))] (.io true)]) (.cond (.t 22) (.keep [0,2,3,4] (.exit 0)) .skip)) (.keep [0,2,3,4] (.seq (.seq (.reg [.mv 23 (.t 0),.call (some 24) (.c (Fc Qp)) [(.t 23),(.c (S [124]))] (.io true)]) (.cond (.t 24) (.seq (.reg [.mv 25 (.t 0),.call (some 26) (.c (Fc z6)) [(.t 25),(.c (I 999))] (.io false),.st 4 (.t 4) (.t 26)]) (.seq (.reg [.mv 27 (.t 0),.call (some 28) (.c (Fc jM)) [(.t 27),(.c (S [93]))] (.io true)]) (.keep [0,2,3,4] (.exit 0)))) .skip)) (.keep [0,2,3,4] (.reg [.mv 29 (.t 0),.call (some 30) (.c (Fc jM)) [(.t 29),(.c (S [44]))] (.io true)]))))))))))
def kx:Lp:=⟨[0,2,3,4],[(1,0)],K1⟩
@[go_sem] theorem qIg:kx.ls=[0,2,3,4]:=rfl
@[go_sem] theorem qIf:kx.ks=[(1,0)]:=rfl
@[go_sem] theorem qIe:kx.body=K1:=rfl
def Q6:AF where
 nargs:=1
 ntmps:=45
 res:=[.cell 2 true 4]
 body:=(.seq (.reg [.new 2 (.c (.a [(I 0),(S []),(I 0),(.n 4)]))]) (.seq (.seq (.reg [.mv 6 (.t 0),.call (some 7) (.c (Fc Qp)) [(.t 6),(.c (S [93]))] (.io true)]) (.cond (.t 7) (.seq (.reg [.call (some 8) (.c (Fc Zd)) [(.c (S [91,93]))] (.ro false),.st 4 (.t 2) (.t 8)]) (.keep [0,2] .ret)) .skip)) (.keep [0,2] (.seq (.reg [.mks 9 4 [],.mv 3 (.t 9)]) (.seq (.reg [.call (some 10) (.c (Fc Zd)) [(.c (S [91,93]))] (.ro false),.new 4 (.c (.a [(I 0),(S []),(I 0),(.n 4)])),.st 4 (.t 4) (.t 10)]) (.seq (.block 0 (lpC kx)) (.keep [0,2,3,4] (.seq (.seq (.reg [.mv 31 (.t 3),.len 32 (.t 31),.bin 33 .sub (.t 32) (.c (I 1)),.mv 5 (.t 33)]) (.keep [0,2,3,4,5] (.block 2 (lpC qa4)))) (.keep [0,2,4] (.seq (.reg [.ld 44 true 4 (.t 4),.st 4 (.t 2) (.t 44)]) (.keep [0,2] .ret)))))))))))
def Z3:AC:=(.seq (.seq (.reg [.mv 8 (.t 5),.mv 9 (.t 0),.nilc 10 (.t 9),.fa 11 (.t 10) 4,.ld 12 false 1 (.t 11),.len 13 (.t 12),.bin 14 .lss (.t 8) (.t 13)]) (.keep [0,1,4,5,14] (.cond (.t 14) .skip (.keep [0,1,4] (.exit 0))))) (.keep [0,1,4,5] (.seq (.block 1 (.seq (.reg [.mv 17 (.t 0),.nilc 18 (.t 17),.fa 19 (.t 18) 4,.ld 20 false 1 (.t 19),.mv 21 (.t 5),.ia 22 1 (.t 20) (.t 21),.ld 23 false 1 (.t 22),.mv 24 (.t 1),.bin 25 .eql (.t 23) (.t 24)]) (.keep [0,1,4,5,25] (.cond (.t 25) (.seq (.reg [.mv 26 (.t 5),.call (some 27) (.c (Fc qaE)) [(.t 26)] (.ro false),.st 4 (.t 4) (.t 27)]) (.keep [0,4] .ret)) .skip)))) (.keep [0,1,4,5] (.reg [.mv 15 (.t 5),.bin 16 .add (.t 15) (.c (I 1)),.mv 5 (.t 16)])))))
def jg:Lp:=⟨[0,1,4,5],[(2,0)],Z3⟩
@[go_sem] theorem qIp:jg.ls=[0,1,4,5]:=rfl
@[go_sem] theorem qIo:jg.ks=[(2,0)]:=rfl
@[go_sem] theorem qIn:jg.body=Z3:=rfl
def Qj:AF where
 nargs:=2
 ntmps:=45
 res:=[.cell 4 true 4]
 body:=(.seq (.reg [.new 4 (.c (.a [(I 0),(S []),(I 0),(.n 4)]))]) (.seq (.seq (.reg [.mv 6 (.t 1),.bin 7 .neq (.t 6) (.c (S [95]))]) (.cond (.t 7) (.seq (.reg [.mv 5 (.c (I 0))]) (.block 0 (lpC jg))) .skip)) (.keep [0,1,4] (.seq (.reg [.mv 28 (.t 0),.mv 29 (.t 0),.nilc 30 (.t 29),.fa 31 (.t 30) 4,.ld 32 false 1 (.t 31),.mv 33 (.t 1),.mks 34 1 [(.t 33)],.app 35 1 16 (.t 32) (.t 34),.nilc 36 (.t 28),.fa 37 (.t 36) 4,.st 1 (.t 37) (.t 35)]) (.keep [0,4] (.seq (.reg [.mv 38 (.t 0),.nilc 39 (.t 38),.fa 40 (.t 39) 4,.ld 41 false 1 (.t 40),.len 42 (.t 41),.bin 43 .sub (.t 42) (.c (I 1)),.call (some 44) (.c (Fc qaE)) [(.t 43)] (.ro false),.st 4 (.t 4) (.t 44)]) (.keep [0,4] .ret)))))))
def qc5:AF where
 nargs:=2
 ntmps:=9
 res:=[.tmp 4]
 body:=(.seq (.reg [.mv 4 (.c (B false))]) (.seq (.reg [.mv 5 (.t 0),.mv 6 (.t 1),.call (some 7) (.c (Fc qjr)) [(.t 5),(.t 6)] (.ro false),.bin 8 .geq (.t 7) (.c (I 0)),.mv 4 (.t 8)]) (.keep [4] .ret)))
def qjQ:AC:=(.seq (.reg [.bin 9 .lss (.t 8) (.t 7)]) (.seq (.cond (.t 9) .skip (.keep [] (.exit 0))) (.keep [0,1,7,8] (.seq (.block 1 (.seq (.reg [.mv 10 (.t 8),.mv 5 (.t 10)]) (.seq (.reg [.mv 11 (.t 1),.mv 12 (.t 0),.mv 13 (.t 5),.ia 14 1 (.t 12) (.t 13),.ld 15 false 1 (.t 14),.bin 16 .eql (.t 11) (.t 15)]) (.keep [0,1,5,7,8,16] (.cond (.t 16) (.seq (.reg [.mv 17 (.t 5),.mv 4 (.t 17)]) (.keep [4] .ret)) .skip))))) (.keep [0,1,7,8] (.reg [.bin 18 .add (.t 8) (.c (I 1)),.mv 8 (.t 18)]))))))
def qd7:Lp:=⟨[0,1,7,8],[(2,0)],qjQ⟩
@[go_sem] theorem qG9:qd7.ls=[0,1,7,8]:=rfl
@[go_sem] theorem qG8:qd7.ks=[(2,0)]:=rfl
@[go_sem] theorem qG7:qd7.body=qjQ:=rfl
def qc8:AF where
 nargs:=2
 ntmps:=19
 res:=[.tmp 4]
 body:=(.seq (.reg [.mv 4 (.c (I 0))]) (.seq (.seq (.reg [.mv 6 (.t 0),.len 7 (.t 6),.mv 8 (.c (I 0))]) (.block 0 (lpC qd7))) (.keep [] (.seq (.reg [.mv 4 (.c (I (-1)))]) (.keep [4] .ret)))))
def qde:AF where
 nargs:=0
 ntmps:=2
 res:=[.tmp 0]
 body:=(.seq (.reg [.mv 0 (.c (.n 1))]) (.seq (.reg [.mks 1 1 [(.c (S [112,40,88,41])),(.c (S [113,40,88,41])),(.c (S [114,40,88,44,32,89,41])),(.c (S [97,112,112,40,88,44,32,89,44,32,91,97,44,32,98,93,41])),(.c (S [108,101,110,40,91,97,44,32,98,93,44,32,78,41])),(.c (S [115,40,88,41])),(.c (S [116,40,88,41])),(.c (S [117,40,122,41])),(.c (S [119,40,88,41,44,32,102,97,105,108])),(.c (S [99,40,88,41])),(.c (S [101,40,98,97,108,108,41])),(.c (S [110,40,88,41])),(.c (S [109,40,88,41])),(.c (S [97,100,100,40,101,41,44,32,112,40,88,41])),(.c (S [100,101,108,40,88,41,44,32,112,40,89,41])),(.c (S [108,111,111,112])),(.c (S [118,40,88,41])),(.c (S [100,40,88,44,32,89,41])),(.c (S [103,40,104,40,97,41,44,32,89,41])),(.c (S [103,40,88,44,32,89,41])),(.c (S [107,40,49,41])),(.c (S [121,40,88,41])),(.c (S [88,32,61,32,102,40,88,41])),(.c (S [99,97,116,99,104,40,102,97,105,108,44,32,95,44,32,116,114,117,101,41])),(.c (S [40,112,40,88,41,44,32,33,32,59,32,113,40,88,41,41])),(.c (S [92,43,32,112,40,122,41])),(.c (S [119,114,105,116,101,40,88,41,44,32,88,32,61,32,49])),(.c (S [88])),(.c (S [51])),(.c (S [116,104,114,111,119,40,102,40,88,41,41])),(.c (S [99,97,116,99,104,40,112,40,88,41,44,32,95,44,32,116,114,117,101,41,44,32,116,104,114,111,119,40,120,41])),(.c (S [40,112,40,88,41,32,45,62,32,113,40,89,41,32,59,32,116,114,117,101,41])),(.c (S [99,97,108,108,40,97,112,112,40,91,97,93,41,44,32,88,44,32,89,41])),(.c (S [112,40,88,41,44,32,97,115,115,101,114,116,122,40,40,112,50,40,89,41,32,58,45,32,112,40,89,41,41,41,44,32,112,50,40,90,41])),(.c (S [97,116,111,109,40,88,41])),(.c (S [114,101,116,114,97,99,116,40,40,113,40,88,41,32,58,45,32,112,40,88,41,41,41])),(.c (S [88,32,61,61,32,88,44,32,88,32,92,61,32,97])),(.c (S [112,40,88,41,44,32,88,32,61,61,32,98])),(.c (S [97,112,112,40,88,44,32,91,99,124,89,93,44,32,90,41]))],.mv 0 (.t 1)]) (.keep [0] .ret)))
def qjA:AC:=(.seq (.seq (.reg [.mv 49 (.t 10),.mv 50 (.t 0),.len 51 (.t 50),.bin 52 .lss (.t 49) (.t 51)]) (.keep [0,4,10,52] (.cond (.t 52) .skip (.keep [0,4] (.exit 0))))) (.keep [0,4,10] (.block 1 (.seq (.reg [.mv 53 (.t 10),.bin 54 .add (.t 53) (.c (I 1)),.mv 10 (.t 54)]) (.seq (.reg [.mv 55 (.t 0),.mv 56 (.t 10),.bin 57 .sub (.t 56) (.c (I 1)),.ia 58 5 (.t 55) (.t 57),.fa 59 (.t 58) 0,.ld 60 false 1 (.t 59),.bin 61 .eql (.t 60) (.c (I 5))]) (.keep [0,4,10,61] (.cond (.t 61) (.seq (.reg [.build 62 (.a [(I 0),(S []),(I 0),(.n 4)]) [],.mv 63 (.t 10),.st 4 (.t 4) (.t 62),.mv 5 (.c (.n 1)),.mv 6 (.t 63),.mv 7 (.c (B false))]) (.keep [4,5,6,7] .ret)) .skip)))))))
def qdT:Lp:=⟨[0,4,10],[(2,0)],qjA⟩
@[go_sem] theorem qFZ:qdT.ls=[0,4,10]:=rfl
@[go_sem] theorem qFY:qdT.ks=[(2,0)]:=rfl
@[go_sem] theorem qFX:qdT.body=qjA:=rfl
def qcs:AF where
 nargs:=2
 ntmps:=67
 res:=[.cell 4 true 4,.tmp 5,.tmp 6,.tmp 7]
 body:=(.seq (.reg [.new 4 (.c (.a [(I 0),(S []),(I 0),(.n 4)])),.mv 5 (.c (.n 1)),.mv 6 (.c (I 0)),.mv 7 (.c (B false))]) (.keep [0,1,4] (.seq (.seq (.reg [.mv 11 (.t 1),.mv 12 (.t 0),.len 13 (.t 12),.bin 14 .sub (.t 13) (.c (I 1)),.call (some 15) (.c (Fc Qm)) [(.t 11),(.c (I 0)),(.t 14)] (.ro true)]) (.keep [0,1,4,15] (.cond (.t 15) (.seq (.reg [.mv 16 (.t 0),.mv 17 (.t 1),.build 18 (.a [(.n 5),(I 0),(.n 1),(I 0),(B false)]) [(0,1,(.t 16)),(1,1,(.t 17))],.new 19 (.t 18),.mv 8 (.t 19)]) (.keep [0,1,4,8] (.nam [0,1,4,8] [(2,0)] (.seq (.reg [.mv 20 (.t 8),.call (some 21) (.c (Fc Zb)) [(.t 20),(.c (I 1200))] (.io false),.new 9 (.c (.a [(I 0),(S []),(I 0),(.n 4)])),.st 4 (.t 9) (.t 21)]) (.keep [0,1,4,8,9] (.seq (.reg [.mv 22 (.t 8),.nilc 23 (.t 22),.fa 24 (.t 23) 4,.ld 25 false 1 (.t 24),.un 26 .not (.t 25),.mv 27 (.t 26),.gd 27 true (some 28) (.mv 28 (.t 8)),.gd 27 true (some 29) (.call (some 29) (.c (Fc qau)) [(.t 28),(.c (I 0))] (.ro true)),.gd 27 true (some 30) (.fld 30 false 1 (.t 29) 0),.gd 27 true (some 31) (.bin 31 .eql (.t 30) (.c (I 5))),.pick 32 (.t 27) (.t 31) (.c (B false)),.mv 33 (.t 32),.gd 33 true (some 34) (.ld 34 true 4 (.t 9)),.gd 33 true (some 35) (.call (some 35) (.c (Fc YZ)) [(.t 34)] (.ro true)),.pick 36 (.t 33) (.t 35) (.c (B false))]) (.keep [0,1,4,8,9,36] (.cond (.t 36) (.seq (.opd [(500001,8,none)] (.dreg [⟨0,[(9,0)]⟩,⟨0,[]⟩,⟨0,[]⟩,⟨0,[]⟩,⟨0,[(100000,1)]⟩,⟨0,[]⟩,⟨0,[]⟩,⟨0,[]⟩,⟨0,[(100000,1)]⟩,⟨0,[]⟩,⟨1,[(100000,0)]⟩,⟨0,[]⟩,⟨0,[]⟩,⟨0,[]⟩] [.ldq 37 true 4 (.t 9),.mv 38 (.t 8),.nilc 39 (.t 38),.fa 40 (.t 39) 2,.ldq 41 false 1 (.t 40),.mv 42 (.t 8),.nilc 43 (.t 42),.fa 44 (.t 43) 1,.ldq 45 false 1 (.t 44),.bin 46 .add (.t 45) (.c (I 1)),.st 4 (.t 4) (.t 37),.mv 5 (.t 41),.mv 6 (.t 46),.mv 7 (.c (B true))])) (.keep [4,5,6,7] .ret)) .skip)))))))) .skip))) (.keep [0,1,4] (.seq (.reg [.mv 47 (.t 1),.mx 48 true [(.t 47),(.c (I 0))],.mv 10 (.t 48)]) (.seq (.block 0 (lpC qdT)) (.keep [0,4] (.seq (.reg [.build 64 (.a [(I 0),(S []),(I 0),(.n 4)]) [],.mv 65 (.t 0),.len 66 (.t 65),.st 4 (.t 4) (.t 64),.mv 5 (.c (.n 1)),.mv 6 (.t 66),.mv 7 (.c (B false))]) (.keep [4,5,6,7] .ret)))))))))
def XN:AF where
 nargs:=1
 ntmps:=5
 res:=[.tmp 2]
 body:=(.seq (.reg [.mv 2 (.c (B false))]) (.seq (.reg [.mv 3 (.t 0),.bin 4 .neq (.t 3) (.c (U8 10)),.mv 2 (.t 4)]) (.keep [2] .ret)))
def qbc:AC:=(.seq (.seq (.reg [.mv 52 (.t 10),.mv 53 (.t 8),.bin 54 .lss (.t 52) (.t 53),.mv 55 (.t 54),.gd 55 true (some 56) (.mv 56 (.t 9)),.gd 55 true (some 57) (.bin 57 .leq (.t 56) (.c (I 999999999))),.pick 58 (.t 55) (.t 57) (.c (B false))]) (.keep [0,1,4,7,8,9,10,58] (.cond (.t 58) .skip (.keep [0,1,4,7,8,9] (.exit 1))))) (.keep [0,1,4,7,8,9,10] (.seq (.block 2 (.reg [.mv 61 (.t 9),.bin 62 .mul (.c (I 10)) (.t 61),.mv 63 (.t 0),.mv 64 (.t 10),.ix 65 (.t 63) (.t 64),.bin 66 .sub (.t 65) (.c (U8 48)),.int 67 .i64 (.t 66),.bin 68 .add (.t 62) (.t 67),.mv 9 (.t 68)])) (.keep [0,1,4,7,8,9,10] (.reg [.mv 59 (.t 10),.bin 60 .add (.t 59) (.c (I 1)),.mv 10 (.t 60)])))))
def qaN:Lp:=⟨[0,1,4,7,8,9,10],[(2,0)],qbc⟩
@[go_sem] theorem qGe:qaN.ls=[0,1,4,7,8,9,10]:=rfl
@[go_sem] theorem qGd:qaN.ks=[(2,0)]:=rfl
@[go_sem] theorem qGc:qaN.body=qbc:=rfl
def yl:AF where
 nargs:=2
 ntmps:=160
 res:=[.cell 4 true 5,.tmp 5]
 body:=(.seq (.reg [.new 4 (.c (.a [(I 0),(S []),(I 0),(I 0),(B false)])),.mv 5 (.c (I 0))]) (.seq (.reg [.mv 12 (.t 0),.mv 13 (.t 1),.ix 14 (.t 12) (.t 13),.mv 6 (.t 14)]) (.keep [0,1,4,6] (.seq (.reg [.mv 15 (.t 1),.build 16 (.a [(I 0),(S []),(I 0),(I 0),(B false)]) [(3,1,(.t 15))],.new 7 (.c (.a [(I 0),(S []),(I 0),(I 0),(B false)])),.st 5 (.t 7) (.t 16)]) (.keep [0,1,4,6,7] (.seq (.reg [.mv 17 (.t 1),.bin 18 .add (.t 17) (.c (I 1)),.mv 8 (.t 18)]) (.seq (.block 0 (.seq (.reg [.mv 20 (.t 0),.mv 21 (.t 1),.call (some 22) (.c (Fc qfU)) [(.t 20),(.t 21)] (.ro true),.mv 19 (.t 22)]) (.keep [0,1,4,6,7,8,19] (.cond (.t 19) (.seq (.reg [.fa 23 (.t 7) 0,.st 1 (.t 23) (.c (I 5)),.fa 24 (.t 7) 1,.st 1 (.t 24) (.c (S [46]))]) (.keep [4,7,8] (.seq (.reg [.ld 25 true 5 (.t 7),.mv 26 (.t 8),.st 5 (.t 4) (.t 25),.mv 5 (.t 26)]) (.keep [4,5] .ret)))) (.seq (.reg [.mv 28 (.t 6),.call (some 29) (.c (Fc qas)) [(.t 28)] (.ro true),.mv 30 (.t 29),.gd 30 false (some 31) (.mv 31 (.t 6)),.gd 30 false (some 32) (.call (some 32) (.c (Fc qdy)) [(.t 31)] (.ro true)),.pick 33 (.t 30) (.c (B true)) (.t 32),.mv 34 (.t 33),.gd 34 false (some 35) (.mv 35 (.t 6)),.gd 34 false (some 36) (.bin 36 .eql (.t 35) (.c (U8 95))),.pick 37 (.t 34) (.c (B true)) (.t 36),.mv 27 (.t 37)]) (.keep [0,1,4,6,7,8,27] (.cond (.t 27) (.seq (.reg [.mv 38 (.t 0),.mv 39 (.t 1),.call (some 40) (.c (Fc Y1)) [(.t 38),(.t 39),(.c (Fc qdz))] (.ro false),.mv 8 (.t 40)]) (.keep [0,1,4,6,7,8] (.seq (.reg [.fa 41 (.t 7) 0,.st 1 (.t 41) (.c (I 2))]) (.seq (.reg [.mv 42 (.t 6),.call (some 43) (.c (Fc qas)) [(.t 42)] (.ro true)]) (.cond (.t 43) (.reg [.fa 44 (.t 7) 0,.st 1 (.t 44) (.c (I 1))]) .skip))))) (.seq (.reg [.mv 46 (.t 6),.call (some 47) (.c (Fc KH)) [(.t 46)] (.ro true),.mv 45 (.t 47)]) (.cond (.t 45) (.seq (.reg [.mv 48 (.t 0),.mv 49 (.t 1),.call (some 50) (.c (Fc Y1)) [(.t 48),(.t 49),(.c (Fc KH))] (.ro false),.mv 8 (.t 50)]) (.keep [0,1,4,7,8] (.seq (.reg [.mv 9 (.c (I 0))]) (.seq (.seq (.reg [.mv 51 (.t 1),.mv 10 (.t 51)]) (.block 1 (lpC qaN))) (.keep [0,1,4,7,8,9] (.seq (.reg [.mv 69 (.t 9),.bin 70 .leq (.t 69) (.c (I 999999999))]) (.cond (.t 70) (.seq (.reg [.mv 71 (.t 9),.fa 72 (.t 7) 0,.st 1 (.t 72) (.c (I 3)),.fa 73 (.t 7) 2,.st 1 (.t 73) (.t 71)]) (.keep [4,7,8] (.seq (.reg [.ld 74 true 5 (.t 7),.mv 75 (.t 8),.st 5 (.t 4) (.t 74),.mv 5 (.t 75)]) (.keep [4,5] .ret)))) .skip))))))) (.seq (.reg [.mv 77 (.t 6),.call (some 78) (.c (Fc KG)) [(.t 77)] (.ro true),.mv 76 (.t 78)]) (.cond (.t 76) (.seq (.reg [.mv 79 (.t 0),.mv 80 (.t 1),.call (some 81) (.c (Fc Y1)) [(.t 79),(.t 80),(.c (Fc KG))] (.ro false),.mv 8 (.t 81)]) (.keep [0,1,4,7,8] (.reg [.fa 82 (.t 7) 0,.st 1 (.t 82) (.c (I 1))]))) (.seq (.reg [.mv 84 (.t 6),.bin 85 .eql (.t 84) (.c (U8 33)),.mv 86 (.t 85),.gd 86 false (some 87) (.mv 87 (.t 6)),.gd 86 false (some 88) (.bin 88 .eql (.t 87) (.c (U8 59))),.pick 89 (.t 86) (.c (B true)) (.t 88),.mv 83 (.t 89)]) (.keep [0,1,4,6,7,8,83] (.cond (.t 83) (.reg [.fa 90 (.t 7) 0,.st 1 (.t 90) (.c (I 1))]) (.seq (.reg [.mv 92 (.t 6),.call (some 93) (.c (Fc qaJ)) [(.c (S [40,41,91,93,44,124])),(.t 92)] (.ro true),.bin 94 .geq (.t 93) (.c (I 0)),.mv 91 (.t 94)]) (.keep [0,1,4,6,7,8,91] (.cond (.t 91) (.reg [.fa 95 (.t 7) 0,.st 1 (.t 95) (.c (I 4))]) (.seq (.reg [.mv 97 (.t 6),.bin 98 .eql (.t 97) (.c (U8 39)),.mv 96 (.t 98)]) (.cond (.t 96) (.seq (.reg [.mv 99 (.t 0),.mv 100 (.t 1),.bin 101 .add (.t 100) (.c (I 1)),.call (some 102) (.c (Fc Y1)) [(.t 99),(.t 101),(.c (Fc qdt))] (.ro false),.mv 11 (.t 102)]) (.keep [0,1,4,7,8,11] (.seq (.reg [.mv 103 (.t 11),.mv 104 (.t 0),.slen 105 (.t 104),.bin 106 .lss (.t 103) (.t 105),.mv 107 (.t 106),.gd 107 true (some 108) (.mv 108 (.t 0)),.gd 107 true (some 109) (.mv 109 (.t 11)),.gd 107 true (some 110) (.ix 110 (.t 108) (.t 109)),.gd 107 true (some 111) (.bin 111 .eql (.t 110) (.c (U8 39))),.pick 112 (.t 107) (.t 111) (.c (B false)),.mv 113 (.t 112),.gd 113 true (some 114) (.mv 114 (.t 11)),.gd 113 true (some 115) (.mv 115 (.t 1)),.gd 113 true (some 116) (.bin 116 .sub (.t 114) (.t 115)),.gd 113 true (some 117) (.bin 117 .sub (.t 116) (.c (I 1))),.gd 113 true (some 118) (.call (some 118) (.c (Fc Qm)) [(.t 117),(.c (I 1)),(.c (I 20))] (.ro true)),.pick 119 (.t 113) (.t 118) (.c (B false))]) (.keep [0,1,4,7,8,11,119] (.cond (.t 119) (.seq (.dreg [⟨0,[]⟩,⟨0,[]⟩,⟨0,[]⟩,⟨0,[]⟩,⟨0,[]⟩,⟨0,[]⟩,⟨1,[(7,0)]⟩,⟨0,[]⟩,⟨1,[(7,0)]⟩] [.mv 120 (.t 0),.mv 121 (.t 1),.bin 122 .add (.t 121) (.c (I 1)),.mv 123 (.t 11),.ssl 124 (.t 120) (some (.t 122)) (some (.t 123)),.fa 125 (.t 7) 0,.st 1 (.t 125) (.c (I 1)),.fa 126 (.t 7) 1,.st 1 (.t 126) (.t 124)]) (.keep [4,7,11] (.seq (.reg [.ld 127 true 5 (.t 7),.mv 128 (.t 11),.bin 129 .add (.t 128) (.c (I 1)),.st 5 (.t 4) (.t 127),.mv 5 (.t 129)]) (.keep [4,5] .ret)))) .skip))))) .skip))))))))))))))))))) (.keep [0,1,4,7,8] (.seq (.reg [.mv 130 (.t 0),.mv 131 (.t 1),.mv 132 (.t 8),.ssl 133 (.t 130) (some (.t 131)) (some (.t 132)),.fa 134 (.t 7) 1,.st 1 (.t 134) (.t 133)]) (.keep [0,1,4,7,8] (.seq (.seq (.reg [.fa 135 (.t 7) 0,.ld 136 false 1 (.t 135),.bin 137 .eql (.t 136) (.c (I 0)),.mv 138 (.t 137),.gd 138 false (some 139) (.fa 139 (.t 7) 0),.gd 138 false (some 140) (.ld 140 false 1 (.t 139)),.gd 138 false (some 141) (.bin 141 .neq (.t 140) (.c (I 4))),.gd 138 false (some 142) (.mv 142 (.t 141)),.gd 142 true (some 143) (.fa 143 (.t 7) 1),.gd 142 true (some 144) (.ld 144 false 1 (.t 143)),.gd 142 true (some 145) (.slen 145 (.t 144)),.gd 142 true (some 146) (.bin 146 .gtr (.t 145) (.c (I 20))),.gd 138 false (some 147) (.pick 147 (.t 142) (.t 146) (.c (B false))),.pick 148 (.t 138) (.c (B true)) (.t 147)]) (.keep [0,1,4,7,8,148] (.cond (.t 148) (.seq (.dreg [⟨0,[]⟩,⟨0,[]⟩,⟨0,[]⟩,⟨0,[]⟩,⟨0,[]⟩,⟨0,[]⟩,⟨1,[(7,0),(100000,0),(100000,1),(100000,2),(100000,3),(100000,4),(100000,5)]⟩,⟨0,[]⟩,⟨1,[(7,0),(100000,0),(100000,1),(100000,2),(100000,3),(100000,4),(100000,5)]⟩] [.mv 149 (.t 0),.mv 150 (.t 1),.mv 151 (.t 1),.bin 152 .add (.t 151) (.c (I 1)),.ssl 153 (.t 149) (some (.t 150)) (some (.t 152)),.fa 154 (.t 7) 0,.st 1 (.t 154) (.c (I 6)),.fa 155 (.t 7) 1,.st 1 (.t 155) (.t 153)]) (.keep [1,4,7] (.reg [.mv 156 (.t 1),.bin 157 .add (.t 156) (.c (I 1)),.mv 8 (.t 157)]))) .skip))) (.keep [4,7,8] (.seq (.reg [.ld 158 true 5 (.t 7),.mv 159 (.t 8),.st 5 (.t 4) (.t 158),.mv 5 (.t 159)]) (.keep [4,5] .ret))))))))))))))
def Y8:AC:=(.seq (.seq (.reg [.mv 9 (.t 0),.nilc 10 (.t 9),.fa 11 (.t 10) 2,.ld 12 false 1 (.t 11),.un 13 .not (.t 12)]) (.keep [0,4,5,13] (.cond (.t 13) .skip (.keep [0,4,5] (.exit 0))))) (.keep [0,4,5] (.block 1 (.seq (.reg [.mv 14 (.t 0),.call (some 15) (.c (Fc z6)) [(.t 14),(.c (I 999))] (.io false),.new 6 (.c (.a [(I 0),(S []),(I 0),(.n 4)])),.st 4 (.t 6) (.t 15)]) (.keep [0,4,5,6] (.seq (.seq (.reg [.fa 16 (.t 5) 3,.ld 17 false 1 (.t 16),.len 18 (.t 17),.bin 19 .geq (.t 18) (.c (I 5))]) (.keep [0,4,5,6,19] (.cond (.t 19) (.seq (.reg [.mv 20 (.t 0),.nilc 21 (.t 20),.fa 22 (.t 21) 2,.st 1 (.t 22) (.c (B true))]) (.keep [0,4,5] (.exit 0))) .skip))) (.keep [0,4,5,6] (.seq (.reg [.fa 23 (.t 5) 3,.ld 24 false 1 (.t 23),.ld 25 true 4 (.t 6),.mks 26 4 [(.t 25)],.app 27 4 56 (.t 24) (.t 26),.fa 28 (.t 5) 3,.st 1 (.t 28) (.t 27)]) (.keep [0,4,5] (.seq (.seq (.reg [.mv 29 (.t 0),.call (some 30) (.c (Fc Qp)) [(.t 29),(.c (S [41]))] (.io true)]) (.cond (.t 30) (.keep [0,4,5] (.exit 0)) .skip)) (.keep [0,4,5] (.reg [.mv 31 (.t 0),.call (some 32) (.c (Fc jM)) [(.t 31),(.c (S [44]))] (.io true)]))))))))))))
def xX:Lp:=⟨[0,4,5],[(2,0)],Y8⟩
@[go_sem] theorem qIj:xX.ls=[0,4,5]:=rfl
@[go_sem] theorem qIi:xX.ks=[(2,0)]:=rfl
@[go_sem] theorem qIh:xX.body=Y8:=rfl
def ZO:AF where
 nargs:=2
 ntmps:=34
 res:=[.cell 4 true 4]
 body:=(.seq (.reg [.new 4 (.c (.a [(I 0),(S []),(I 0),(.n 4)]))]) (.seq (.reg [.mv 7 (.t 1),.build 8 (.a [(I 0),(S []),(I 0),(.n 4)]) [(0,1,(.c (I 4))),(1,1,(.t 7))],.new 5 (.c (.a [(I 0),(S []),(I 0),(.n 4)])),.st 4 (.t 5) (.t 8)]) (.keep [0,4,5] (.seq (.block 0 (lpC xX)) (.keep [0,4,5] (.seq (.reg [.ld 33 true 4 (.t 5),.st 4 (.t 4) (.t 33)]) (.keep [0,4] .ret)))))))
def ZN:AF where
 nargs:=1
 ntmps:=56
 res:=[.tmp 2]
 body:=(.seq (.reg [.mv 2 (.c (B false))]) (.seq (.dreg [⟨0,[]⟩,⟨0,[]⟩,⟨0,[]⟩,⟨0,[(0,0),(0,1),(0,2),(0,3)]⟩,⟨0,[]⟩,⟨0,[]⟩,⟨0,[]⟩,⟨0,[]⟩,⟨0,[(0,0),(0,1),(0,2),(0,3)]⟩,⟨0,[(0,0),(0,1),(0,2),(0,3),(11,0)]⟩,⟨0,[]⟩,⟨0,[]⟩,⟨0,[]⟩,⟨0,[]⟩,⟨0,[]⟩,⟨0,[(0,0),(0,1),(0,2),(0,3)]⟩,⟨0,[]⟩,⟨0,[]⟩,⟨0,[]⟩,⟨0,[(0,0),(0,1),(0,2),(0,3)]⟩,⟨0,[]⟩,⟨0,[(0,0),(0,1),(0,2),(0,3),(18,0),(22,0)]⟩,⟨0,[]⟩,⟨0,[(0,0),(0,1),(0,2),(0,3),(18,0),(22,0)]⟩,⟨0,[]⟩,⟨0,[]⟩,⟨0,[]⟩,⟨0,[]⟩,⟨0,[]⟩,⟨0,[]⟩,⟨0,[(0,0),(0,1),(0,2),(0,3)]⟩,⟨0,[]⟩,⟨0,[]⟩,⟨0,[]⟩,⟨0,[(0,0),(0,1),(0,2),(0,3)]⟩,⟨0,[]⟩,⟨0,[(0,0),(0,1),(0,2),(0,3),(33,0),(37,0)]⟩,⟨0,[]⟩,⟨0,[(0,0),(0,1),(0,2),(0,3),(33,0),(37,0)]⟩,⟨0,[]⟩,⟨0,[]⟩,⟨0,[]⟩,⟨0,[(0,0),(0,1),(0,2),(0,3)]⟩,⟨0,[]⟩,⟨0,[]⟩,⟨0,[]⟩,⟨0,[(0,0),(0,1),(0,2),(0,3)]⟩,⟨0,[(0,0),(0,1),(0,2),(0,3),(45,0),(49,0)]⟩,⟨0,[]⟩,⟨0,[(0,0),(0,1),(0,2),(0,3),(45,0),(49,0)]⟩,⟨0,[]⟩,⟨0,[]⟩,⟨0,[]⟩,⟨0,[]⟩] [.mv 3 (.t 0),.nilc 4 (.t 3),.fa 5 (.t 4) 1,.ldq 6 false 1 (.t 5),.bin 7 .add (.t 6) (.c (I 1)),.mv 8 (.t 0),.nilc 9 (.t 8),.fa 10 (.t 9) 0,.ldq 11 false 1 (.t 10),.len 12 (.t 11),.bin 13 .lss (.t 7) (.t 12),.mv 14 (.t 13),.gd 14 true (some 15) (.mv 15 (.t 0)),.gd 14 true (some 16) (.nilc 16 (.t 15)),.gd 14 true (some 17) (.fa 17 (.t 16) 0),.gd 14 true (some 18) (.ldq 18 false 1 (.t 17)),.gd 14 true (some 19) (.mv 19 (.t 0)),.gd 14 true (some 20) (.nilc 20 (.t 19)),.gd 14 true (some 21) (.fa 21 (.t 20) 1),.gd 14 true (some 22) (.ldq 22 false 1 (.t 21)),.gd 14 true (some 23) (.bin 23 .add (.t 22) (.c (I 1))),.gd 14 true (some 24) (.ia 24 5 (.t 18) (.t 23)),.gd 14 true (some 25) (.fa 25 (.t 24) 0),.gd 14 true (some 26) (.ldq 26 false 1 (.t 25)),.gd 14 true (some 27) (.bin 27 .eql (.t 26) (.c (I 3))),.pick 28 (.t 14) (.t 27) (.c (B false)),.mv 29 (.t 28),.gd 29 true (some 30) (.mv 30 (.t 0)),.gd 29 true (some 31) (.nilc 31 (.t 30)),.gd 29 true (some 32) (.fa 32 (.t 31) 0),.gd 29 true (some 33) (.ldq 33 false 1 (.t 32)),.gd 29 true (some 34) (.mv 34 (.t 0)),.gd 29 true (some 35) (.nilc 35 (.t 34)),.gd 29 true (some 36) (.fa 36 (.t 35) 1),.gd 29 true (some 37) (.ldq 37 false 1 (.t 36)),.gd 29 true (some 38) (.bin 38 .add (.t 37) (.c (I 1))),.gd 29 true (some 39) (.ia 39 5 (.t 33) (.t 38)),.gd 29 true (some 40) (.fa 40 (.t 39) 3),.gd 29 true (some 41) (.ldq 41 false 1 (.t 40)),.gd 29 true (some 42) (.mv 42 (.t 0)),.gd 29 true (some 43) (.nilc 43 (.t 42)),.gd 29 true (some 44) (.fa 44 (.t 43) 0),.gd 29 true (some 45) (.ldq 45 false 1 (.t 44)),.gd 29 true (some 46) (.mv 46 (.t 0)),.gd 29 true (some 47) (.nilc 47 (.t 46)),.gd 29 true (some 48) (.fa 48 (.t 47) 1),.gd 29 true (some 49) (.ldq 49 false 1 (.t 48)),.gd 29 true (some 50) (.ia 50 5 (.t 45) (.t 49)),.gd 29 true (some 51) (.fa 51 (.t 50) 3),.gd 29 true (some 52) (.ldq 52 false 1 (.t 51)),.gd 29 true (some 53) (.bin 53 .add (.t 52) (.c (I 1))),.gd 29 true (some 54) (.bin 54 .eql (.t 41) (.t 53)),.pick 55 (.t 29) (.t 54) (.c (B false)),.mv 2 (.t 55)]) (.keep [2] .ret)))
def YU:AF where
 nargs:=2
 ntmps:=11
 res:=[]
 body:=(.seq (.reg [.mv 4 (.t 0),.mv 5 (.t 1),.call (some 6) (.c (Fc Qp)) [(.t 4),(.t 5)] (.io true),.un 7 .not (.t 6)]) (.keep [0,7] (.cond (.t 7) (.reg [.mv 8 (.t 0),.nilc 9 (.t 8),.fa 10 (.t 9) 2,.st 1 (.t 10) (.c (B true))]) .skip)))
def qjE:AC:=(.seq (.seq (.reg [.mv 38 (.t 0),.nilc 39 (.t 38),.fa 40 (.t 39) 4,.ld 41 false 1 (.t 40),.un 42 .not (.t 41)]) (.keep [0,1,4,5,6,42] (.cond (.t 42) .skip (.keep [0,4,5] (.exit 0))))) (.keep [0,1,4,5,6] (.block 1 (.seq (.reg [.mv 43 (.t 0),.call (some 44) (.c (Fc qau)) [(.t 43),(.c (I 0))] (.ro false),.new 7 (.c (.a [(I 0),(S []),(I 0),(I 0),(B false)])),.st 5 (.t 7) (.t 44)]) (.keep [0,1,4,5,6,7] (.seq (.reg [.fa 46 (.t 7) 1,.ld 47 false 1 (.t 46),.call (some 48) (.c (Fc ZS)) [(.t 47)] (.ro false),.mv 45 (.t 48),.ext 49 (.t 45) 0,.ext 50 (.t 45) 1,.new 8 (.c (.a [(S []),(I 0),(I 0),(I 0)])),.st 4 (.t 8) (.t 49),.mv 9 (.t 50)]) (.keep [0,1,4,5,6,7,8,9] (.seq (.seq (.reg [.mv 51 (.t 9),.un 52 .not (.t 51),.mv 53 (.t 52),.gd 53 false (some 54) (.fa 54 (.t 7) 0),.gd 53 false (some 55) (.ld 55 false 1 (.t 54)),.gd 53 false (some 56) (.bin 56 .neq (.t 55) (.c (I 4))),.gd 53 false (some 57) (.mv 57 (.t 56)),.gd 57 true (some 58) (.fa 58 (.t 7) 0),.gd 57 true (some 59) (.ld 59 false 1 (.t 58)),.gd 57 true (some 60) (.bin 60 .neq (.t 59) (.c (I 1))),.gd 57 true (some 61) (.mv 61 (.t 60)),.gd 61 false (some 62) (.fa 62 (.t 7) 4),.gd 61 false (some 63) (.ld 63 false 1 (.t 62)),.gd 57 true (some 64) (.pick 64 (.t 61) (.c (B true)) (.t 63)),.gd 53 false (some 65) (.pick 65 (.t 57) (.t 64) (.c (B false))),.pick 66 (.t 53) (.c (B true)) (.t 65),.mv 67 (.t 66),.gd 67 false (some 68) (.fa 68 (.t 8) 1),.gd 67 false (some 69) (.ld 69 false 1 (.t 68)),.gd 67 false (some 70) (.mv 70 (.t 1)),.gd 67 false (some 71) (.bin 71 .gtr (.t 69) (.t 70)),.pick 72 (.t 67) (.c (B true)) (.t 71),.mv 73 (.t 72),.gd 73 false (some 74) (.fa 74 (.t 8) 2),.gd 73 false (some 75) (.ld 75 false 1 (.t 74)),.gd 73 false (some 76) (.mv 76 (.t 6)),.gd 73 false (some 77) (.bin 77 .lss (.t 75) (.t 76)),.pick 78 (.t 73) (.c (B true)) (.t 77)]) (.keep [0,1,4,5,8,78] (.cond (.t 78) (.keep [0,4,5] (.exit 0)) .skip))) (.keep [0,1,4,5,8] (.seq (.reg [.mv 79 (.t 0),.nilc 80 (.t 79),.fa 81 (.t 80) 1,.ld 82 false 1 (.t 81),.bin 83 .add (.t 82) (.c (I 1)),.nilc 84 (.t 79),.fa 85 (.t 84) 1,.st 1 (.t 85) (.t 83)]) (.keep [0,1,4,5,8] (.seq (.dreg [⟨0,[]⟩,⟨0,[(8,0)]⟩,⟨0,[(100000,1)]⟩,⟨0,[]⟩,⟨0,[]⟩,⟨0,[(8,0)]⟩,⟨1,[(0,0),(100000,2),(91,0),(100000,3)]⟩,⟨1,[]⟩,⟨1,[(93,0),(100000,3),(92,0),(92,1),(92,2),(92,3)]⟩,⟨1,[(100000,1)]⟩] [.fa 86 (.t 8) 0,.ldq 87 false 1 (.t 86),.ldq 88 true 4 (.t 5),.mv 89 (.t 0),.fa 90 (.t 8) 3,.ldq 91 false 1 (.t 90),.call (some 92) (.c (Fc Zb)) [(.t 89),(.t 91)] (.io false),.mks 93 4 [(.t 88),(.t 92)],.call (some 94) (.c (Fc Y2)) [(.t 87),(.t 93)] (.io false),.st 4 (.t 5) (.t 94)]) (.keep [0,1,4,5,8] (.reg [.fa 95 (.t 8) 1,.ld 96 false 1 (.t 95),.mv 6 (.t 96)]))))))))))))))
def KO:Lp:=⟨[0,1,4,5,6],[(2,0)],qjE⟩
@[go_sem] theorem qGk:KO.ls=[0,1,4,5,6]:=rfl
@[go_sem] theorem qGj:KO.ks=[(2,0)]:=rfl
@[go_sem] theorem qGi:KO.body=qjE:=rfl
def qcH:AF where
 nargs:=2
 ntmps:=105
 res:=[.cell 4 true 4]
 body:=(.seq (.reg [.new 4 (.c (.a [(I 0),(S []),(I 0),(.n 4)]))]) (.seq (.seq (.reg [.mv 10 (.t 0),.nilc 11 (.t 10),.fa 12 (.t 11) 3,.ld 13 false 1 (.t 12),.bin 14 .eql (.t 13) (.c (I 130)),.mv 15 (.t 14),.gd 15 false (some 16) (.mv 16 (.t 0)),.gd 15 false (some 17) (.nilc 17 (.t 16)),.gd 15 false (some 18) (.fa 18 (.t 17) 4),.gd 15 false (some 19) (.ld 19 false 1 (.t 18)),.pick 20 (.t 15) (.c (B true)) (.t 19)]) (.keep [0,1,4,20] (.cond (.t 20) (.seq (.reg [.mv 21 (.t 0),.nilc 22 (.t 21),.fa 23 (.t 22) 4,.st 1 (.t 23) (.c (B true))]) (.keep [0,4] (.seq (.reg [.build 24 (.a [(I 0),(S []),(I 0),(.n 4)]) [],.st 4 (.t 4) (.t 24)]) (.keep [0,4] .ret)))) .skip))) (.keep [0,1,4] (.seq (.reg [.mv 25 (.t 0),.nilc 26 (.t 25),.fa 27 (.t 26) 3,.ld 28 false 1 (.t 27),.bin 29 .add (.t 28) (.c (I 1)),.nilc 30 (.t 25),.fa 31 (.t 30) 3,.st 1 (.t 31) (.t 29)]) (.keep [0,1,4] (.seq (.reg [.mv 33 (.t 0),.mv 34 (.t 1),.call (some 35) (.c (Fc qfX)) [(.t 33),(.t 34)] (.io false),.mv 32 (.t 35),.ext 36 (.t 32) 0,.ext 37 (.t 32) 1,.new 5 (.c (.a [(I 0),(S []),(I 0),(.n 4)])),.st 4 (.t 5) (.t 36),.mv 6 (.t 37)]) (.keep [0,1,4,5,6] (.seq (.block 0 (lpC KO)) (.keep [0,4,5] (.seq (.reg [.mv 97 (.t 0),.nilc 98 (.t 97),.fa 99 (.t 98) 3,.ld 100 false 1 (.t 99),.bin 101 .sub (.t 100) (.c (I 1)),.nilc 102 (.t 97),.fa 103 (.t 102) 3,.st 1 (.t 103) (.t 101)]) (.keep [0,4,5] (.seq (.reg [.ld 104 true 4 (.t 5),.st 4 (.t 4) (.t 104)]) (.keep [0,4] .ret)))))))))))))
def qcG:AF where
 nargs:=2
 ntmps:=30
 res:=[.cell 4 true 5]
 body:=(.seq (.reg [.new 4 (.c (.a [(I 0),(S []),(I 0),(I 0),(B false)]))]) (.seq (.seq (.dreg [⟨0,[]⟩,⟨0,[]⟩,⟨0,[]⟩,⟨0,[(0,0),(0,1),(0,2),(0,3)]⟩,⟨0,[]⟩,⟨0,[]⟩,⟨0,[]⟩,⟨0,[]⟩,⟨0,[]⟩,⟨0,[(0,0),(0,1),(0,2),(0,3)]⟩,⟨0,[(0,0),(0,1),(0,2),(0,3),(14,0)]⟩,⟨0,[]⟩] [.mv 5 (.t 0),.nilc 6 (.t 5),.fa 7 (.t 6) 1,.ldq 8 false 1 (.t 7),.mv 9 (.t 1),.bin 10 .add (.t 8) (.t 9),.mv 11 (.t 0),.nilc 12 (.t 11),.fa 13 (.t 12) 0,.ldq 14 false 1 (.t 13),.len 15 (.t 14),.bin 16 .geq (.t 10) (.t 15)]) (.keep [0,1,4,16] (.cond (.t 16) (.seq (.reg [.build 17 (.a [(I 0),(S []),(I 0),(I 0),(B false)]) [],.st 5 (.t 4) (.t 17)]) (.keep [4] .ret)) .skip))) (.keep [0,1,4] (.seq (.dreg [⟨0,[]⟩,⟨0,[]⟩,⟨0,[]⟩,⟨0,[(0,0),(0,1),(0,2),(0,3)]⟩,⟨0,[]⟩,⟨0,[]⟩,⟨0,[]⟩,⟨0,[(0,0),(0,1),(0,2),(0,3)]⟩,⟨0,[]⟩,⟨0,[]⟩,⟨0,[(0,0),(0,1),(0,2),(0,3),(1,0),(1,1),(1,2),(1,3),(21,0),(25,0)]⟩,⟨0,[(0,0),(0,1),(0,2),(0,3),(1,0),(1,1),(1,2),(1,3),(21,0),(25,0)]⟩,⟨1,[(4,0)]⟩] [.mv 18 (.t 0),.nilc 19 (.t 18),.fa 20 (.t 19) 0,.ldq 21 false 1 (.t 20),.mv 22 (.t 0),.nilc 23 (.t 22),.fa 24 (.t 23) 1,.ldq 25 false 1 (.t 24),.mv 26 (.t 1),.bin 27 .add (.t 25) (.t 26),.ia 28 5 (.t 21) (.t 27),.ldq 29 true 5 (.t 28),.st 5 (.t 4) (.t 29)]) (.keep [4] .ret)))))
def jF:AF where
 nargs:=2
 ntmps:=33
 res:=[.tmp 4]
 body:=(.seq (.reg [.mv 4 (.c (B false))]) (.seq (.seq (.reg [.mv 5 (.t 0),.mv 6 (.t 1),.ix 7 (.t 5) (.t 6),.bin 8 .neq (.t 7) (.c (U8 46)),.mv 9 (.t 8),.gd 9 false (some 10) (.mv 10 (.t 1)),.gd 9 false (some 11) (.bin 11 .gtr (.t 10) (.c (I 0))),.gd 9 false (some 12) (.mv 12 (.t 11)),.gd 12 true (some 13) (.mv 13 (.t 0)),.gd 12 true (some 14) (.mv 14 (.t 1)),.gd 12 true (some 15) (.bin 15 .sub (.t 14) (.c (I 1))),.gd 12 true (some 16) (.ix 16 (.t 13) (.t 15)),.gd 12 true (some 17) (.call (some 17) (.c (Fc KG)) [(.t 16)] (.ro true)),.gd 9 false (some 18) (.pick 18 (.t 12) (.t 17) (.c (B false))),.pick 19 (.t 9) (.c (B true)) (.t 18)]) (.keep [0,1,19] (.cond (.t 19) (.seq (.reg [.mv 4 (.c (B false))]) (.keep [4] .ret)) .skip))) (.keep [0,1] (.seq (.reg [.mv 20 (.t 1),.bin 21 .add (.t 20) (.c (I 1)),.mv 22 (.t 0),.slen 23 (.t 22),.bin 24 .eql (.t 21) (.t 23),.mv 25 (.t 24),.gd 25 false (some 26) (.mv 26 (.t 0)),.gd 25 false (some 27) (.mv 27 (.t 1)),.gd 25 false (some 28) (.bin 28 .add (.t 27) (.c (I 1))),.gd 25 false (some 29) (.ix 29 (.t 26) (.t 28)),.gd 25 false (some 30) (.call (some 30) (.c (Fc qaJ)) [(.c (S [32,9,10,37])),(.t 29)] (.ro false)),.gd 25 false (some 31) (.bin 31 .geq (.t 30) (.c (I 0))),.pick 32 (.t 25) (.c (B true)) (.t 31),.mv 4 (.t 32)]) (.keep [4] .ret)))))
def ZF:AF where
 nargs:=1
 ntmps:=9
 res:=[.tmp 2]
 body:=(.seq (.reg [.mv 2 (.c (B false))]) (.seq (.reg [.mv 3 (.t 0),.bin 4 .geq (.t 3) (.c (U8 65)),.mv 5 (.t 4),.gd 5 true (some 6) (.mv 6 (.t 0)),.gd 5 true (some 7) (.bin 7 .leq (.t 6) (.c (U8 90))),.pick 8 (.t 5) (.t 7) (.c (B false)),.mv 2 (.t 8)]) (.keep [2] .ret)))
def X1:AF where
 nargs:=1
 ntmps:=17
 res:=[.tmp 2]
 body:=(.seq (.reg [.mv 2 (.c (B false))]) (.seq (.reg [.mv 3 (.t 0),.call (some 4) (.c (Fc qas)) [(.t 3)] (.ro false),.mv 5 (.t 4),.gd 5 false (some 6) (.mv 6 (.t 0)),.gd 5 false (some 7) (.call (some 7) (.c (Fc qdy)) [(.t 6)] (.ro false)),.pick 8 (.t 5) (.c (B true)) (.t 7),.mv 9 (.t 8),.gd 9 false (some 10) (.mv 10 (.t 0)),.gd 9 false (some 11) (.call (some 11) (.c (Fc KH)) [(.t 10)] (.ro false)),.pick 12 (.t 9) (.c (B true)) (.t 11),.mv 13 (.t 12),.gd 13 false (some 14) (.mv 14 (.t 0)),.gd 13 false (some 15) (.bin 15 .eql (.t 14) (.c (U8 95))),.pick 16 (.t 13) (.c (B true)) (.t 15),.mv 2 (.t 16)]) (.keep [2] .ret)))
def ZD:AF where
 nargs:=1
 ntmps:=9
 res:=[.tmp 2]
 body:=(.seq (.reg [.mv 2 (.c (B false))]) (.seq (.reg [.mv 3 (.t 0),.bin 4 .geq (.t 3) (.c (U8 48)),.mv 5 (.t 4),.gd 5 true (some 6) (.mv 6 (.t 0)),.gd 5 true (some 7) (.bin 7 .leq (.t 6) (.c (U8 57))),.pick 8 (.t 5) (.t 7) (.c (B false)),.mv 2 (.t 8)]) (.keep [2] .ret)))
def XO:AF where
 nargs:=1
 ntmps:=6
 res:=[.tmp 2]
 body:=(.seq (.reg [.mv 2 (.c (B false))]) (.seq (.reg [.mv 3 (.t 0),.call (some 4) (.c (Fc qaJ)) [(.c (S [43,45,42,47,92,94,60,62,61,126,58,46,63,64,35,38,36])),(.t 3)] (.ro false),.bin 5 .geq (.t 4) (.c (I 0)),.mv 2 (.t 5)]) (.keep [2] .ret)))
def Qc:AF where
 nargs:=1
 ntmps:=14
 res:=[.tmp 2]
 body:=(.seq (.reg [.mv 2 (.c (B false))]) (.seq (.reg [.mv 3 (.t 0),.int 4 .i64 (.t 3),.call (some 5) (.c (Fc Qm)) [(.t 4),(.c (I 33)),(.c (I 126))] (.ro false),.mv 6 (.t 5),.gd 6 true (some 7) (.mv 7 (.t 0)),.gd 6 true (some 8) (.bin 8 .neq (.t 7) (.c (U8 39))),.pick 9 (.t 6) (.t 8) (.c (B false)),.mv 10 (.t 9),.gd 10 true (some 11) (.mv 11 (.t 0)),.gd 10 true (some 12) (.bin 12 .neq (.t 11) (.c (U8 34))),.pick 13 (.t 10) (.t 12) (.c (B false)),.mv 2 (.t 13)]) (.keep [2] .ret)))
def qcF:AF where
 nargs:=2
 ntmps:=221
 res:=[.cell 4 true 4,.tmp 5]
 body:=(.seq (.reg [.new 4 (.c (.a [(I 0),(S []),(I 0),(.n 4)])),.mv 5 (.c (I 0))]) (.seq (.reg [.mv 14 (.t 0),.call (some 15) (.c (Fc qau)) [(.t 14),(.c (I 0))] (.ro false),.new 6 (.c (.a [(I 0),(S []),(I 0),(I 0),(B false)])),.st 5 (.t 6) (.t 15)]) (.keep [0,1,4,6] (.seq (.reg [.fa 17 (.t 6) 1,.ld 18 false 1 (.t 17),.call (some 19) (.c (Fc qdl)) [(.t 18)] (.ro false),.mv 16 (.t 19),.ext 20 (.t 16) 0,.ext 21 (.t 16) 1,.new 7 (.c (.a [(S []),(I 0),(I 0),(I 0)])),.st 4 (.t 7) (.t 20),.mv 8 (.t 21)]) (.keep [0,1,4,6,7,8] (.seq (.reg [.fa 23 (.t 6) 1,.ld 24 false 1 (.t 23),.call (some 25) (.c (Fc ZS)) [(.t 24)] (.ro true),.mv 22 (.t 25),.ext 26 (.t 22) 0,.ext 27 (.t 22) 1,.new 9 (.c (.a [(S []),(I 0),(I 0),(I 0)])),.st 4 (.t 9) (.t 26),.mv 10 (.t 27)]) (.keep [0,1,4,6,7,8,10] (.seq (.reg [.mv 28 (.t 0),.call (some 29) (.c (Fc qau)) [(.t 28),(.c (I 1))] (.ro false),.new 11 (.c (.a [(I 0),(S []),(I 0),(I 0),(B false)])),.st 5 (.t 11) (.t 29)]) (.keep [0,1,4,6,7,8,10,11] (.seq (.block 0 (.seq (.reg [.fa 31 (.t 6) 0,.ld 32 false 1 (.t 31),.bin 33 .eql (.t 32) (.c (I 1)),.mv 34 (.t 33),.gd 34 true (some 35) (.fa 35 (.t 6) 4),.gd 34 true (some 36) (.ld 36 false 1 (.t 35)),.pick 37 (.t 34) (.t 36) (.c (B false)),.mv 30 (.t 37)]) (.keep [0,1,4,6,7,8,10,11,30] (.cond (.t 30) (.seq (.reg [.mv 38 (.t 0),.nilc 39 (.t 38),.fa 40 (.t 39) 1,.ld 41 false 1 (.t 40),.bin 42 .add (.t 41) (.c (I 1)),.nilc 43 (.t 38),.fa 44 (.t 43) 1,.st 1 (.t 44) (.t 42)]) (.keep [0,4,6] (.seq (.reg [.mv 45 (.t 0),.call (some 46) (.c (Fc qat)) [(.t 45),(.c (S [40]))] (.io true)]) (.seq (.reg [.mv 47 (.t 0),.call (some 48) (.c (Fc qdu)) [(.t 47)] (.io false),.mv 12 (.t 48)]) (.seq (.reg [.mv 49 (.t 0),.call (some 50) (.c (Fc qat)) [(.t 49),(.c (S [41]))] (.io true)]) (.seq (.seq (.reg [.mv 51 (.t 12),.len 52 (.t 51),.bin 53 .gtr (.t 52) (.c (I 5))]) (.cond (.t 53) (.reg [.mv 54 (.t 0),.nilc 55 (.t 54),.fa 56 (.t 55) 4,.st 1 (.t 56) (.c (B true))]) .skip)) (.keep [0,4,6,12] (.seq (.reg [.fa 57 (.t 6) 1,.ld 58 false 1 (.t 57),.mv 59 (.t 12),.call (some 60) (.c (Fc Y2)) [(.t 58),(.t 59)] (.io false),.st 4 (.t 4) (.t 60),.mv 5 (.c (I 0))]) (.keep [0,4,5] .ret))))))))) (.seq (.reg [.mv 62 (.t 0),.call (some 63) (.c (Fc ZT)) [(.t 62),(.c (I 0)),(.c (S [40]))] (.ro true),.mv 64 (.t 63),.gd 64 true (some 65) (.fa 65 (.t 11) 0),.gd 64 true (some 66) (.ld 66 false 1 (.t 65)),.gd 64 true (some 67) (.bin 67 .eql (.t 66) (.c (I 1))),.pick 68 (.t 64) (.t 67) (.c (B false)),.mv 69 (.t 68),.gd 69 true (some 70) (.mv 70 (.t 0)),.gd 69 true (some 71) (.call (some 71) (.c (Fc ZT)) [(.t 70),(.c (I 2)),(.c (S [41]))] (.ro true)),.pick 72 (.t 69) (.t 71) (.c (B false)),.mv 61 (.t 72)]) (.keep [0,1,4,6,7,8,10,11,61] (.cond (.t 61) (.seq (.reg [.mv 73 (.t 0),.nilc 74 (.t 73),.fa 75 (.t 74) 1,.ld 76 false 1 (.t 75),.bin 77 .add (.t 76) (.c (I 3)),.nilc 78 (.t 73),.fa 79 (.t 78) 1,.st 1 (.t 79) (.t 77)]) (.keep [0,4,11] (.seq (.reg [.fa 80 (.t 11) 1,.ld 81 false 1 (.t 80),.call (some 82) (.c (Fc qdn)) [(.t 81)] (.ro false),.st 4 (.t 4) (.t 82),.mv 5 (.c (I 0))]) (.keep [0,4,5] .ret)))) (.seq (.reg [.mv 84 (.t 0),.call (some 85) (.c (Fc ZT)) [(.t 84),(.c (I 0)),(.c (S [40]))] (.ro true),.mv 83 (.t 85)]) (.cond (.t 83) (.seq (.reg [.mv 86 (.t 0),.nilc 87 (.t 86),.fa 88 (.t 87) 1,.ld 89 false 1 (.t 88),.bin 90 .add (.t 89) (.c (I 1)),.nilc 91 (.t 86),.fa 92 (.t 91) 1,.st 1 (.t 92) (.t 90)]) (.keep [0,4] (.seq (.reg [.mv 93 (.t 0),.call (some 94) (.c (Fc Zb)) [(.t 93),(.c (I 1200))] (.io false),.new 13 (.c (.a [(I 0),(S []),(I 0),(.n 4)])),.st 4 (.t 13) (.t 94)]) (.keep [0,4,13] (.seq (.reg [.mv 95 (.t 0),.call (some 96) (.c (Fc qat)) [(.t 95),(.c (S [41]))] (.io true)]) (.seq (.reg [.ld 97 true 4 (.t 13),.st 4 (.t 4) (.t 97),.mv 5 (.c (I 0))]) (.keep [0,4,5] .ret))))))) (.seq (.reg [.mv 99 (.t 0),.call (some 100) (.c (Fc ZT)) [(.t 99),(.c (I 0)),(.c (S [91]))] (.ro true),.mv 98 (.t 100)]) (.cond (.t 98) (.seq (.reg [.mv 101 (.t 0),.call (some 102) (.c (Fc qpp)) [(.t 101)] (.io false),.st 4 (.t 4) (.t 102),.mv 5 (.c (I 0))]) (.keep [0,4,5] .ret)) (.seq (.reg [.fa 104 (.t 6) 0,.ld 105 false 1 (.t 104),.bin 106 .eql (.t 105) (.c (I 3)),.mv 103 (.t 106)]) (.keep [0,1,4,6,7,8,10,11,103] (.cond (.t 103) (.seq (.reg [.mv 107 (.t 0),.nilc 108 (.t 107),.fa 109 (.t 108) 1,.ld 110 false 1 (.t 109),.bin 111 .add (.t 110) (.c (I 1)),.nilc 112 (.t 107),.fa 113 (.t 112) 1,.st 1 (.t 113) (.t 111)]) (.keep [0,4,6] (.seq (.reg [.fa 114 (.t 6) 2,.ld 115 false 1 (.t 114),.call (some 116) (.c (Fc qjq)) [(.t 115)] (.ro false),.st 4 (.t 4) (.t 116),.mv 5 (.c (I 0))]) (.keep [0,4,5] .ret)))) (.seq (.reg [.fa 118 (.t 6) 0,.ld 119 false 1 (.t 118),.bin 120 .eql (.t 119) (.c (I 2)),.mv 117 (.t 120)]) (.keep [0,1,4,6,7,8,10,11,117] (.cond (.t 117) (.seq (.reg [.mv 121 (.t 0),.nilc 122 (.t 121),.fa 123 (.t 122) 1,.ld 124 false 1 (.t 123),.bin 125 .add (.t 124) (.c (I 1)),.nilc 126 (.t 121),.fa 127 (.t 126) 1,.st 1 (.t 127) (.t 125)]) (.keep [0,4,6] (.seq (.reg [.mv 128 (.t 0),.fa 129 (.t 6) 1,.ld 130 false 1 (.t 129),.call (some 131) (.c (Fc qpq)) [(.t 128),(.t 130)] (.io false),.st 4 (.t 4) (.t 131),.mv 5 (.c (I 0))]) (.keep [0,4,5] .ret)))) (.seq (.reg [.fa 133 (.t 6) 0,.ld 134 false 1 (.t 133),.bin 135 .eql (.t 134) (.c (I 1)),.mv 136 (.t 135),.gd 136 true (some 137) (.fa 137 (.t 6) 1),.gd 136 true (some 138) (.ld 138 false 1 (.t 137)),.gd 136 true (some 139) (.bin 139 .eql (.t 138) (.c (S [45]))),.pick 140 (.t 136) (.t 139) (.c (B false)),.mv 141 (.t 140),.gd 141 true (some 142) (.fa 142 (.t 11) 0),.gd 141 true (some 143) (.ld 143 false 1 (.t 142)),.gd 141 true (some 144) (.bin 144 .eql (.t 143) (.c (I 3))),.pick 145 (.t 141) (.t 144) (.c (B false)),.mv 146 (.t 145),.gd 146 true (some 147) (.fa 147 (.t 11) 3),.gd 146 true (some 148) (.ld 148 false 1 (.t 147)),.gd 146 true (some 149) (.fa 149 (.t 6) 3),.gd 146 true (some 150) (.ld 150 false 1 (.t 149)),.gd 146 true (some 151) (.bin 151 .add (.t 150) (.c (I 1))),.gd 146 true (some 152) (.bin 152 .eql (.t 148) (.t 151)),.pick 153 (.t 146) (.t 152) (.c (B false)),.mv 132 (.t 153)]) (.keep [0,1,4,6,7,8,10,11,132] (.cond (.t 132) (.seq (.reg [.mv 154 (.t 0),.nilc 155 (.t 154),.fa 156 (.t 155) 1,.ld 157 false 1 (.t 156),.bin 158 .add (.t 157) (.c (I 2)),.nilc 159 (.t 154),.fa 160 (.t 159) 1,.st 1 (.t 160) (.t 158)]) (.keep [0,4,11] (.seq (.reg [.fa 161 (.t 11) 2,.ld 162 false 1 (.t 161),.un 163 .neg (.t 162),.call (some 164) (.c (Fc qjq)) [(.t 163)] (.ro false),.st 4 (.t 4) (.t 164),.mv 5 (.c (I 0))]) (.keep [0,4,5] .ret)))) (.seq (.reg [.fa 166 (.t 6) 0,.ld 167 false 1 (.t 166),.bin 168 .eql (.t 167) (.c (I 1)),.mv 169 (.t 168),.gd 169 true (some 170) (.mv 170 (.t 8)),.pick 171 (.t 169) (.t 170) (.c (B false)),.mv 172 (.t 171),.gd 172 true (some 173) (.fa 173 (.t 7) 1),.gd 172 true (some 174) (.ld 174 false 1 (.t 173)),.gd 172 true (some 175) (.mv 175 (.t 1)),.gd 172 true (some 176) (.bin 176 .leq (.t 174) (.t 175)),.pick 177 (.t 172) (.t 176) (.c (B false)),.mv 165 (.t 177)]) (.keep [0,4,6,7,8,10,165] (.cond (.t 165) (.seq (.reg [.mv 178 (.t 0),.nilc 179 (.t 178),.fa 180 (.t 179) 1,.ld 181 false 1 (.t 180),.bin 182 .add (.t 181) (.c (I 1)),.nilc 183 (.t 178),.fa 184 (.t 183) 1,.st 1 (.t 184) (.t 182)]) (.keep [0,4,6,7] (.seq (.dreg [⟨0,[]⟩,⟨0,[(6,0)]⟩,⟨0,[]⟩,⟨0,[]⟩,⟨0,[(7,0)]⟩,⟨1,[(0,0),(0,1),(0,2),(0,3),(15,0),(15,1),(15,2),(15,3),(18,0),(19,0),(19,1),(19,2),(19,3),(41,0),(76,0),(89,0),(110,0),(124,0),(157,0),(181,0),(189,0),(210,0)]⟩,⟨1,[]⟩,⟨1,[(0,0),(0,1),(0,2),(0,3),(15,0),(15,1),(15,2),(15,3),(18,0),(19,0),(19,1),(19,2),(19,3),(41,0),(76,0),(89,0),(110,0),(124,0),(157,0),(181,0),(186,0),(189,0),(190,0),(190,1),(190,2),(190,3),(191,0),(210,0)]⟩,⟨0,[]⟩,⟨0,[(7,0)]⟩,⟨1,[(4,0)]⟩,⟨0,[]⟩] [.fa 185 (.t 6) 1,.ldq 186 false 1 (.t 185),.mv 187 (.t 0),.fa 188 (.t 7) 3,.ldq 189 false 1 (.t 188),.call (some 190) (.c (Fc Zb)) [(.t 187),(.t 189)] (.io false),.mks 191 4 [(.t 190)],.call (some 192) (.c (Fc Y2)) [(.t 186),(.t 191)] (.io false),.fa 193 (.t 7) 1,.ldq 194 false 1 (.t 193),.st 4 (.t 4) (.t 192),.mv 5 (.t 194)]) (.keep [0,4,5] .ret)))) (.seq (.reg [.fa 196 (.t 6) 0,.ld 197 false 1 (.t 196),.bin 198 .eql (.t 197) (.c (I 1)),.mv 199 (.t 198),.gd 199 true (some 200) (.mv 200 (.t 8)),.gd 199 true (some 201) (.un 201 .not (.t 200)),.pick 202 (.t 199) (.t 201) (.c (B false)),.mv 203 (.t 202),.gd 203 true (some 204) (.mv 204 (.t 10)),.gd 203 true (some 205) (.un 205 .not (.t 204)),.pick 206 (.t 203) (.t 205) (.c (B false)),.mv 195 (.t 206)]) (.keep [0,4,6,195] (.cond (.t 195) (.seq (.reg [.mv 207 (.t 0),.nilc 208 (.t 207),.fa 209 (.t 208) 1,.ld 210 false 1 (.t 209),.bin 211 .add (.t 210) (.c (I 1)),.nilc 212 (.t 207),.fa 213 (.t 212) 1,.st 1 (.t 213) (.t 211)]) (.keep [0,4,6] (.seq (.reg [.fa 214 (.t 6) 1,.ld 215 false 1 (.t 214),.call (some 216) (.c (Fc qdn)) [(.t 215)] (.ro false),.st 4 (.t 4) (.t 216),.mv 5 (.c (I 0))]) (.keep [0,4,5] .ret)))) .skip)))))))))))))))))))))))))) (.keep [0,4] (.seq (.reg [.mv 217 (.t 0),.nilc 218 (.t 217),.fa 219 (.t 218) 4,.st 1 (.t 219) (.c (B true))]) (.keep [0,4] (.seq (.reg [.build 220 (.a [(I 0),(S []),(I 0),(.n 4)]) [],.st 4 (.t 4) (.t 220),.mv 5 (.c (I 0))]) (.keep [0,4,5] .ret)))))))))))))))
def qcK:AF where
 nargs:=1
 ntmps:=5
 res:=[.cell 2 true 4]
 body:=(.seq (.reg [.new 2 (.c (.a [(I 0),(S []),(I 0),(.n 4)]))]) (.seq (.reg [.mv 3 (.t 0),.build 4 (.a [(I 0),(S []),(I 0),(.n 4)]) [(0,1,(.c (I 1))),(2,1,(.t 3))],.st 4 (.t 2) (.t 4)]) (.keep [2] .ret)))
def qcE:AF where
 nargs:=2
 ntmps:=18
 res:=[]
 body:=(.seq (.seq (.reg [.mv 4 (.t 0),.mv 5 (.t 1),.call (some 6) (.c (Fc ZT)) [(.t 4),(.c (I 0)),(.t 5)] (.ro true),.un 7 .not (.t 6)]) (.keep [0,7] (.cond (.t 7) (.reg [.mv 8 (.t 0),.nilc 9 (.t 8),.fa 10 (.t 9) 4,.st 1 (.t 10) (.c (B true))]) .skip))) (.keep [0] (.reg [.mv 11 (.t 0),.nilc 12 (.t 11),.fa 13 (.t 12) 1,.ld 14 false 1 (.t 13),.bin 15 .add (.t 14) (.c (I 1)),.nilc 16 (.t 11),.fa 17 (.t 16) 1,.st 1 (.t 17) (.t 15)])))
def qjF:AC:=(.seq (.seq (.reg [.mv 7 (.t 0),.nilc 8 (.t 7),.fa 9 (.t 8) 4,.ld 10 false 1 (.t 9),.un 11 .not (.t 10),.mv 12 (.t 11),.gd 12 true (some 13) (.mv 13 (.t 0)),.gd 12 true (some 14) (.call (some 14) (.c (Fc ZT)) [(.t 13),(.c (I 0)),(.c (S [44]))] (.ro true)),.pick 15 (.t 12) (.t 14) (.c (B false))]) (.keep [0,3,15] (.cond (.t 15) .skip (.keep [0,3] (.exit 0))))) (.keep [0,3] (.block 1 (.seq (.reg [.mv 16 (.t 0),.nilc 17 (.t 16),.fa 18 (.t 17) 1,.ld 19 false 1 (.t 18),.bin 20 .add (.t 19) (.c (I 1)),.nilc 21 (.t 16),.fa 22 (.t 21) 1,.st 1 (.t 22) (.t 20)]) (.keep [0,3] (.reg [.mv 23 (.t 3),.mv 24 (.t 0),.call (some 25) (.c (Fc Zb)) [(.t 24),(.c (I 999))] (.io false),.mks 26 4 [(.t 25)],.app 27 4 56 (.t 23) (.t 26),.mv 3 (.t 27)]))))))
def KP:Lp:=⟨[0,3],[(1,0)],qjF⟩
@[go_sem] theorem qGn:KP.ls=[0,3]:=rfl
@[go_sem] theorem qGm:KP.ks=[(1,0)]:=rfl
@[go_sem] theorem qGl:KP.body=qjF:=rfl
def qcI:AF where
 nargs:=1
 ntmps:=29
 res:=[.tmp 2]
 body:=(.seq (.reg [.mv 2 (.c (.n 4))]) (.seq (.reg [.mv 4 (.t 0),.call (some 5) (.c (Fc Zb)) [(.t 4),(.c (I 999))] (.io false),.mks 6 4 [(.t 5)],.mv 3 (.t 6)]) (.keep [0,3] (.seq (.block 0 (lpC KP)) (.keep [0,3] (.seq (.reg [.mv 28 (.t 3),.mv 2 (.t 28)]) (.keep [0,2] .ret)))))))
def qcC:AF where
 nargs:=3
 ntmps:=20
 res:=[.tmp 6]
 body:=(.seq (.reg [.mv 6 (.c (B false))]) (.seq (.reg [.mv 8 (.t 0),.mv 9 (.t 1),.call (some 10) (.c (Fc qau)) [(.t 8),(.t 9)] (.ro false),.new 7 (.c (.a [(I 0),(S []),(I 0),(I 0),(B false)])),.st 5 (.t 7) (.t 10)]) (.keep [2,7] (.seq (.reg [.fa 11 (.t 7) 0,.ld 12 false 1 (.t 11),.bin 13 .eql (.t 12) (.c (I 4)),.mv 14 (.t 13),.gd 14 true (some 15) (.fa 15 (.t 7) 1),.gd 14 true (some 16) (.ld 16 false 1 (.t 15)),.gd 14 true (some 17) (.mv 17 (.t 2)),.gd 14 true (some 18) (.bin 18 .eql (.t 16) (.t 17)),.pick 19 (.t 14) (.t 18) (.c (B false)),.mv 6 (.t 19)]) (.keep [6] .ret)))))
def qjD:AC:=(.seq (.seq (.reg [.mv 37 (.t 5),.bin 38 .geq (.t 37) (.c (I 0))]) (.cond (.t 38) .skip (.keep [0,2,4] (.exit 0)))) (.keep [0,2,3,4,5] (.seq (.block 1 (.opd [(500000,3,some 5)] (.dreg [⟨0,[]⟩,⟨0,[]⟩,⟨0,[(0,0),(0,1),(0,2),(0,3),(13,0),(19,0),(19,1),(19,2),(19,3),(26,0),(100000,0),(100000,1),(100000,2),(100000,3),(100000,4),(100000,5)]⟩,⟨0,[(0,0),(0,1),(0,2),(0,3),(13,0),(19,0),(19,1),(19,2),(19,3),(26,0),(100000,0),(100000,1),(100000,2),(100000,3),(100000,4),(100000,5)]⟩,⟨0,[(4,0),(100000,0),(100000,1),(100000,2),(100000,3),(100000,4),(100000,5)]⟩,⟨1,[]⟩,⟨1,[(0,0),(0,1),(0,2),(0,3),(13,0),(19,0),(19,1),(19,2),(19,3),(20,0),(20,1),(20,2),(20,3),(26,0),(31,0),(31,1),(31,2),(31,3),(44,0),(45,0),(46,0),(100000,0),(100000,1),(100000,2),(100000,3),(100000,4),(100000,5),(500000,0)]⟩,⟨1,[(4,0),(100000,0),(100000,1),(100000,2),(100000,3),(100000,4),(100000,5)]⟩] [.mv 41 (.t 3),.mv 42 (.t 5),.ia 43 4 (.t 41) (.t 42),.ldq 44 true 4 (.t 43),.ldq 45 true 4 (.t 4),.mks 46 4 [(.t 44),(.t 45)],.call (some 47) (.c (Fc Y2)) [(.c (S [46])),(.t 46)] (.io false),.st 4 (.t 4) (.t 47)]))) (.keep [0,2,3,4,5] (.reg [.mv 39 (.t 5),.bin 40 .sub (.t 39) (.c (I 1)),.mv 5 (.t 40)])))))
def qdW:Lp:=⟨[0,2,3,4,5],[(1,0)],qjD⟩
@[go_sem] theorem qGh:qdW.ls=[0,2,3,4,5]:=rfl
@[go_sem] theorem qGg:qdW.ks=[(1,0)]:=rfl
@[go_sem] theorem qGf:qdW.body=qjD:=rfl
def qcD:AF where
 nargs:=1
 ntmps:=49
 res:=[.cell 2 true 4]
 body:=(.seq (.reg [.new 2 (.c (.a [(I 0),(S []),(I 0),(.n 4)]))]) (.seq (.reg [.mv 6 (.t 0),.call (some 7) (.c (Fc qat)) [(.t 6),(.c (S [91]))] (.io true)]) (.seq (.seq (.reg [.mv 8 (.t 0),.call (some 9) (.c (Fc ZT)) [(.t 8),(.c (I 0)),(.c (S [93]))] (.ro true)]) (.cond (.t 9) (.seq (.reg [.mv 10 (.t 0),.nilc 11 (.t 10),.fa 12 (.t 11) 1,.ld 13 false 1 (.t 12),.bin 14 .add (.t 13) (.c (I 1)),.nilc 15 (.t 10),.fa 16 (.t 15) 1,.st 1 (.t 16) (.t 14)]) (.keep [0,2] (.seq (.reg [.call (some 17) (.c (Fc qdn)) [(.c (S [91,93]))] (.ro false),.st 4 (.t 2) (.t 17)]) (.keep [0,2] .ret)))) .skip)) (.keep [0,2] (.seq (.reg [.mv 18 (.t 0),.call (some 19) (.c (Fc qdu)) [(.t 18)] (.io false),.mv 3 (.t 19)]) (.seq (.reg [.call (some 20) (.c (Fc qdn)) [(.c (S [91,93]))] (.ro false),.new 4 (.c (.a [(I 0),(S []),(I 0),(.n 4)])),.st 4 (.t 4) (.t 20)]) (.seq (.seq (.reg [.mv 21 (.t 0),.call (some 22) (.c (Fc ZT)) [(.t 21),(.c (I 0)),(.c (S [124]))] (.ro true)]) (.cond (.t 22) (.seq (.reg [.mv 23 (.t 0),.nilc 24 (.t 23),.fa 25 (.t 24) 1,.ld 26 false 1 (.t 25),.bin 27 .add (.t 26) (.c (I 1)),.nilc 28 (.t 23),.fa 29 (.t 28) 1,.st 1 (.t 29) (.t 27)]) (.keep [0,2,3,4] (.reg [.mv 30 (.t 0),.call (some 31) (.c (Fc Zb)) [(.t 30),(.c (I 999))] (.io false),.st 4 (.t 4) (.t 31)]))) .skip)) (.keep [0,2,3,4] (.seq (.reg [.mv 32 (.t 0),.call (some 33) (.c (Fc qat)) [(.t 32),(.c (S [93]))] (.io true)]) (.seq (.seq (.reg [.mv 34 (.t 3),.len 35 (.t 34),.bin 36 .sub (.t 35) (.c (I 1)),.mv 5 (.t 36)]) (.keep [0,2,3,4,5] (.block 0 (lpC qdW)))) (.keep [0,2,4] (.seq (.reg [.ld 48 true 4 (.t 4),.st 4 (.t 2) (.t 48)]) (.keep [0,2] .ret)))))))))))))
def qcB:AF where
 nargs:=1
 ntmps:=5
 res:=[.cell 2 true 4]
 body:=(.seq (.reg [.new 2 (.c (.a [(I 0),(S []),(I 0),(.n 4)]))]) (.seq (.reg [.mv 3 (.t 0),.build 4 (.a [(I 0),(S []),(I 0),(.n 4)]) [(0,1,(.c (I 3))),(2,1,(.t 3))],.st 4 (.t 2) (.t 4)]) (.keep [2] .ret)))
def qcJ:AF where
 nargs:=2
 ntmps:=35
 res:=[.cell 4 true 4]
 body:=(.seq (.reg [.new 4 (.c (.a [(I 0),(S []),(I 0),(.n 4)]))]) (.seq (.reg [.mv 6 (.t 0),.nilc 7 (.t 6),.fa 8 (.t 7) 2,.ld 9 false 1 (.t 8),.mv 10 (.t 1),.call (some 11) (.c (Fc qjs)) [(.t 9),(.t 10)] (.ro false),.mv 5 (.t 11)]) (.keep [0,1,4,5] (.seq (.seq (.reg [.mv 12 (.t 5),.bin 13 .lss (.t 12) (.c (I 0)),.mv 14 (.t 13),.gd 14 false (some 15) (.mv 15 (.t 1)),.gd 14 false (some 16) (.bin 16 .eql (.t 15) (.c (S [95]))),.pick 17 (.t 14) (.c (B true)) (.t 16)]) (.keep [0,1,4,5,17] (.cond (.t 17) (.seq (.reg [.mv 18 (.t 0),.nilc 19 (.t 18),.fa 20 (.t 19) 2,.ld 21 false 1 (.t 20),.len 22 (.t 21),.mv 5 (.t 22)]) (.keep [0,1,4,5] (.reg [.mv 23 (.t 0),.mv 24 (.t 0),.nilc 25 (.t 24),.fa 26 (.t 25) 2,.ld 27 false 1 (.t 26),.mv 28 (.t 1),.mks 29 1 [(.t 28)],.app 30 1 16 (.t 27) (.t 29),.nilc 31 (.t 23),.fa 32 (.t 31) 2,.st 1 (.t 32) (.t 30)]))) .skip))) (.keep [0,4,5] (.seq (.reg [.mv 33 (.t 5),.call (some 34) (.c (Fc qpr)) [(.t 33)] (.ro false),.st 4 (.t 4) (.t 34)]) (.keep [0,4] .ret)))))))
def qe0:Nat→Option AE
 |5=>some (.fn YF)
 |11=>some (.fn qcV)
 |13=>some (.fn qc1)
 |15=>some (.fn qcP)
 |20=>some (.fn X2)
 |21=>some (.fn YJ)
 |22=>some (.fn X5)
 |23=>some (.fn X6)
 |24=>some (.fn X7)
 |25=>some (.fn YA)
 |26=>some (.fn YN)
 |27=>some (.fn Qb)
 |28=>some (.fn Qe)
 |29=>some (.fn XM)
 |30=>some (.fn X9)
 |31=>some (.fn Yx)
 |32=>some (.fn Q1)
 |34=>some (.fn Q2)
 |37=>some (.fn QZ)
 |39=>some (.fn X3)
 |40=>some (.fn YO)
 |44=>some (.fn ZG)
 |_=>none
def qe1:Nat→Option AE
 |67=>some (.fn qcq)
 |68=>some (.fn qc9)
 |73=>some (.fn qcU)
 |74=>some (.fn qcW)
 |75=>some (.fn qc0)
 |76=>some (.fn qc2)
 |77=>some (.fn qcO)
 |78=>some (.fn qcQ)
 |80=>some (.fn KA)
 |82=>some (.fn X0)
 |84=>some (.fn qcr)
 |92=>some (.fn Ke)
 |93=>some (.fn Kf)
 |94=>some (.fn YI)
 |95=>some (.fn Qg)
 |96=>some (.fn YH)
 |97=>some (.fn Q7)
 |98=>some (.fn Yz)
 |99=>some (.fn XV)
 |100=>some (.fn YM)
 |101=>some (.fn jI)
 |102=>some (.fn XK)
 |103=>some (.fn XR)
 |_=>none
def qe2:Nat→Option AE
 |104=>some (.fn XU)
 |105=>some (.fn YB)
 |106=>some (.fn Kx)
 |107=>some (.fn Kk)
 |108=>some (.fn YY)
 |109=>some (.fn QY)
 |110=>some (.fn yG)
 |111=>some (.fn qal)
 |112=>some (.fn YR)
 |113=>some (.fn YK)
 |114=>some (.fn Qf)
 |115=>some (.fn YW)
 |116=>some (.fn ku)
 |117=>some (.fn Ky)
 |119=>some (.fn qda)
 |120=>some (.fn Kt)
 |121=>some (.fn KC)
 |122=>some (.fn xE)
 |128=>some (.fn ZQ)
 |131=>some (.fn qcv)
 |132=>some (.fn Ka)
 |135=>some (.fn Kz)
 |139=>some (.fn Kc)
 |144=>some (.fn XZ)
 |150=>some (.fn YS)
 |155=>some (.fn qcy)
 |_=>none
def qe3:Nat→Option AE
 |156=>some (.fn qdf)
 |158=>some (.prim qiR)
 |159=>some (.prim qi1)
 |167=>some (.fn XL)
 |169=>some (.fn qct)
 |170=>some (.fn qcT)
 |171=>some (.fn qcZ)
 |172=>some (.fn qcN)
 |173=>some (.fn Ku)
 |175=>some (.fn ZJ)
 |177=>some (.fn KB)
 |186=>some (.fn Kr)
 |187=>some (.fn kr)
 |188=>some (.fn X4)
 |189=>some (.fn zZ)
 |190=>some (.fn kq)
 |191=>some (.fn XW)
 |192=>some (.fn XX)
 |193=>some (.fn YE)
 |194=>some (.fn Kj)
 |195=>some (.fn Q3)
 |196=>some (.fn ZR)
 |197=>some (.fn Qd)
 |198=>some (.fn XP)
 |199=>some (.fn Ki)
 |200=>some (.fn Kn)
 |201=>some (.fn yp)
 |202=>some (.fn Q4)
 |203=>some (.fn jH)
 |204=>some (.fn Qh)
 |205=>some (.fn Kv)
 |206=>some (.fn YG)
 |207=>some (.fn X8)
 |208=>some (.fn YX)
 |_=>none
def qe4:Nat→Option AE
 |209=>some (.fn qdb)
 |210=>some (.fn qdd)
 |211=>some (.fn KD)
 |212=>some (.fn ZH)
 |213=>some (.fn Ks)
 |214=>some (.fn ZP)
 |218=>some (.fn qcL)
 |219=>some (.fn YP)
 |224=>some (.fn qcu)
 |225=>some (.fn YD)
 |228=>some (.fn qcp)
 |231=>some (.fn qcx)
 |234=>some (.fn qcz)
 |235=>some (.fn qc7)
 |251=>some (.prim Xk)
 |255=>some (.fn qcA)
 |256=>some (.fn qcX)
 |257=>some (.fn qc3)
 |258=>some (.fn qcR)
 |_=>none
def qe5:Nat→Option AE
 |261=>some (.fn Kg)
 |262=>some (.fn Km)
 |263=>some (.fn Kl)
 |264=>some (.fn Kh)
 |265=>some (.fn ZI)
 |266=>some (.fn YC)
 |267=>some (.fn XS)
 |268=>some (.fn Qa)
 |269=>some (.fn XT)
 |270=>some (.prim Xl)
 |271=>some (.fn xc)
 |272=>some (.fn XQ)
 |273=>some (.fn ZM)
 |274=>some (.fn Ko)
 |275=>some (.fn Kp)
 |276=>some (.fn ZK)
 |277=>some (.fn ZL)
 |278=>some (.fn kL)
 |279=>some (.fn YL)
 |280=>some (.fn jG)
 |281=>some (.fn Q5)
 |282=>some (.fn YV)
 |283=>some (.fn Kw)
 |284=>some (.fn zF)
 |285=>some (.fn qdc)
 |286=>some (.fn Kb)
 |287=>some (.fn Q0)
 |290=>some (.fn qcM)
 |294=>some (.fn qcw)
 |296=>some (.fn qc6)
 |301=>some (.fn qdg)
 |_=>none
def qe6:Nat→Option AE
 |311=>some (.fn XY)
 |312=>some (.fn ZE)
 |321=>some (.fn qcY)
 |322=>some (.fn qc4)
 |323=>some (.fn qcS)
 |325=>some (.fn QX)
 |326=>some (.fn Yy)
 |330=>some (.fn YQ)
 |331=>some (.fn Kq)
 |332=>some (.fn xW)
 |333=>some (.fn YT)
 |334=>some (.fn Qi)
 |335=>some (.fn Q6)
 |336=>some (.fn Qj)
 |343=>some (.fn qc5)
 |344=>some (.fn qc8)
 |346=>some (.fn qde)
 |357=>some (.fn qcs)
 |361=>some (.fn XN)
 |362=>some (.fn yl)
 |365=>some (.fn ZO)
 |366=>some (.fn ZN)
 |367=>some (.fn YU)
 |_=>none
def qe7:Nat→Option AE
 |375=>some (.prim qbS)
 |387=>some (.fn qcH)
 |388=>some (.fn qcG)
 |395=>some (.fn jF)
 |396=>some (.fn ZF)
 |397=>some (.fn X1)
 |398=>some (.fn ZD)
 |399=>some (.fn XO)
 |400=>some (.fn Qc)
 |418=>some (.fn qcF)
 |425=>some (.fn qcK)
 |429=>some (.fn qcE)
 |430=>some (.fn qcI)
 |431=>some (.fn qcC)
 |432=>some (.fn qcD)
 |433=>some (.fn qcB)
 |434=>some (.fn qcJ)
 |_=>none
def qh6:Nat→Option AE
 |_=>none
def qg(n:Nat):Option AE:=
 match qe0 n with
 |some e=>some e
 |none=>
 match qe1 n with
 |some e=>some e
 |none=>
 match qe2 n with
 |some e=>some e
 |none=>
 match qe3 n with
 |some e=>some e
 |none=>
 match qe4 n with
 |some e=>some e
 |none=>
 match qe5 n with
 |some e=>some e
 |none=>
 match qe6 n with
 |some e=>some e
 |none=>
 match qe7 n with
 |some e=>some e
 |none=>
 qh6 n
theorem qwz:qg qfY=some (.fn YF):=rfl
theorem qwA:qg qfZ=some (.fn X2):=rfl
theorem qm0:qg qgc=some (.fn YJ):=rfl
theorem qwJ:qg qf8=some (.fn X5):=rfl
theorem qwK:qg qf9=some (.fn X6):=rfl
theorem qwL:qg qga=some (.fn X7):=rfl
theorem qv8:qg qap=some (.fn YA):=rfl
theorem qwX:qg qdH=some (.fn YN):=rfl
theorem qv0:qg qdk=some (.fn Qb):=rfl
theorem qwO:qg qdE=some (.fn Qe):=rfl
theorem qv1:qg qfS=some (.fn XM):=rfl
theorem qwP:qg qge=some (.fn X9):=rfl
theorem qv3:qg qao=some (.fn Yx):=rfl
theorem qwS:qg qax=some (.fn Q1):=rfl
theorem qwT:qg qay=some (.fn Q2):=rfl
theorem qwD:qg qdC=some (.fn QZ):=rfl
theorem qwE:qg qdD=some (.fn X3):=rfl
theorem qwY:qg qgg=some (.fn YO):=rfl
theorem qwG:qg qf4=some (.fn ZG):=rfl
theorem qxK:qg qdP=some (.fn KA):=rfl
theorem qww:qg Qm=some (.fn X0):=rfl
theorem qw2:qg ZW=some (.fn Ke):=rfl
theorem qw3:qg KK=some (.fn Kf):=rfl
theorem qmZ:qg qgb=some (.fn YI):=rfl
theorem qb1:qg Qn=some (.fn Qg):=rfl
theorem qmY:qg qf7=some (.fn YH):=rfl
theorem qeY:qg qgw=some (.fn Q7):=rfl
theorem qv7:qg YZ=some (.fn Yz):=rfl
theorem qwn:qg KI=some (.fn XV):=rfl
theorem qwW:qg je=some (.fn YM):=rfl
theorem qxH:qg Y6=some (.fn jI):=rfl
theorem qvY:qg qdj=some (.fn XK):=rfl
theorem qwe:qg qar=some (.fn XR):=rfl
theorem qwi:qg qdr=some (.fn XU):=rfl
theorem qv9:qg Za=some (.fn YB):=rfl
theorem qxE:qg qgD=some (.fn Kx):=rfl
theorem qw8:qg ZX=some (.fn Kk):=rfl
theorem qxF:qg xd=some (.fn YY):=rfl
theorem qwf:qg qdp=some (.fn QY):=rfl
theorem qmX:qg ZS=some (.fn yG):=rfl
theorem qwM:qg Zc=some (.fn qal):=rfl
theorem qm2:qg qdI=some (.fn YR):=rfl
theorem qwU:qg qdG=some (.fn YK):=rfl
theorem qb0:qg ZV=some (.fn Qf):=rfl
theorem qm9:qg qgA=some (.fn YW):=rfl
theorem qxy:qg qgy=some (.fn ku):=rfl
theorem qxI:qg qdO=some (.fn Ky):=rfl
theorem qxz:qg qgz=some (.fn Kt):=rfl
theorem qxM:qg ZY=some (.fn KC):=rfl
theorem qxv:qg xt=some (.fn xE):=rfl
theorem qxx:qg qgx=some (.fn ZQ):=rfl
theorem qwZ:qg xF=some (.fn Ka):=rfl
theorem qxJ:qg qgF=some (.fn Kz):=rfl
theorem qw1:qg Y4=some (.fn Kc):=rfl
theorem qwu:qg Y2=some (.fn XZ):=rfl
theorem qm3:qg Ze=some (.fn YS):=rfl
theorem qvZ:qg qan=some (.fn XL):=rfl
theorem qxA:qg KL=some (.fn Ku):=rfl
theorem qwQ:qg qgf=some (.fn ZJ):=rfl
theorem qxL:qg qgG=some (.fn KB):=rfl
theorem qxs:qg qgs=some (.fn Kr):=rfl
theorem Zw:qg jf=some (.fn kr):=rfl
theorem qwI:qg qf6=some (.fn X4):=rfl
theorem qwt:qg qav=some (.fn zZ):=rfl
theorem qwy:qg qdB=some (.fn kq):=rfl
theorem qwo:qg qdv=some (.fn XW):=rfl
theorem qwp:qg qdw=some (.fn XX):=rfl
theorem qws:qg qdx=some (.fn YE):=rfl
theorem qw7:qg qaA=some (.fn Kj):=rfl
theorem qxc:qg qaD=some (.fn Q3):=rfl
theorem qxG:qg qgE=some (.fn ZR):=rfl
theorem qwC:qg ZU=some (.fn Qd):=rfl
theorem qwa:qg qdo=some (.fn XP):=rfl
theorem qw6:qg Zd=some (.fn Ki):=rfl
theorem qxe:qg qdJ=some (.fn Kn):=rfl
theorem qxk:qg qgn=some (.fn yp):=rfl
theorem qxn:qg qgp=some (.fn Q4):=rfl
theorem qeX:qg z6=some (.fn jH):=rfl
theorem qxo:qg Qo=some (.fn Qh):=rfl
theorem qxC:qg qaI=some (.fn Kv):=rfl
theorem qwB:qg qaw=some (.fn YG):=rfl
theorem qwN:qg qgd=some (.fn X8):=rfl
theorem qxB:qg qdN=some (.fn YX):=rfl
theorem qxN:qg qgH=some (.fn KD):=rfl
theorem qwH:qg KJ=some (.fn ZH):=rfl
theorem qxt:qg qgt=some (.fn Ks):=rfl
theorem qxu:qg qgu=some (.fn ZP):=rfl
theorem qm1:qg Y3=some (.fn YP):=rfl
theorem qwq:qg Y0=some (.fn YD):=rfl
theorem qw4:qg jK=some (.fn Kg):=rfl
theorem qxd:qg qaE=some (.fn Km):=rfl
theorem qxa:qg qaC=some (.fn Kl):=rfl
theorem qw5:qg qgi=some (.fn Kh):=rfl
theorem qh0:qg qf5=some (.fn ZI):=rfl
theorem qwk:qg qds=some (.fn YC):=rfl
theorem qwg:qg qfV=some (.fn XS):=rfl
theorem qvX:qg KF=some (.fn Qa):=rfl
theorem qwh:qg qdq=some (.fn XT):=rfl
theorem qxb:qg qgj=some (.fn xc):=rfl
theorem qwb:qg qaq=some (.fn XQ):=rfl
theorem qxl:qg qdK=some (.fn ZM):=rfl
theorem qxh:qg qaG=some (.fn Ko):=rfl
theorem qxj:qg qgm=some (.fn Kp):=rfl
theorem qxg:qg qaF=some (.fn ZK):=rfl
theorem qxi:qg qgl=some (.fn ZL):=rfl
theorem qxf:qg qgk=some (.fn kL):=rfl
theorem qwV:qg qaz=some (.fn YL):=rfl
theorem Ju:qg jL=some (.fn jG):=rfl
theorem qm4:qg qdL=some (.fn Q5):=rfl
theorem qxw:qg qgv=some (.fn YV):=rfl
theorem qxD:qg qgB=some (.fn Kw):=rfl
theorem qwF:qg qf3=some (.fn zF):=rfl
theorem qw0:qg qgh=some (.fn Kb):=rfl
theorem qwR:qg qdF=some (.fn Q0):=rfl
theorem qwr:qg Y1=some (.fn XY):=rfl
theorem qwj:qg qas=some (.fn ZE):=rfl
theorem qv2:qg qdl=some (.fn QX):=rfl
theorem qv4:qg qfT=some (.fn Yy):=rfl
theorem qw9:qg qaB=some (.fn YQ):=rfl
theorem qxm:qg qgo=some (.fn Kq):=rfl
theorem Jt:qg Zf=some (.fn xW):=rfl
theorem qm5:qg Qp=some (.fn YT):=rfl
theorem qm6:qg Y5=some (.fn Qi):=rfl
theorem qm7:qg qaH=some (.fn Q6):=rfl
theorem qxr:qg qgr=some (.fn Qj):=rfl
theorem qv5:qg qdm=some (.fn XN):=rfl
theorem qwl:qg qfW=some (.fn yl):=rfl
theorem qxq:qg qdM=some (.fn ZO):=rfl
theorem qxp:qg qgq=some (.fn ZN):=rfl
theorem qm8:qg jM=some (.fn YU):=rfl
theorem qwc:qg qfU=some (.fn jF):=rfl
theorem qwv:qg qdy=some (.fn ZF):=rfl
theorem qwx:qg qdz=some (.fn X1):=rfl
theorem qwd:qg KH=some (.fn ZD):=rfl
theorem qv6:qg KG=some (.fn XO):=rfl
theorem qwm:qg qdt=some (.fn Qc):=rfl
theorem qxO:qg qju=some (.prim Xk):=rfl
theorem qxQ:qg qjv=some (.prim Xl):=rfl
theorem qxP:qg qaJ=some (.prim qbS):=rfl
end Go.Vm
