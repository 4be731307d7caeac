import Derived.Test.YtimgahafdmacbaaT03
set_option autoImplicit false
set_option maxRecDepth 100000
namespace Go.Vm
abbrev F.main_main:Nat:=0
abbrev F.gosem_cut:Nat:=1
abbrev F.gosem_cut_init:Nat:=2
abbrev F.laws_FnIncludes:Nat:=3
abbrev F.laws_FnExactIncludesIn:Nat:=4
abbrev F.laws_FnExactCyclicFile:Nat:=5
abbrev F.laws_FnExactFilesReached:Nat:=6
abbrev F.laws_big:Nat:=7
abbrev F.spec_DrawLoadOrder:Nat:=8
abbrev F.impl_LoadOrder:Nat:=9
abbrev F.impl_FilesReached:Nat:=10
abbrev F.impl_CyclicFile:Nat:=11
abbrev F.spec_FileAt:Nat:=12
abbrev F.impl_IncludesIn:Nat:=13
abbrev F.laws_hasText:Nat:=14
abbrev F.spec_IncludesIn:Nat:=15
abbrev F.laws_eqStringS:Nat:=16
abbrev F.laws_markStringS:Nat:=17
abbrev F.laws_heldStringS:Nat:=18
abbrev F.laws_szFileS:Nat:=19
abbrev F.spec_CyclicFile:Nat:=20
abbrev F.laws_toFileS:Nat:=21
abbrev F.laws_eqFileS:Nat:=22
abbrev F.spec_FilesReached:Nat:=23
abbrev F.laws_markFileS:Nat:=24
abbrev F.spec_l30Draw:Nat:=25
abbrev F.impl_LoadOrder_1:Nat:=26
abbrev F.slices_Contains_string_string:Nat:=27
abbrev F.impl_includes:Nat:=28
abbrev F.impl_FileAt:Nat:=29
abbrev F.impl_reachedBy:Nat:=30
abbrev F.slices_ContainsFunc_string_string:Nat:=31
abbrev F.impl_CyclicFile_1:Nat:=32
abbrev F.impl_ReadAll:Nat:=33
abbrev F.impl_isStruct:Nat:=34
abbrev F.impl_once:Nat:=35
abbrev F.spec_ReadAll:Nat:=36
abbrev F.spec_l03Is:Nat:=37
abbrev F.spec_l23Add:Nat:=38
abbrev F.laws_markText:Nat:=39
abbrev F.laws_szFile:Nat:=40
abbrev F.spec_l30In:Nat:=41
abbrev F.spec_l23Has:Nat:=42
abbrev F.laws_toFile:Nat:=43
abbrev F.laws_eqFile:Nat:=44
abbrev F.spec_l01New:Nat:=45
abbrev F.spec_l01Pick:Nat:=46
abbrev F.spec_l01Once:Nat:=47
abbrev F.spec_l16Any:Nat:=48
abbrev F.spec_l30Files:Nat:=49
abbrev F.slices_Index_string_string:Nat:=50
abbrev F.slices_IndexFunc_string_string:Nat:=51
abbrev F.impl_SignsOf:Nat:=52
abbrev F.impl_ReadSigns:Nat:=53
abbrev F.spec_SignsOf:Nat:=54
abbrev F.spec_ReadSigns:Nat:=55
abbrev F.spec_l01Below:Nat:=56
abbrev F.spec_l16Files:Nat:=57
abbrev F.spec_l01Long:Nat:=58
abbrev F.spec_Stored:Nat:=59
abbrev F.spec_l30Text:Nat:=60
abbrev F.impl_run:Nat:=61
abbrev F.impl_SignsOf_1:Nat:=62
abbrev F.impl_nextSign:Nat:=63
abbrev F.impl_within:Nat:=64
abbrev F.impl_parser_term:Nat:=65
abbrev F.impl_parser_sign:Nat:=66
abbrev F.impl_TermOk:Nat:=67
abbrev F.spec_l05Blank:Nat:=68
abbrev F.spec_l05Sign:Nat:=69
abbrev F.spec_l06Behind:Nat:=70
abbrev F.spec_l01In:Nat:=71
abbrev F.spec_l06Read_term:Nat:=72
abbrev F.spec_l06Read_is:Nat:=73
abbrev F.spec_TermOk:Nat:=74
abbrev F.spec_l01Byte:Nat:=75
abbrev F.spec_l16Text:Nat:=76
abbrev F.spec_FilesOk:Nat:=77
abbrev F.impl_endsHere:Nat:=78
abbrev F.impl_lower:Nat:=79
abbrev F.impl_upper:Nat:=80
abbrev F.impl_wordByte:Nat:=81
abbrev F.impl_figure:Nat:=82
abbrev F.impl_SymbolByte:Nat:=83
abbrev F.strings_IndexByte:Nat:=84
abbrev F.impl_nextSign_1:Nat:=85
abbrev F.impl_parser_primary:Nat:=86
abbrev F.impl_InfixOf:Nat:=87
abbrev F.impl_structure:Nat:=88
abbrev F.impl_sized:Nat:=89
abbrev F.spec_l05Small:Nat:=90
abbrev F.spec_l05Great:Nat:=91
abbrev F.spec_l05Run:Nat:=92
abbrev F.spec_l05Figure:Nat:=93
abbrev F.spec_l05Quoted:Nat:=94
abbrev F.spec_l05End:Nat:=95
abbrev F.spec_SymbolByte:Nat:=96
abbrev F.spec_l06Read_primary:Nat:=97
abbrev F.spec_l06Read_infix:Nat:=98
abbrev F.spec_l03Two:Nat:=99
abbrev F.spec_l03Count:Nat:=100
abbrev F.spec_l03Right:Nat:=101
abbrev F.spec_l08Lines:Nat:=102
abbrev F.spec_l16Name:Nat:=103
abbrev F.internal_stringslite_IndexByte:Nat:=104
abbrev F.impl_PrefixOf:Nat:=105
abbrev F.impl_parser_mark:Nat:=106
abbrev F.impl_parser_terms:Nat:=107
abbrev F.impl_parser_isMark:Nat:=108
abbrev F.impl_atom:Nat:=109
abbrev F.impl_parser_listTerm:Nat:=110
abbrev F.impl_number:Nat:=111
abbrev F.impl_parser_variable:Nat:=112
abbrev F.impl_nameOk:Nat:=113
abbrev F.spec_l05Word:Nat:=114
abbrev F.spec_l03Name:Nat:=115
abbrev F.spec_l06Read_atom:Nat:=116
abbrev F.spec_l06Read_mark:Nat:=117
abbrev F.spec_l06Read_round:Nat:=118
abbrev F.spec_l06Read_row:Nat:=119
abbrev F.spec_l03Num:Nat:=120
abbrev F.spec_l06Read_variable:Nat:=121
abbrev F.spec_InfixOf:Nat:=122
abbrev F.spec_l03One:Nat:=123
abbrev F.internal_bytealg_IndexByteString:Nat:=124
abbrev F.impl_variable:Nat:=125
abbrev F.spec_l06Read_some:Nat:=126
abbrev F.spec_l06Read_near:Nat:=127
abbrev F.spec_PrefixOf:Nat:=128
abbrev F.spec_l03Atom:Nat:=129
abbrev F.spec_l06Read_wants:Nat:=130
abbrev F.spec_l03Var:Nat:=131
abbrev F.runtime_boundsError_Error:Nat:=132
abbrev F.runtime_boundsError_RuntimeError:Nat:=133
abbrev F.runtime_errorString_Error:Nat:=134
abbrev F.runtime_errorString_RuntimeError:Nat:=135
abbrev F.runtime_plainError_Error:Nat:=136
abbrev F.runtime_plainError_RuntimeError:Nat:=137
abbrev F.runtime_errorAddressString_Error:Nat:=138
abbrev F.runtime_errorAddressString_RuntimeError:Nat:=139
abbrev F.runtime_TypeAssertionError_Error:Nat:=140
abbrev F.runtime_TypeAssertionError_RuntimeError:Nat:=141
abbrev F.runtime_PanicNilError_Error:Nat:=142
abbrev F.runtime_PanicNilError_RuntimeError:Nat:=143
abbrev F.internal_abi_Type_Align:Nat:=144
abbrev F.internal_runtime_maps_unhashableTypeError_Error:Nat:=145
abbrev F.internal_runtime_maps_unhashableTypeError_RuntimeError:Nat:=146
abbrev F.internal_abi_Kind_String:Nat:=147
def C.laws_FnExactIncludesIn_0:AC:=
 (.keep [5,6]
  (.seq
   (.seq
    (.reg [.mv 41 (.t 6),
     .mv 42 (.t 5),
     .bin 43 .neq (.t 41) (.t 42)])
   (.cond (.t 43)
    (.seq
     (.reg [.mv 2 (.c (B false))])
    (.keep [2]
     .ret))
    .skip))
  (.keep []
   (.seq
    (.reg [.mv 2 (.c (B true))])
   (.keep [2]
    .ret)))))
def C.laws_FnExactIncludesIn_1:AC:=
 (.keep [4,5]
  (.seq
   (.reg [.mv 6 (.c (I 1))])
  (.seq
   (.reg [.mv 36 (.t 4),
    .mv 37 (.t 6),
    .call (some 38) (.c (Fc F.laws_heldStringS)) [(.t 36),(.t 37)] (.ro true),
    .mv 6 (.t 38)])
  (.keep [5,6]
   (.seq
    (.seq
     (.reg [.mv 39 (.t 6),
      .bin 40 .lss (.t 39) (.c (I 0))])
    (.cond (.t 40)
     (.seq
      (.reg [.mv 2 (.c (B false))])
     (.keep [2]
      .ret))
     .skip))
   C.laws_FnExactIncludesIn_0)))))
def C.laws_FnExactIncludesIn_2:AC:=
 (.keep [0,3,4,5,6]
  (.seq
   (.seq
    (.reg [.mv 25 (.t 6),
     .bin 26 .lss (.t 25) (.c (I 0))])
   (.cond (.t 26)
    (.seq
     (.reg [.mv 2 (.c (B false))])
    (.keep [2]
     .ret))
    .skip))
  (.keep [0,3,4,5,6]
   (.seq
    (.seq
     (.reg [.mv 27 (.t 6),
      .mv 28 (.t 5),
      .bin 29 .neq (.t 27) (.t 28)])
    (.cond (.t 29)
     (.seq
      (.reg [.mv 2 (.c (B false))])
     (.keep [2]
      .ret))
     .skip))
   (.keep [0,3,4,5]
    (.seq
     (.reg [.mv 30 (.t 0),
      .call (some 31) (.c (Fc F.impl_IncludesIn)) [(.t 30)] (.ro true),
      .mv 7 (.t 31)])
    (.seq
     (.seq
      (.reg [.mv 32 (.t 7),
       .mv 33 (.t 3),
       .call (some 34) (.c (Fc F.laws_eqStringS)) [(.t 32),(.t 33)] (.ro true),
       .un 35 .not (.t 34)])
     (.keep [4,5,35]
      (.cond (.t 35)
       (.seq
        (.reg [.mv 2 (.c (B false))])
       (.keep [2]
        .ret))
       .skip)))
    C.laws_FnExactIncludesIn_1)))))))
def C.laws_FnExactIncludesIn_3:AC:=
 (.keep [0,3,4]
  (.seq
   (.reg [.mv 5 (.c (I 1))])
  (.seq
   (.reg [.mv 19 (.t 4),
    .mv 20 (.t 5),
    .call (some 21) (.c (Fc F.laws_markStringS)) [(.t 19),(.t 20)] (.io false),
    .mv 5 (.t 21)])
  (.keep [0,3,4,5]
   (.seq
    (.reg [.mv 6 (.c (I 1))])
   (.seq
    (.reg [.mv 22 (.t 4),
     .mv 23 (.t 6),
     .call (some 24) (.c (Fc F.laws_heldStringS)) [(.t 22),(.t 23)] (.ro true),
     .mv 6 (.t 24)])
   C.laws_FnExactIncludesIn_2))))))
def A.laws_FnExactIncludesIn:AF where
 nargs:=1
 ntmps:=44
 res:=[.tmp 2]
 body:=
  (.seq
   (.reg [.mv 2 (.c (B false))])
  (.seq
   (.seq
    (.reg [.mv 8 (.t 0),
     .slen 9 (.t 8),
     .bin 10 .gtr (.t 9) (.c (I 1048576))])
   (.cond (.t 10)
    (.seq
     (.reg [.mv 2 (.c (B true))])
    (.keep [2]
     .ret))
    .skip))
  (.keep [0]
   (.seq
    (.reg [.mv 11 (.t 0),
     .call (some 12) (.c (Fc F.spec_IncludesIn)) [(.t 11)] (.ro true),
     .mv 3 (.t 12)])
   (.seq
    (.reg [.mv 13 (.t 0),
     .call (some 14) (.c (Fc F.impl_IncludesIn)) [(.t 13)] (.ro false),
     .mv 4 (.t 14)])
   (.seq
    (.seq
     (.reg [.mv 15 (.t 4),
      .mv 16 (.t 3),
      .call (some 17) (.c (Fc F.laws_eqStringS)) [(.t 15),(.t 16)] (.ro true),
      .un 18 .not (.t 17)])
    (.keep [0,3,4,18]
     (.cond (.t 18)
      (.seq
       (.reg [.mv 2 (.c (B false))])
      (.keep [2]
       .ret))
      .skip)))
   C.laws_FnExactIncludesIn_3))))))
def LB.impl_IncludesIn_0:AC:=
 (.seq
  (.reg [.bin 16 .lss (.t 15) (.t 14)])
 (.seq
  (.cond (.t 16)
   .skip
   (.keep [5]
    (.exit 0)))
 (.keep [5,13,14,15]
  (.seq
   (.block 1
    (.seq
     (.reg [.ia 17 4 (.t 13) (.t 15),
      .ld 18 true 4 (.t 17),
      .new 7 (.c (.a [(I 0),(S []),(I 0),(.n 4)])),
      .st 4 (.t 7) (.t 18)])
    (.keep [5,7,13,14,15]
     (.seq
      (.reg [.ld 19 true 4 (.t 7),
       .call (some 20) (.c (Fc F.impl_isStruct)) [(.t 19),(.c (S [58,45])),(.c (I 1))] (.ro true),
       .mv 21 (.t 20),
       .gd 21 true (some 22) (.fa 22 (.t 7) 3),
       .gd 21 true (some 23) (.ld 23 false 1 (.t 22)),
       .gd 21 true (some 24) (.ia 24 4 (.t 23) (.c (I 0))),
       .gd 21 true (some 25) (.ld 25 true 4 (.t 24)),
       .gd 21 true (some 26) (.call (some 26) (.c (Fc F.impl_isStruct)) [(.t 25),(.c (S [105,110,99,108,117,100,101])),(.c (I 1))] (.ro true)),
       .pick 27 (.t 21) (.t 26) (.c (B false)),
       .mv 28 (.t 27),
       .gd 28 true (some 29) (.fa 29 (.t 7) 3),
       .gd 28 true (some 30) (.ld 30 false 1 (.t 29)),
       .gd 28 true (some 31) (.ia 31 4 (.t 30) (.c (I 0))),
       .gd 28 true (some 32) (.fa 32 (.t 31) 3),
       .gd 28 true (some 33) (.ld 33 false 1 (.t 32)),
       .gd 28 true (some 34) (.ia 34 4 (.t 33) (.c (I 0))),
       .gd 28 true (some 35) (.fa 35 (.t 34) 0),
       .gd 28 true (some 36) (.ld 36 false 1 (.t 35)),
       .gd 28 true (some 37) (.bin 37 .eql (.t 36) (.c (I 2))),
       .pick 38 (.t 28) (.t 37) (.c (B false))])
     (.keep [5,7,13,14,15,38]
      (.cond (.t 38)
       (.reg [.mv 39 (.t 5),
        .fa 40 (.t 7) 3,
        .ld 41 false 1 (.t 40),
        .ia 42 4 (.t 41) (.c (I 0)),
        .fa 43 (.t 42) 3,
        .ld 44 false 1 (.t 43),
        .ia 45 4 (.t 44) (.c (I 0)),
        .fa 46 (.t 45) 1,
        .ld 47 false 1 (.t 46),
        .call (some 48) (.c (Fc F.impl_once)) [(.t 39),(.t 47)] (.io false),
        .mv 5 (.t 48)])
       .skip))))))
  (.keep [5,13,14,15]
   (.reg [.bin 49 .add (.t 15) (.c (I 1)),
    .mv 15 (.t 49)]))))))
def L.impl_IncludesIn_0:Lp:=⟨[5,13,14,15],[(1,0)],LB.impl_IncludesIn_0⟩
@[go_sem] theorem L.impl_IncludesIn_0_ls:L.impl_IncludesIn_0.ls=[5,13,14,15]:=rfl
@[go_sem] theorem L.impl_IncludesIn_0_ks:L.impl_IncludesIn_0.ks=[(1,0)]:=rfl
@[go_sem] theorem L.impl_IncludesIn_0_b:L.impl_IncludesIn_0.body=LB.impl_IncludesIn_0:=rfl
def A.impl_IncludesIn:AF where
 nargs:=1
 ntmps:=51
 res:=[.tmp 2]
 body:=
  (.seq
   (.reg [.mv 2 (.c (.n 1))])
  (.seq
   (.reg [.mv 9 (.t 0),
    .call (some 10) (.c (Fc F.impl_ReadAll)) [(.t 9)] (.ro false),
    .mv 8 (.t 10),
    .ext 11 (.t 8) 0,
    .ext 12 (.t 8) 1,
    .mv 3 (.t 11),
    .mv 4 (.t 12)])
  (.keep [3]
   (.seq
    (.reg [.mv 5 (.c (.n 1))])
   (.seq
    (.seq
     (.reg [.mv 13 (.t 3),
      .len 14 (.t 13),
      .mv 15 (.c (I 0))])
    (.block 0
     (lpC L.impl_IncludesIn_0)))
   (.keep [5]
    (.seq
     (.reg [.mv 50 (.t 5),
      .mv 2 (.t 50)])
    (.keep [2]
     .ret))))))))
def LB.spec_IncludesIn_0:AC:=
 (.seq
  (.seq
   (.reg [.mv 14 (.t 6),
    .mv 15 (.t 4),
    .len 16 (.t 15),
    .bin 17 .lss (.t 14) (.t 16)])
  (.keep [3,4,6,17]
   (.cond (.t 17)
    .skip
    (.keep [3]
     (.exit 0)))))
 (.keep [3,4,6]
  (.seq
   (.block 1
    (.seq
     (.reg [.mv 20 (.t 4),
      .mv 21 (.t 6),
      .ia 22 4 (.t 20) (.t 21),
      .ld 23 true 4 (.t 22),
      .new 7 (.c (.a [(I 0),(S []),(I 0),(.n 4)])),
      .st 4 (.t 7) (.t 23)])
    (.keep [3,4,6,7]
     (.seq
      (.reg [.ld 24 true 4 (.t 7),
       .call (some 25) (.c (Fc F.spec_l03Is)) [(.t 24),(.c (S [58,45])),(.c (I 1))] (.ro true),
       .mv 26 (.t 25),
       .gd 26 true (some 27) (.fa 27 (.t 7) 3),
       .gd 26 true (some 28) (.ld 28 false 1 (.t 27)),
       .gd 26 true (some 29) (.ia 29 4 (.t 28) (.c (I 0))),
       .gd 26 true (some 30) (.ld 30 true 4 (.t 29)),
       .gd 26 true (some 31) (.call (some 31) (.c (Fc F.spec_l03Is)) [(.t 30),(.c (S [105,110,99,108,117,100,101])),(.c (I 1))] (.ro true)),
       .pick 32 (.t 26) (.t 31) (.c (B false)),
       .mv 33 (.t 32),
       .gd 33 true (some 34) (.fa 34 (.t 7) 3),
       .gd 33 true (some 35) (.ld 35 false 1 (.t 34)),
       .gd 33 true (some 36) (.ia 36 4 (.t 35) (.c (I 0))),
       .gd 33 true (some 37) (.fa 37 (.t 36) 3),
       .gd 33 true (some 38) (.ld 38 false 1 (.t 37)),
       .gd 33 true (some 39) (.ia 39 4 (.t 38) (.c (I 0))),
       .gd 33 true (some 40) (.fa 40 (.t 39) 0),
       .gd 33 true (some 41) (.ld 41 false 1 (.t 40)),
       .gd 33 true (some 42) (.bin 42 .eql (.t 41) (.c (I 2))),
       .pick 43 (.t 33) (.t 42) (.c (B false))])
     (.keep [3,4,6,7,43]
      (.cond (.t 43)
       (.reg [.mv 44 (.t 3),
        .fa 45 (.t 7) 3,
        .ld 46 false 1 (.t 45),
        .ia 47 4 (.t 46) (.c (I 0)),
        .fa 48 (.t 47) 3,
        .ld 49 false 1 (.t 48),
        .ia 50 4 (.t 49) (.c (I 0)),
        .fa 51 (.t 50) 1,
        .ld 52 false 1 (.t 51),
        .call (some 53) (.c (Fc F.spec_l23Add)) [(.t 44),(.t 52)] (.io false),
        .mv 3 (.t 53)])
       .skip))))))
  (.keep [3,4,6]
   (.reg [.mv 18 (.t 6),
    .bin 19 .add (.t 18) (.c (I 1)),
    .mv 6 (.t 19)])))))
def L.spec_IncludesIn_0:Lp:=⟨[3,4,6],[(1,0)],LB.spec_IncludesIn_0⟩
@[go_sem] theorem L.spec_IncludesIn_0_ls:L.spec_IncludesIn_0.ls=[3,4,6]:=rfl
@[go_sem] theorem L.spec_IncludesIn_0_ks:L.spec_IncludesIn_0.ks=[(1,0)]:=rfl
@[go_sem] theorem L.spec_IncludesIn_0_b:L.spec_IncludesIn_0.body=LB.spec_IncludesIn_0:=rfl
def A.spec_IncludesIn:AF where
 nargs:=1
 ntmps:=55
 res:=[.tmp 2]
 body:=
  (.seq
   (.reg [.mv 2 (.c (.n 1))])
  (.seq
   (.reg [.mks 8 1 [],
    .mv 3 (.t 8)])
  (.seq
   (.reg [.mv 10 (.t 0),
    .call (some 11) (.c (Fc F.spec_ReadAll)) [(.t 10)] (.ro false),
    .mv 9 (.t 11),
    .ext 12 (.t 9) 0,
    .ext 13 (.t 9) 1,
    .mv 4 (.t 12),
    .mv 5 (.t 13)])
  (.keep [3,4]
   (.seq
    (.seq
     (.reg [.mv 6 (.c (I 0))])
    (.block 0
     (lpC L.spec_IncludesIn_0)))
   (.keep [3]
    (.seq
     (.reg [.mv 54 (.t 3),
      .mv 2 (.t 54)])
    (.keep [2]
     .ret))))))))
def LB.laws_eqStringS_0:AC:=
 (.seq
  (.seq
   (.reg [.mv 11 (.t 5),
    .mv 12 (.t 0),
    .len 13 (.t 12),
    .bin 14 .lss (.t 11) (.t 13)])
  (.keep [0,1,5,14]
   (.cond (.t 14)
    .skip
    (.keep []
     (.exit 0)))))
 (.keep [0,1,5]
  (.seq
   (.block 1
    (.seq
     (.dreg [⟨0,[]⟩,⟨0,[]⟩,⟨0,[(0,0),(0,1),(0,2),(0,3),(100000,0),(100000,1),(100000,2),(100000,3),(100000,4),(100000,5)]⟩,⟨0,[(0,0),(0,1),(0,2),(0,3),(100000,0),(100000,1),(100000,2),(100000,3),(100000,4),(100000,5)]⟩,⟨0,[]⟩,⟨0,[]⟩,⟨0,[(1,0),(1,1),(1,2),(1,3),(100000,0),(100000,1),(100000,2),(100000,3),(100000,4),(100000,5)]⟩,⟨0,[(1,0),(1,1),(1,2),(1,3),(100000,0),(100000,1),(100000,2),(100000,3),(100000,4),(100000,5)]⟩,⟨0,[]⟩]
      [.mv 17 (.t 0),
       .mv 18 (.t 5),
       .ia 19 1 (.t 17) (.t 18),
       .ldq 20 false 1 (.t 19),
       .mv 21 (.t 1),
       .mv 22 (.t 5),
       .ia 23 1 (.t 21) (.t 22),
       .ldq 24 false 1 (.t 23),
       .bin 25 .neq (.t 20) (.t 24)])
    (.keep [0,1,5,25]
     (.cond (.t 25)
      (.seq
       (.reg [.mv 4 (.c (B false))])
      (.keep [4]
       .ret))
      .skip))))
  (.keep [0,1,5]
   (.reg [.mv 15 (.t 5),
    .bin 16 .add (.t 15) (.c (I 1)),
    .mv 5 (.t 16)])))))
def L.laws_eqStringS_0:Lp:=⟨[0,1,5],[(2,0)],LB.laws_eqStringS_0⟩
@[go_sem] theorem L.laws_eqStringS_0_ls:L.laws_eqStringS_0.ls=[0,1,5]:=rfl
@[go_sem] theorem L.laws_eqStringS_0_ks:L.laws_eqStringS_0.ks=[(2,0)]:=rfl
@[go_sem] theorem L.laws_eqStringS_0_b:L.laws_eqStringS_0.body=LB.laws_eqStringS_0:=rfl
def A.laws_eqStringS:AF where
 nargs:=2
 ntmps:=26
 res:=[.tmp 4]
 body:=
  (.seq
   (.reg [.mv 4 (.c (B false))])
  (.seq
   (.seq
    (.reg [.mv 6 (.t 0),
     .len 7 (.t 6),
     .mv 8 (.t 1),
     .len 9 (.t 8),
     .bin 10 .neq (.t 7) (.t 9)])
   (.keep [0,1,10]
    (.cond (.t 10)
     (.seq
      (.reg [.mv 4 (.c (B false))])
     (.keep [4]
      .ret))
     .skip)))
  (.keep [0,1]
   (.seq
    (.seq
     (.reg [.mv 5 (.c (I 0))])
    (.block 0
     (lpC L.laws_eqStringS_0)))
   (.keep []
    (.seq
     (.reg [.mv 4 (.c (B true))])
    (.keep [4]
     .ret)))))))
def LB.laws_markStringS_0:AC:=
 (.seq
  (.seq
   (.reg [.mv 6 (.t 5),
    .mv 7 (.t 0),
    .len 8 (.t 7),
    .bin 9 .lss (.t 6) (.t 8)])
  (.keep [0,1,5,9]
   (.cond (.t 9)
    .skip
    (.keep [1]
     (.exit 0)))))
 (.keep [0,1,5]
  (.seq
   (.block 1
    (.seq
     (.reg [.mv 12 (.t 0),
      .mv 13 (.t 5),
      .mv 14 (.t 1),
      .call (some 15) (.c (Fc F.laws_markText)) [(.t 14)] (.ro false),
      .ia 16 1 (.t 12) (.t 13),
      .st 1 (.t 16) (.t 15)])
    (.keep [0,1,5]
     (.reg [.mv 17 (.t 1),
      .bin 18 .add (.t 17) (.c (I 1)),
      .mv 1 (.t 18)]))))
  (.keep [0,1,5]
   (.reg [.mv 10 (.t 5),
    .bin 11 .add (.t 10) (.c (I 1)),
    .mv 5 (.t 11)])))))
def L.laws_markStringS_0:Lp:=⟨[0,1,5],[(2,0)],LB.laws_markStringS_0⟩
@[go_sem] theorem L.laws_markStringS_0_ls:L.laws_markStringS_0.ls=[0,1,5]:=rfl
@[go_sem] theorem L.laws_markStringS_0_ks:L.laws_markStringS_0.ks=[(2,0)]:=rfl
@[go_sem] theorem L.laws_markStringS_0_b:L.laws_markStringS_0.body=LB.laws_markStringS_0:=rfl
def A.laws_markStringS:AF where
 nargs:=2
 ntmps:=20
 res:=[.tmp 4]
 body:=
  (.seq
   (.reg [.mv 4 (.c (I 0))])
  (.seq
   (.seq
    (.reg [.mv 5 (.c (I 0))])
   (.block 0
    (lpC L.laws_markStringS_0)))
  (.keep [1]
   (.seq
    (.reg [.mv 19 (.t 1),
     .mv 4 (.t 19)])
   (.keep [4]
    .ret)))))
def LB.laws_heldStringS_0:AC:=
 (.seq
  (.seq
   (.reg [.mv 6 (.t 5),
    .mv 7 (.t 0),
    .len 8 (.t 7),
    .bin 9 .lss (.t 6) (.t 8)])
  (.keep [0,1,5,9]
   (.cond (.t 9)
    .skip
    (.keep [1]
     (.exit 0)))))
 (.keep [0,1,5]
  (.seq
   (.block 1
    (.seq
     (.seq
      (.dreg [⟨0,[]⟩,⟨0,[]⟩,⟨0,[(0,0),(0,1),(0,2),(0,3),(100000,0),(100000,1),(100000,2),(100000,3),(100000,4),(100000,5)]⟩,⟨0,[(0,0),(0,1),(0,2),(0,3),(100000,0),(100000,1),(100000,2),(100000,3),(100000,4),(100000,5)]⟩,⟨0,[]⟩,⟨2,[(1,0),(1,1),(1,2),(1,3),(100000,0),(100000,1),(100000,2),(100000,3),(100000,4),(100000,5)]⟩,⟨0,[]⟩]
       [.mv 12 (.t 0),
        .mv 13 (.t 5),
        .ia 14 1 (.t 12) (.t 13),
        .ldq 15 false 1 (.t 14),
        .mv 16 (.t 1),
        .call (some 17) (.c (Fc F.laws_markText)) [(.t 16)] (.ro true),
        .bin 18 .neq (.t 15) (.t 17)])
     (.keep [0,1,5,18]
      (.cond (.t 18)
       (.seq
        (.reg [.mv 4 (.c (I (-1)))])
       (.keep [4]
        .ret))
       .skip)))
    (.keep [0,1,5]
     (.reg [.mv 19 (.t 1),
      .bin 20 .add (.t 19) (.c (I 1)),
      .mv 1 (.t 20)]))))
  (.keep [0,1,5]
   (.reg [.mv 10 (.t 5),
    .bin 11 .add (.t 10) (.c (I 1)),
    .mv 5 (.t 11)])))))
def L.laws_heldStringS_0:Lp:=⟨[0,1,5],[(2,0)],LB.laws_heldStringS_0⟩
@[go_sem] theorem L.laws_heldStringS_0_ls:L.laws_heldStringS_0.ls=[0,1,5]:=rfl
@[go_sem] theorem L.laws_heldStringS_0_ks:L.laws_heldStringS_0.ks=[(2,0)]:=rfl
@[go_sem] theorem L.laws_heldStringS_0_b:L.laws_heldStringS_0.body=LB.laws_heldStringS_0:=rfl
def A.laws_heldStringS:AF where
 nargs:=2
 ntmps:=22
 res:=[.tmp 4]
 body:=
  (.seq
   (.reg [.mv 4 (.c (I 0))])
  (.seq
   (.seq
    (.reg [.mv 5 (.c (I 0))])
   (.block 0
    (lpC L.laws_heldStringS_0)))
  (.keep [1]
   (.seq
    (.reg [.mv 21 (.t 1),
     .mv 4 (.t 21)])
   (.keep [4]
    .ret)))))
def LB.laws_szFileS_0:AC:=
 (.seq
  (.seq
   (.reg [.mv 12 (.t 5),
    .mv 13 (.t 0),
    .len 14 (.t 13),
    .bin 15 .lss (.t 12) (.t 14)])
  (.keep [0,1,5,15]
   (.cond (.t 15)
    .skip
    (.keep [1]
     (.exit 0)))))
 (.keep [0,1,5]
  (.seq
   (.block 1
    (.seq
     (.reg [.mv 18 (.t 0),
      .mv 19 (.t 5),
      .ia 20 2 (.t 18) (.t 19),
      .ld 21 true 2 (.t 20),
      .mv 22 (.t 1),
      .call (some 23) (.c (Fc F.laws_szFile)) [(.t 21),(.t 22)] (.ro false),
      .mv 1 (.t 23)])
    (.keep [0,1,5]
     (.seq
      (.reg [.mv 24 (.t 1),
       .bin 25 .lss (.t 24) (.c (I 0))])
     (.cond (.t 25)
      (.seq
       (.reg [.mv 4 (.c (I (-1)))])
      (.keep [4]
       .ret))
      .skip)))))
  (.keep [0,1,5]
   (.reg [.mv 16 (.t 5),
    .bin 17 .add (.t 16) (.c (I 1)),
    .mv 5 (.t 17)])))))
def L.laws_szFileS_0:Lp:=⟨[0,1,5],[(2,0)],LB.laws_szFileS_0⟩
@[go_sem] theorem L.laws_szFileS_0_ls:L.laws_szFileS_0.ls=[0,1,5]:=rfl
@[go_sem] theorem L.laws_szFileS_0_ks:L.laws_szFileS_0.ks=[(2,0)]:=rfl
@[go_sem] theorem L.laws_szFileS_0_b:L.laws_szFileS_0.body=LB.laws_szFileS_0:=rfl
def A.laws_szFileS:AF where
 nargs:=2
 ntmps:=27
 res:=[.tmp 4]
 body:=
  (.seq
   (.reg [.mv 4 (.c (I 0))])
  (.seq
   (.reg [.mv 6 (.t 1),
    .mv 7 (.t 0),
    .len 8 (.t 7),
    .bin 9 .sub (.t 6) (.t 8),
    .mv 1 (.t 9)])
  (.keep [0,1]
   (.seq
    (.seq
     (.reg [.mv 10 (.t 1),
      .bin 11 .lss (.t 10) (.c (I 0))])
    (.cond (.t 11)
     (.seq
      (.reg [.mv 4 (.c (I (-1)))])
     (.keep [4]
      .ret))
     .skip))
   (.keep [0,1]
    (.seq
     (.seq
      (.reg [.mv 5 (.c (I 0))])
     (.block 0
      (lpC L.laws_szFileS_0)))
    (.keep [1]
     (.seq
      (.reg [.mv 26 (.t 1),
       .mv 4 (.t 26)])
     (.keep [4]
      .ret)))))))))
def LB.laws_toFileS_0:AC:=
 (.seq
  (.seq
   (.reg [.mv 8 (.t 4),
    .mv 9 (.t 0),
    .len 10 (.t 9),
    .bin 11 .lss (.t 8) (.t 10)])
  (.keep [0,3,4,11]
   (.cond (.t 11)
    .skip
    (.keep [3]
     (.exit 0)))))
 (.keep [0,3,4]
  (.seq
   (.block 1
    (.reg [.mv 14 (.t 3),
     .mv 15 (.t 4),
     .mv 16 (.t 0),
     .mv 17 (.t 4),
     .ia 18 2 (.t 16) (.t 17),
     .ld 19 true 2 (.t 18),
     .call (some 20) (.c (Fc F.laws_toFile)) [(.t 19)] (.ro false),
     .ia 21 2 (.t 14) (.t 15),
     .st 2 (.t 21) (.t 20)]))
  (.keep [0,3,4]
   (.reg [.mv 12 (.t 4),
    .bin 13 .add (.t 12) (.c (I 1)),
    .mv 4 (.t 13)])))))
def L.laws_toFileS_0:Lp:=⟨[0,3,4],[(1,0)],LB.laws_toFileS_0⟩
@[go_sem] theorem L.laws_toFileS_0_ls:L.laws_toFileS_0.ls=[0,3,4]:=rfl
@[go_sem] theorem L.laws_toFileS_0_ks:L.laws_toFileS_0.ks=[(1,0)]:=rfl
@[go_sem] theorem L.laws_toFileS_0_b:L.laws_toFileS_0.body=LB.laws_toFileS_0:=rfl
def A.laws_toFileS:AF where
 nargs:=1
 ntmps:=23
 res:=[.tmp 2]
 body:=
  (.seq
   (.reg [.mv 2 (.c (.n 2))])
  (.seq
   (.reg [.mv 5 (.t 0),
    .len 6 (.t 5),
    .mk 7 2 (.a [(S []),(S [])]) 32 (.t 6) (.t 6),
    .mv 3 (.t 7)])
  (.keep [0,3]
   (.seq
    (.seq
     (.reg [.mv 4 (.c (I 0))])
    (.block 0
     (lpC L.laws_toFileS_0)))
   (.keep [3]
    (.seq
     (.reg [.mv 22 (.t 3),
      .mv 2 (.t 22)])
    (.keep [2]
     .ret)))))))
def LB.laws_eqFileS_0:AC:=
 (.seq
  (.seq
   (.reg [.mv 11 (.t 5),
    .mv 12 (.t 0),
    .len 13 (.t 12),
    .bin 14 .lss (.t 11) (.t 13)])
  (.keep [0,1,5,14]
   (.cond (.t 14)
    .skip
    (.keep []
     (.exit 0)))))
 (.keep [0,1,5]
  (.seq
   (.block 1
    (.seq
     (.dreg [⟨0,[]⟩,⟨0,[]⟩,⟨0,[(0,0),(0,1),(0,2),(0,3),(100000,0),(100000,1),(100000,2),(100000,3),(100000,4),(100000,5)]⟩,⟨0,[(0,0),(0,1),(0,2),(0,3),(100000,0),(100000,1),(100000,2),(100000,3),(100000,4),(100000,5)]⟩,⟨0,[]⟩,⟨0,[]⟩,⟨0,[(1,0),(1,1),(1,2),(1,3),(100000,0),(100000,1),(100000,2),(100000,3),(100000,4),(100000,5)]⟩,⟨0,[(1,0),(1,1),(1,2),(1,3),(100000,0),(100000,1),(100000,2),(100000,3),(100000,4),(100000,5)]⟩,⟨2,[(0,0),(0,1),(0,2),(0,3),(1,0),(1,1),(1,2),(1,3),(20,0),(24,0),(100000,0),(100000,1),(100000,2),(100000,3),(100000,4),(100000,5)]⟩,⟨0,[]⟩]
      [.mv 17 (.t 0),
       .mv 18 (.t 5),
       .ia 19 2 (.t 17) (.t 18),
       .ldq 20 true 2 (.t 19),
       .mv 21 (.t 1),
       .mv 22 (.t 5),
       .ia 23 2 (.t 21) (.t 22),
       .ldq 24 true 2 (.t 23),
       .call (some 25) (.c (Fc F.laws_eqFile)) [(.t 20),(.t 24)] (.ro true),
       .un 26 .not (.t 25)])
    (.keep [0,1,5,26]
     (.cond (.t 26)
      (.seq
       (.reg [.mv 4 (.c (B false))])
      (.keep [4]
       .ret))
      .skip))))
  (.keep [0,1,5]
   (.reg [.mv 15 (.t 5),
    .bin 16 .add (.t 15) (.c (I 1)),
    .mv 5 (.t 16)])))))
def L.laws_eqFileS_0:Lp:=⟨[0,1,5],[(2,0)],LB.laws_eqFileS_0⟩
@[go_sem] theorem L.laws_eqFileS_0_ls:L.laws_eqFileS_0.ls=[0,1,5]:=rfl
@[go_sem] theorem L.laws_eqFileS_0_ks:L.laws_eqFileS_0.ks=[(2,0)]:=rfl
@[go_sem] theorem L.laws_eqFileS_0_b:L.laws_eqFileS_0.body=LB.laws_eqFileS_0:=rfl
def A.laws_eqFileS:AF where
 nargs:=2
 ntmps:=27
 res:=[.tmp 4]
 body:=
  (.seq
   (.reg [.mv 4 (.c (B false))])
  (.seq
   (.seq
    (.reg [.mv 6 (.t 0),
     .len 7 (.t 6),
     .mv 8 (.t 1),
     .len 9 (.t 8),
     .bin 10 .neq (.t 7) (.t 9)])
   (.keep [0,1,10]
    (.cond (.t 10)
     (.seq
      (.reg [.mv 4 (.c (B false))])
     (.keep [4]
      .ret))
     .skip)))
  (.keep [0,1]
   (.seq
    (.seq
     (.reg [.mv 5 (.c (I 0))])
    (.block 0
     (lpC L.laws_eqFileS_0)))
   (.keep []
    (.seq
     (.reg [.mv 4 (.c (B true))])
    (.keep [4]
     .ret)))))))
def A.slices_Contains_string_string:AF where
 nargs:=2
 ntmps:=9
 res:=[.tmp 4]
 body:=
  (.seq
   (.reg [.mv 4 (.c (B false))])
  (.seq
   (.reg [.mv 5 (.t 0),
    .mv 6 (.t 1),
    .call (some 7) (.c (Fc F.slices_Index_string_string)) [(.t 5),(.t 6)] (.ro false),
    .bin 8 .geq (.t 7) (.c (I 0)),
    .mv 4 (.t 8)])
  (.keep [4]
   .ret)))
def LB.impl_ReadAll_0:AC:=
 (.seq
  (.seq
   (.reg [.mv 18 (.t 8),
    .mv 19 (.t 4),
    .len 20 (.t 19),
    .bin 21 .lss (.t 18) (.t 20)])
  (.keep [4,6,7,8,21]
   (.cond (.t 21)
    .skip
    (.keep [6,7]
     (.exit 0)))))
 (.keep [4,6,7,8]
  (.block 1
   (.seq
    (.reg [.mv 23 (.t 4),
     .mv 24 (.t 8),
     .call (some 25) (.c (Fc F.impl_ReadSigns)) [(.t 23),(.t 24)] (.ro false),
     .mv 22 (.t 25),
     .ext 26 (.t 22) 0,
     .ext 27 (.t 22) 1,
     .ext 28 (.t 22) 2,
     .ext 29 (.t 22) 3,
     .new 9 (.c (.a [(I 0),(S []),(I 0),(.n 4)])),
     .st 4 (.t 9) (.t 26),
     .mv 10 (.t 27),
     .mv 11 (.t 28),
     .mv 12 (.t 29)])
   (.keep [4,6,7,9,11,12]
    (.seq
     (.seq
      (.reg [.mv 30 (.t 12)])
     (.cond (.t 30)
      (.reg [.mv 31 (.t 6),
       .ld 32 true 4 (.t 9),
       .mks 33 4 [(.t 32)],
       .app 34 4 56 (.t 31) (.t 33),
       .mv 6 (.t 34)])
      (.reg [.mv 35 (.t 7),
       .bin 36 .add (.t 35) (.c (I 1)),
       .mv 7 (.t 36)])))
    (.keep [4,6,7,11]
     (.reg [.mv 37 (.t 11),
      .mv 8 (.t 37)]))))))))
def L.impl_ReadAll_0:Lp:=⟨[4,6,7,8],[(1,0)],LB.impl_ReadAll_0⟩
@[go_sem] theorem L.impl_ReadAll_0_ls:L.impl_ReadAll_0.ls=[4,6,7,8]:=rfl
@[go_sem] theorem L.impl_ReadAll_0_ks:L.impl_ReadAll_0.ks=[(1,0)]:=rfl
@[go_sem] theorem L.impl_ReadAll_0_b:L.impl_ReadAll_0.body=LB.impl_ReadAll_0:=rfl
def A.impl_ReadAll:AF where
 nargs:=1
 ntmps:=40
 res:=[.tmp 2,.tmp 3]
 body:=
  (.seq
   (.reg [.mv 2 (.c (.n 4)),
    .mv 3 (.c (I 0))])
  (.seq
   (.reg [.mv 14 (.t 0),
    .call (some 15) (.c (Fc F.impl_SignsOf)) [(.t 14)] (.ro false),
    .mv 13 (.t 15),
    .ext 16 (.t 13) 0,
    .ext 17 (.t 13) 1,
    .mv 4 (.t 16),
    .mv 5 (.t 17)])
  (.keep [4]
   (.seq
    (.reg [.mv 6 (.c (.n 4))])
   (.seq
    (.reg [.mv 7 (.c (I 0))])
   (.seq
    (.seq
     (.reg [.mv 8 (.c (I 0))])
    (.block 0
     (lpC L.impl_ReadAll_0)))
   (.keep [6,7]
    (.seq
     (.reg [.mv 38 (.t 6),
      .mv 39 (.t 7),
      .mv 2 (.t 38),
      .mv 3 (.t 39)])
    (.keep [2,3]
     .ret)))))))))
def A.impl_isStruct:AF where
 nargs:=3
 ntmps:=23
 res:=[.tmp 6]
 body:=
  (.seq
   (.reg [.new 3 (.t 0),
    .mv 6 (.c (B false))])
  (.seq
   (.reg [.fa 7 (.t 3) 0,
    .ld 8 false 1 (.t 7),
    .bin 9 .eql (.t 8) (.c (I 4)),
    .mv 10 (.t 9),
    .gd 10 true (some 11) (.fa 11 (.t 3) 1),
    .gd 10 true (some 12) (.ld 12 false 1 (.t 11)),
    .gd 10 true (some 13) (.mv 13 (.t 1)),
    .gd 10 true (some 14) (.bin 14 .eql (.t 12) (.t 13)),
    .pick 15 (.t 10) (.t 14) (.c (B false)),
    .mv 16 (.t 15),
    .gd 16 true (some 17) (.fa 17 (.t 3) 3),
    .gd 16 true (some 18) (.ld 18 false 1 (.t 17)),
    .gd 16 true (some 19) (.len 19 (.t 18)),
    .gd 16 true (some 20) (.mv 20 (.t 2)),
    .gd 16 true (some 21) (.bin 21 .eql (.t 19) (.t 20)),
    .pick 22 (.t 16) (.t 21) (.c (B false)),
    .mv 6 (.t 22)])
  (.keep [6]
   .ret)))
def A.impl_once:AF where
 nargs:=2
 ntmps:=13
 res:=[.tmp 4]
 body:=
  (.seq
   (.reg [.mv 4 (.c (.n 1))])
  (.seq
   (.seq
    (.reg [.mv 5 (.t 0),
     .mv 6 (.t 1),
     .call (some 7) (.c (Fc F.slices_Contains_string_string)) [(.t 5),(.t 6)] (.ro true)])
   (.cond (.t 7)
    (.seq
     (.reg [.mv 8 (.t 0),
      .mv 4 (.t 8)])
    (.keep [4]
     .ret))
    .skip))
  (.keep [0,1]
   (.seq
    (.reg [.mv 9 (.t 0),
     .mv 10 (.t 1),
     .mks 11 1 [(.t 10)],
     .app 12 1 16 (.t 9) (.t 11),
     .mv 4 (.t 12)])
   (.keep [4]
    .ret)))))
def LB.spec_ReadAll_0:AC:=
 (.seq
  (.seq
   (.reg [.mv 19 (.t 8),
    .mv 20 (.t 6),
    .len 21 (.t 20),
    .bin 22 .lss (.t 19) (.t 21)])
  (.keep [4,5,6,8,22]
   (.cond (.t 22)
    .skip
    (.keep [4,5]
     (.exit 0)))))
 (.keep [4,5,6,8]
  (.block 1
   (.seq
    (.reg [.mv 24 (.t 6),
     .mv 25 (.t 8),
     .call (some 26) (.c (Fc F.spec_ReadSigns)) [(.t 24),(.t 25)] (.ro false),
     .mv 23 (.t 26),
     .ext 27 (.t 23) 0,
     .ext 28 (.t 23) 1,
     .ext 29 (.t 23) 2,
     .ext 30 (.t 23) 3,
     .new 9 (.c (.a [(I 0),(S []),(I 0),(.n 4)])),
     .st 4 (.t 9) (.t 27),
     .mv 10 (.t 28),
     .mv 11 (.t 29),
     .mv 12 (.t 30)])
   (.keep [4,5,6,9,11,12]
    (.seq
     (.seq
      (.reg [.mv 31 (.t 12)])
     (.cond (.t 31)
      (.reg [.mv 32 (.t 4),
       .ld 33 true 4 (.t 9),
       .mks 34 4 [(.t 33)],
       .app 35 4 56 (.t 32) (.t 34),
       .mv 4 (.t 35)])
      (.reg [.mv 36 (.t 5),
       .bin 37 .add (.t 36) (.c (I 1)),
       .mv 5 (.t 37)])))
    (.keep [4,5,6,11]
     (.reg [.mv 38 (.t 11),
      .mv 8 (.t 38)]))))))))
def L.spec_ReadAll_0:Lp:=⟨[4,5,6,8],[(1,0)],LB.spec_ReadAll_0⟩
@[go_sem] theorem L.spec_ReadAll_0_ls:L.spec_ReadAll_0.ls=[4,5,6,8]:=rfl
@[go_sem] theorem L.spec_ReadAll_0_ks:L.spec_ReadAll_0.ks=[(1,0)]:=rfl
@[go_sem] theorem L.spec_ReadAll_0_b:L.spec_ReadAll_0.body=LB.spec_ReadAll_0:=rfl
def A.spec_ReadAll:AF where
 nargs:=1
 ntmps:=41
 res:=[.tmp 2,.tmp 3]
 body:=
  (.seq
   (.reg [.mv 2 (.c (.n 4)),
    .mv 3 (.c (I 0))])
  (.seq
   (.reg [.mks 13 4 [],
    .mv 4 (.t 13)])
  (.seq
   (.reg [.mv 5 (.c (I 0))])
  (.seq
   (.reg [.mv 15 (.t 0),
    .call (some 16) (.c (Fc F.spec_SignsOf)) [(.t 15)] (.ro false),
    .mv 14 (.t 16),
    .ext 17 (.t 14) 0,
    .ext 18 (.t 14) 1,
    .mv 6 (.t 17),
    .mv 7 (.t 18)])
  (.keep [4,5,6]
   (.seq
    (.reg [.mv 8 (.c (I 0))])
   (.seq
    (.block 0
     (lpC L.spec_ReadAll_0))
   (.keep [4,5]
    (.seq
     (.reg [.mv 39 (.t 4),
      .mv 40 (.t 5),
      .mv 2 (.t 39),
      .mv 3 (.t 40)])
    (.keep [2,3]
     .ret))))))))))
def A.spec_l03Is:AF where
 nargs:=3
 ntmps:=23
 res:=[.tmp 6]
 body:=
  (.seq
   (.reg [.new 3 (.t 0),
    .mv 6 (.c (B false))])
  (.seq
   (.reg [.fa 7 (.t 3) 0,
    .ld 8 false 1 (.t 7),
    .bin 9 .eql (.t 8) (.c (I 4)),
    .mv 10 (.t 9),
    .gd 10 true (some 11) (.fa 11 (.t 3) 1),
    .gd 10 true (some 12) (.ld 12 false 1 (.t 11)),
    .gd 10 true (some 13) (.mv 13 (.t 1)),
    .gd 10 true (some 14) (.bin 14 .eql (.t 12) (.t 13)),
    .pick 15 (.t 10) (.t 14) (.c (B false)),
    .mv 16 (.t 15),
    .gd 16 true (some 17) (.fa 17 (.t 3) 3),
    .gd 16 true (some 18) (.ld 18 false 1 (.t 17)),
    .gd 16 true (some 19) (.len 19 (.t 18)),
    .gd 16 true (some 20) (.mv 20 (.t 2)),
    .gd 16 true (some 21) (.bin 21 .eql (.t 19) (.t 20)),
    .pick 22 (.t 16) (.t 21) (.c (B false)),
    .mv 6 (.t 22)])
  (.keep [6]
   .ret)))
def A.spec_l23Add:AF where
 nargs:=2
 ntmps:=15
 res:=[.tmp 4]
 body:=
  (.seq
   (.reg [.mv 4 (.c (.n 1))])
  (.seq
   (.seq
    (.reg [.mv 5 (.t 0),
     .mv 6 (.t 1),
     .call (some 7) (.c (Fc F.spec_l23Has)) [(.t 5),(.t 6)] (.ro true)])
   (.cond (.t 7)
    (.seq
     (.reg [.mv 8 (.t 0),
      .mv 4 (.t 8)])
    (.keep [4]
     .ret))
    .skip))
  (.keep [0,1]
   (.seq
    (.reg [.mks 9 1 [],
     .mv 10 (.t 0),
     .app 11 1 16 (.t 9) (.t 10),
     .mv 12 (.t 1),
     .mks 13 1 [(.t 12)],
     .app 14 1 16 (.t 11) (.t 13),
     .mv 4 (.t 14)])
   (.keep [4]
    .ret)))))
def LB.laws_markText_0:AC:=
 (.seq
  (.seq
   (.reg [.mv 6 (.t 0),
    .bin 7 .gtr (.t 6) (.c (I 0))])
  (.cond (.t 7)
   .skip
   (.keep [3]
    (.exit 0))))
 (.keep [0,3]
  (.block 1
   (.seq
    (.reg [.mv 8 (.t 0),
     .bin 9 .rem (.t 8) (.c (I 10)),
     .bin 10 .add (.c (I 48)) (.t 9),
     .int 11 .u8 (.t 10),
     .mks 12 1 [(.t 11)],
     .str 13 (.t 12),
     .mv 14 (.t 3),
     .bin 15 .add (.t 13) (.t 14),
     .mv 3 (.t 15)])
   (.keep [0,3]
    (.reg [.mv 16 (.t 0),
     .bin 17 .quo (.t 16) (.c (I 10)),
     .mv 0 (.t 17)]))))))
def L.laws_markText_0:Lp:=⟨[0,3],[(1,0)],LB.laws_markText_0⟩
@[go_sem] theorem L.laws_markText_0_ls:L.laws_markText_0.ls=[0,3]:=rfl
@[go_sem] theorem L.laws_markText_0_ks:L.laws_markText_0.ks=[(1,0)]:=rfl
@[go_sem] theorem L.laws_markText_0_b:L.laws_markText_0.body=LB.laws_markText_0:=rfl
def A.laws_markText:AF where
 nargs:=1
 ntmps:=20
 res:=[.tmp 2]
 body:=
  (.seq
   (.reg [.mv 2 (.c (S []))])
  (.seq
   (.seq
    (.reg [.mv 4 (.t 0),
     .bin 5 .leq (.t 4) (.c (I 0))])
   (.cond (.t 5)
    (.seq
     (.reg [.mv 2 (.c (S [109,48]))])
    (.keep [2]
     .ret))
    .skip))
  (.keep [0]
   (.seq
    (.reg [.mv 3 (.c (S []))])
   (.seq
    (.block 0
     (lpC L.laws_markText_0))
   (.keep [3]
    (.seq
     (.reg [.mv 18 (.t 3),
      .bin 19 .add (.c (S [109])) (.t 18),
      .mv 2 (.t 19)])
    (.keep [2]
     .ret))))))))
def A.laws_szFile:AF where
 nargs:=2
 ntmps:=20
 res:=[.tmp 4]
 body:=
  (.seq
   (.reg [.new 2 (.t 0),
    .mv 4 (.c (I 0))])
  (.seq
   (.reg [.mv 5 (.t 1),
    .fa 6 (.t 2) 0,
    .ld 7 false 1 (.t 6),
    .slen 8 (.t 7),
    .bin 9 .sub (.t 5) (.t 8),
    .mv 1 (.t 9)])
  (.keep [1,2]
   (.seq
    (.seq
     (.reg [.mv 10 (.t 1),
      .bin 11 .lss (.t 10) (.c (I 0))])
    (.cond (.t 11)
     (.seq
      (.reg [.mv 4 (.c (I (-1)))])
     (.keep [4]
      .ret))
     .skip))
   (.keep [1,2]
    (.seq
     (.reg [.mv 12 (.t 1),
      .fa 13 (.t 2) 1,
      .ld 14 false 1 (.t 13),
      .slen 15 (.t 14),
      .bin 16 .sub (.t 12) (.t 15),
      .mv 1 (.t 16)])
    (.keep [1]
     (.seq
      (.seq
       (.reg [.mv 17 (.t 1),
        .bin 18 .lss (.t 17) (.c (I 0))])
      (.cond (.t 18)
       (.seq
        (.reg [.mv 4 (.c (I (-1)))])
       (.keep [4]
        .ret))
       .skip))
     (.keep [1]
      (.seq
       (.reg [.mv 19 (.t 1),
        .mv 4 (.t 19)])
      (.keep [4]
       .ret)))))))))))
def LB.spec_l23Has_0:AC:=
 (.seq
  (.seq
   (.reg [.mv 6 (.t 5),
    .mv 7 (.t 0),
    .len 8 (.t 7),
    .bin 9 .lss (.t 6) (.t 8)])
  (.keep [0,1,5,9]
   (.cond (.t 9)
    .skip
    (.keep []
     (.exit 0)))))
 (.keep [0,1,5]
  (.seq
   (.block 1
    (.seq
     (.reg [.mv 12 (.t 0),
      .mv 13 (.t 5),
      .ia 14 1 (.t 12) (.t 13),
      .ld 15 false 1 (.t 14),
      .mv 16 (.t 1),
      .bin 17 .eql (.t 15) (.t 16)])
    (.keep [0,1,5,17]
     (.cond (.t 17)
      (.seq
       (.reg [.mv 4 (.c (B true))])
      (.keep [4]
       .ret))
      .skip))))
  (.keep [0,1,5]
   (.reg [.mv 10 (.t 5),
    .bin 11 .add (.t 10) (.c (I 1)),
    .mv 5 (.t 11)])))))
def L.spec_l23Has_0:Lp:=⟨[0,1,5],[(2,0)],LB.spec_l23Has_0⟩
@[go_sem] theorem L.spec_l23Has_0_ls:L.spec_l23Has_0.ls=[0,1,5]:=rfl
@[go_sem] theorem L.spec_l23Has_0_ks:L.spec_l23Has_0.ks=[(2,0)]:=rfl
@[go_sem] theorem L.spec_l23Has_0_b:L.spec_l23Has_0.body=LB.spec_l23Has_0:=rfl
def A.spec_l23Has:AF where
 nargs:=2
 ntmps:=18
 res:=[.tmp 4]
 body:=
  (.seq
   (.reg [.mv 4 (.c (B false))])
  (.seq
   (.seq
    (.reg [.mv 5 (.c (I 0))])
   (.block 0
    (lpC L.spec_l23Has_0)))
  (.keep []
   (.seq
    (.reg [.mv 4 (.c (B false))])
   (.keep [4]
    .ret)))))
def A.laws_toFile:AF where
 nargs:=1
 ntmps:=11
 res:=[.cell 2 true 2]
 body:=
  (.seq
   (.reg [.new 1 (.t 0),
    .new 2 (.c (.a [(S []),(S [])]))])
  (.seq
   (.reg [.new 3 (.c (.a [(S []),(S [])]))])
  (.seq
   (.reg [.fa 4 (.t 1) 0,
    .ld 5 false 1 (.t 4),
    .fa 6 (.t 3) 0,
    .st 1 (.t 6) (.t 5)])
  (.keep [1,2,3]
   (.seq
    (.reg [.fa 7 (.t 1) 1,
     .ld 8 false 1 (.t 7),
     .fa 9 (.t 3) 1,
     .st 1 (.t 9) (.t 8)])
   (.keep [2,3]
    (.seq
     (.reg [.ld 10 true 2 (.t 3),
      .st 2 (.t 2) (.t 10)])
    (.keep [2]
     .ret))))))))
def A.laws_eqFile:AF where
 nargs:=2
 ntmps:=15
 res:=[.tmp 4]
 body:=
  (.seq
   (.reg [.new 2 (.t 0),
    .new 3 (.t 1),
    .mv 4 (.c (B false))])
  (.seq
   (.seq
    (.reg [.fa 5 (.t 2) 0,
     .ld 6 false 1 (.t 5),
     .fa 7 (.t 3) 0,
     .ld 8 false 1 (.t 7),
     .bin 9 .neq (.t 6) (.t 8)])
   (.keep [2,3,9]
    (.cond (.t 9)
     (.seq
      (.reg [.mv 4 (.c (B false))])
     (.keep [4]
      .ret))
     .skip)))
  (.keep [2,3]
   (.seq
    (.seq
     (.reg [.fa 10 (.t 2) 1,
      .ld 11 false 1 (.t 10),
      .fa 12 (.t 3) 1,
      .ld 13 false 1 (.t 12),
      .bin 14 .neq (.t 11) (.t 13)])
    (.keep [14]
     (.cond (.t 14)
      (.seq
       (.reg [.mv 4 (.c (B false))])
      (.keep [4]
       .ret))
      .skip)))
   (.keep []
    (.seq
     (.reg [.mv 4 (.c (B true))])
    (.keep [4]
     .ret)))))))
def LB.slices_Index_string_string_0:AC:=
 (.seq
  (.reg [.bin 9 .lss (.t 8) (.t 7)])
 (.seq
  (.cond (.t 9)
   .skip
   (.keep []
    (.exit 0)))
 (.keep [0,1,7,8]
  (.seq
   (.block 1
    (.seq
     (.reg [.mv 10 (.t 8),
      .mv 5 (.t 10)])
    (.seq
     (.reg [.mv 11 (.t 1),
      .mv 12 (.t 0),
      .mv 13 (.t 5),
      .ia 14 1 (.t 12) (.t 13),
      .ld 15 false 1 (.t 14),
      .bin 16 .eql (.t 11) (.t 15)])
    (.keep [0,1,5,7,8,16]
     (.cond (.t 16)
      (.seq
       (.reg [.mv 17 (.t 5),
        .mv 4 (.t 17)])
      (.keep [4]
       .ret))
      .skip)))))
  (.keep [0,1,7,8]
   (.reg [.bin 18 .add (.t 8) (.c (I 1)),
    .mv 8 (.t 18)]))))))
def L.slices_Index_string_string_0:Lp:=⟨[0,1,7,8],[(2,0)],LB.slices_Index_string_string_0⟩
@[go_sem] theorem L.slices_Index_string_string_0_ls:L.slices_Index_string_string_0.ls=[0,1,7,8]:=rfl
@[go_sem] theorem L.slices_Index_string_string_0_ks:L.slices_Index_string_string_0.ks=[(2,0)]:=rfl
@[go_sem] theorem L.slices_Index_string_string_0_b:L.slices_Index_string_string_0.body=LB.slices_Index_string_string_0:=rfl
def A.slices_Index_string_string:AF where
 nargs:=2
 ntmps:=19
 res:=[.tmp 4]
 body:=
  (.seq
   (.reg [.mv 4 (.c (I 0))])
  (.seq
   (.seq
    (.reg [.mv 6 (.t 0),
     .len 7 (.t 6),
     .mv 8 (.c (I 0))])
   (.block 0
    (lpC L.slices_Index_string_string_0)))
  (.keep []
   (.seq
    (.reg [.mv 4 (.c (I (-1)))])
   (.keep [4]
    .ret)))))
def LB.impl_SignsOf_0:AC:=
 (.seq
  (.seq
   (.reg [.mv 11 (.t 5),
    .mv 12 (.t 0),
    .slen 13 (.t 12),
    .bin 14 .lss (.t 11) (.t 13)])
  (.keep [0,4,5,14]
   (.cond (.t 14)
    .skip
    (.keep [4]
     (.exit 0)))))
 (.keep [0,4,5]
  (.block 1
   (.seq
    (.seq
     (.reg [.mv 15 (.t 0),
      .mv 16 (.t 5),
      .ix 17 (.t 15) (.t 16)])
    (.block 2
     (.seq
      (.seq
       (.reg [.bin 19 .eql (.t 17) (.c (U8 32)),
        .mv 18 (.t 19)])
      (.cond (.t 18)
       .skip
       (.seq
        (.reg [.bin 20 .eql (.t 17) (.c (U8 9)),
         .mv 18 (.t 20)])
       (.cond (.t 18)
        .skip
        (.reg [.bin 21 .eql (.t 17) (.c (U8 10)),
         .mv 18 (.t 21)])))))
     (.keep [0,4,5,17,18]
      (.cond (.t 18)
       (.seq
        (.reg [.mv 22 (.t 5),
         .bin 23 .add (.t 22) (.c (I 1)),
         .mv 5 (.t 23)])
       (.keep [0,4,5]
        (.exit 1)))
       (.seq
        (.reg [.bin 25 .eql (.t 17) (.c (U8 37)),
         .mv 24 (.t 25)])
       (.cond (.t 24)
        (.seq
         (.reg [.mv 26 (.t 0),
          .mv 27 (.t 5),
          .call (some 28) (.c (Fc F.impl_run)) [(.t 26),(.t 27),(.c (Fc F.impl_SignsOf_1))] (.ro false),
          .mv 5 (.t 28)])
        (.keep [0,4,5]
         (.exit 1)))
        .skip)))))))
   (.keep [0,4,5]
    (.seq
     (.reg [.mv 30 (.t 0),
      .mv 31 (.t 5),
      .call (some 32) (.c (Fc F.impl_nextSign)) [(.t 30),(.t 31)] (.ro false),
      .mv 29 (.t 32),
      .ext 33 (.t 29) 0,
      .ext 34 (.t 29) 1,
      .new 6 (.c (.a [(I 0),(S []),(I 0),(I 0),(B false)])),
      .st 5 (.t 6) (.t 33),
      .mv 7 (.t 34)])
    (.keep [0,4,6,7]
     (.seq
      (.reg [.mv 35 (.t 7),
       .mv 36 (.t 0),
       .slen 37 (.t 36),
       .bin 38 .lss (.t 35) (.t 37),
       .mv 39 (.t 38),
       .gd 39 true (some 40) (.mv 40 (.t 0)),
       .gd 39 true (some 41) (.mv 41 (.t 7)),
       .gd 39 true (some 42) (.ix 42 (.t 40) (.t 41)),
       .gd 39 true (some 43) (.bin 43 .eql (.t 42) (.c (U8 40))),
       .pick 44 (.t 39) (.t 43) (.c (B false)),
       .fa 45 (.t 6) 4,
       .st 1 (.t 45) (.t 44)])
     (.keep [0,4,6,7]
      (.seq
       (.reg [.mv 46 (.t 4),
        .ld 47 true 5 (.t 6),
        .mks 48 5 [(.t 47)],
        .app 49 5 48 (.t 46) (.t 48),
        .mv 4 (.t 49)])
      (.keep [0,4,7]
       (.reg [.mv 50 (.t 7),
        .mv 5 (.t 50)]))))))))))))
def L.impl_SignsOf_0:Lp:=⟨[0,4,5],[(1,0)],LB.impl_SignsOf_0⟩
@[go_sem] theorem L.impl_SignsOf_0_ls:L.impl_SignsOf_0.ls=[0,4,5]:=rfl
@[go_sem] theorem L.impl_SignsOf_0_ks:L.impl_SignsOf_0.ks=[(1,0)]:=rfl
@[go_sem] theorem L.impl_SignsOf_0_b:L.impl_SignsOf_0.body=LB.impl_SignsOf_0:=rfl
def A.impl_SignsOf:AF where
 nargs:=1
 ntmps:=52
 res:=[.tmp 2,.tmp 3]
 body:=
  (.seq
   (.reg [.mv 2 (.c (.n 5)),
    .mv 3 (.c (B false))])
  (.seq
   (.seq
    (.reg [.mv 8 (.t 0),
     .slen 9 (.t 8),
     .bin 10 .gtr (.t 9) (.c (I 3000))])
   (.cond (.t 10)
    (.seq
     (.reg [.mv 2 (.c (.n 5)),
      .mv 3 (.c (B false))])
    (.keep [2,3]
     .ret))
    .skip))
  (.keep [0]
   (.seq
    (.reg [.mv 4 (.c (.n 5))])
   (.seq
    (.seq
     (.reg [.mv 5 (.c (I 0))])
    (.block 0
     (lpC L.impl_SignsOf_0)))
   (.keep [4]
    (.seq
     (.reg [.mv 51 (.t 4),
      .mv 2 (.t 51),
      .mv 3 (.c (B true))])
    (.keep [2,3]
     .ret))))))))
def LB.impl_ReadSigns_0:AC:=
 (.seq
  (.seq
   (.reg [.mv 49 (.t 10),
    .mv 50 (.t 0),
    .len 51 (.t 50),
    .bin 52 .lss (.t 49) (.t 51)])
  (.keep [0,4,10,52]
   (.cond (.t 52)
    .skip
    (.keep [0,4]
     (.exit 0)))))
 (.keep [0,4,10]
  (.block 1
   (.seq
    (.reg [.mv 53 (.t 10),
     .bin 54 .add (.t 53) (.c (I 1)),
     .mv 10 (.t 54)])
   (.seq
    (.reg [.mv 55 (.t 0),
     .mv 56 (.t 10),
     .bin 57 .sub (.t 56) (.c (I 1)),
     .ia 58 5 (.t 55) (.t 57),
     .fa 59 (.t 58) 0,
     .ld 60 false 1 (.t 59),
     .bin 61 .eql (.t 60) (.c (I 5))])
   (.keep [0,4,10,61]
    (.cond (.t 61)
     (.seq
      (.reg [.build 62 (.a [(I 0),(S []),(I 0),(.n 4)]) [],
       .mv 63 (.t 10),
       .st 4 (.t 4) (.t 62),
       .mv 5 (.c (.n 1)),
       .mv 6 (.t 63),
       .mv 7 (.c (B false))])
     (.keep [4,5,6,7]
      .ret))
     .skip)))))))
def L.impl_ReadSigns_0:Lp:=⟨[0,4,10],[(2,0)],LB.impl_ReadSigns_0⟩
@[go_sem] theorem L.impl_ReadSigns_0_ls:L.impl_ReadSigns_0.ls=[0,4,10]:=rfl
@[go_sem] theorem L.impl_ReadSigns_0_ks:L.impl_ReadSigns_0.ks=[(2,0)]:=rfl
@[go_sem] theorem L.impl_ReadSigns_0_b:L.impl_ReadSigns_0.body=LB.impl_ReadSigns_0:=rfl
def A.impl_ReadSigns:AF where
 nargs:=2
 ntmps:=67
 res:=[.cell 4 true 4,.tmp 5,.tmp 6,.tmp 7]
 body:=
  (.seq
   (.reg [.new 4 (.c (.a [(I 0),(S []),(I 0),(.n 4)])),
    .mv 5 (.c (.n 1)),
    .mv 6 (.c (I 0)),
    .mv 7 (.c (B false))])
  (.keep [0,1,4]
   (.seq
    (.seq
     (.reg [.mv 11 (.t 1),
      .mv 12 (.t 0),
      .len 13 (.t 12),
      .bin 14 .sub (.t 13) (.c (I 1)),
      .call (some 15) (.c (Fc F.impl_within)) [(.t 11),(.c (I 0)),(.t 14)] (.ro true)])
    (.keep [0,1,4,15]
     (.cond (.t 15)
      (.seq
       (.reg [.mv 16 (.t 0),
        .mv 17 (.t 1),
        .build 18 (.a [(.n 5),(I 0),(.n 1),(I 0),(B false)]) [(0,1,(.t 16)),(1,1,(.t 17))],
        .new 19 (.t 18),
        .mv 8 (.t 19)])
      (.keep [0,1,4,8]
       (.nam [0,1,4,8] [(2,0)] (.seq
        (.reg [.mv 20 (.t 8),
         .call (some 21) (.c (Fc F.impl_parser_term)) [(.t 20),(.c (I 1200))] (.io false),
         .new 9 (.c (.a [(I 0),(S []),(I 0),(.n 4)])),
         .st 4 (.t 9) (.t 21)])
       (.keep [0,1,4,8,9]
        (.seq
         (.reg [.mv 22 (.t 8),
          .nilc 23 (.t 22),
          .fa 24 (.t 23) 4,
          .ld 25 false 1 (.t 24),
          .un 26 .not (.t 25),
          .mv 27 (.t 26),
          .gd 27 true (some 28) (.mv 28 (.t 8)),
          .gd 27 true (some 29) (.call (some 29) (.c (Fc F.impl_parser_sign)) [(.t 28),(.c (I 0))] (.ro true)),
          .gd 27 true (some 30) (.fld 30 false 1 (.t 29) 0),
          .gd 27 true (some 31) (.bin 31 .eql (.t 30) (.c (I 5))),
          .pick 32 (.t 27) (.t 31) (.c (B false)),
          .mv 33 (.t 32),
          .gd 33 true (some 34) (.ld 34 true 4 (.t 9)),
          .gd 33 true (some 35) (.call (some 35) (.c (Fc F.impl_TermOk)) [(.t 34)] (.ro true)),
          .pick 36 (.t 33) (.t 35) (.c (B false))])
        (.keep [0,1,4,8,9,36]
         (.cond (.t 36)
          (.seq
           (.opd [(500001,8,none)] (.dreg [⟨0,[(9,0)]⟩,⟨0,[]⟩,⟨0,[]⟩,⟨0,[]⟩,⟨0,[(100000,1)]⟩,⟨0,[]⟩,⟨0,[]⟩,⟨0,[]⟩,⟨0,[(100000,1)]⟩,⟨0,[]⟩,⟨1,[(100000,0)]⟩,⟨0,[]⟩,⟨0,[]⟩,⟨0,[]⟩]
            [.ldq 37 true 4 (.t 9),
             .mv 38 (.t 8),
             .nilc 39 (.t 38),
             .fa 40 (.t 39) 2,
             .ldq 41 false 1 (.t 40),
             .mv 42 (.t 8),
             .nilc 43 (.t 42),
             .fa 44 (.t 43) 1,
             .ldq 45 false 1 (.t 44),
             .bin 46 .add (.t 45) (.c (I 1)),
             .st 4 (.t 4) (.t 37),
             .mv 5 (.t 41),
             .mv 6 (.t 46),
             .mv 7 (.c (B true))]))
          (.keep [4,5,6,7]
           .ret))
          .skip))))))))
      .skip)))
   (.keep [0,1,4]
    (.seq
     (.reg [.mv 47 (.t 1),
      .mx 48 true [(.t 47),(.c (I 0))],
      .mv 10 (.t 48)])
    (.seq
     (.block 0
      (lpC L.impl_ReadSigns_0))
    (.keep [0,4]
     (.seq
      (.reg [.build 64 (.a [(I 0),(S []),(I 0),(.n 4)]) [],
       .mv 65 (.t 0),
       .len 66 (.t 65),
       .st 4 (.t 4) (.t 64),
       .mv 5 (.c (.n 1)),
       .mv 6 (.t 66),
       .mv 7 (.c (B false))])
     (.keep [4,5,6,7]
      .ret)))))))))
def LB.spec_SignsOf_0:AC:=
 (.seq
  (.seq
   (.reg [.mv 27 (.t 5),
    .mv 28 (.t 0),
    .slen 29 (.t 28),
    .bin 30 .lss (.t 27) (.t 29),
    .mv 31 (.t 30),
    .gd 31 true (some 32) (.mv 32 (.t 0)),
    .gd 31 true (some 33) (.mv 33 (.t 5)),
    .gd 31 true (some 34) (.ix 34 (.t 32) (.t 33)),
    .gd 31 true (some 35) (.bin 35 .neq (.t 34) (.c (U8 10))),
    .pick 36 (.t 31) (.t 35) (.c (B false))])
  (.keep [0,4,5,36]
   (.cond (.t 36)
    .skip
    (.keep [0,4,5]
     (.exit 2)))))
 (.keep [0,4,5]
  (.block 3
   (.reg [.mv 37 (.t 5),
    .bin 38 .add (.t 37) (.c (I 1)),
    .mv 5 (.t 38)]))))
def L.spec_SignsOf_0:Lp:=⟨[0,4,5],[(1,0)],LB.spec_SignsOf_0⟩
@[go_sem] theorem L.spec_SignsOf_0_ls:L.spec_SignsOf_0.ls=[0,4,5]:=rfl
@[go_sem] theorem L.spec_SignsOf_0_ks:L.spec_SignsOf_0.ks=[(1,0)]:=rfl
@[go_sem] theorem L.spec_SignsOf_0_b:L.spec_SignsOf_0.body=LB.spec_SignsOf_0:=rfl
def LB.spec_SignsOf_1:AC:=
 (.seq
  (.seq
   (.reg [.mv 13 (.t 5),
    .mv 14 (.t 0),
    .slen 15 (.t 14),
    .bin 16 .lss (.t 13) (.t 15)])
  (.keep [0,4,5,16]
   (.cond (.t 16)
    .skip
    (.keep [4]
     (.exit 0)))))
 (.keep [0,4,5]
  (.block 1
   (.seq
    (.seq
     (.reg [.mv 17 (.t 0),
      .mv 18 (.t 5),
      .ix 19 (.t 17) (.t 18),
      .call (some 20) (.c (Fc F.spec_l05Blank)) [(.t 19)] (.ro true)])
    (.keep [0,4,5,20]
     (.cond (.t 20)
      (.seq
       (.reg [.mv 21 (.t 5),
        .bin 22 .add (.t 21) (.c (I 1)),
        .mv 5 (.t 22)])
      (.keep [0,4,5]
       (.exit 1)))
      .skip)))
   (.keep [0,4,5]
    (.seq
     (.seq
      (.reg [.mv 23 (.t 0),
       .mv 24 (.t 5),
       .ix 25 (.t 23) (.t 24),
       .bin 26 .eql (.t 25) (.c (U8 37))])
     (.keep [0,4,5,26]
      (.cond (.t 26)
       (.seq
        (.block 2
         (lpC L.spec_SignsOf_0))
       (.keep [0,4,5]
        (.exit 1)))
       .skip)))
    (.keep [0,4,5]
     (.seq
      (.reg [.mv 40 (.t 0),
       .mv 41 (.t 5),
       .call (some 42) (.c (Fc F.spec_l05Sign)) [(.t 40),(.t 41)] (.ro false),
       .mv 39 (.t 42),
       .ext 43 (.t 39) 0,
       .ext 44 (.t 39) 1,
       .new 6 (.c (.a [(I 0),(S []),(I 0),(I 0),(B false)])),
       .st 5 (.t 6) (.t 43),
       .mv 7 (.t 44)])
     (.keep [0,4,6,7]
      (.seq
       (.reg [.mv 45 (.t 7),
        .mv 46 (.t 0),
        .slen 47 (.t 46),
        .bin 48 .lss (.t 45) (.t 47),
        .mv 49 (.t 48),
        .gd 49 true (some 50) (.mv 50 (.t 0)),
        .gd 49 true (some 51) (.mv 51 (.t 7)),
        .gd 49 true (some 52) (.ix 52 (.t 50) (.t 51)),
        .gd 49 true (some 53) (.bin 53 .eql (.t 52) (.c (U8 40))),
        .pick 54 (.t 49) (.t 53) (.c (B false)),
        .fa 55 (.t 6) 4,
        .st 1 (.t 55) (.t 54)])
      (.keep [0,4,6,7]
       (.seq
        (.reg [.mv 56 (.t 4),
         .ld 57 true 5 (.t 6),
         .mks 58 5 [(.t 57)],
         .app 59 5 48 (.t 56) (.t 58),
         .mv 4 (.t 59)])
       (.keep [0,4,7]
        (.reg [.mv 60 (.t 7),
         .mv 5 (.t 60)]))))))))))))))
def L.spec_SignsOf_1:Lp:=⟨[0,4,5],[(1,0)],LB.spec_SignsOf_1⟩
@[go_sem] theorem L.spec_SignsOf_1_ls:L.spec_SignsOf_1.ls=[0,4,5]:=rfl
@[go_sem] theorem L.spec_SignsOf_1_ks:L.spec_SignsOf_1.ks=[(1,0)]:=rfl
@[go_sem] theorem L.spec_SignsOf_1_b:L.spec_SignsOf_1.body=LB.spec_SignsOf_1:=rfl
def A.spec_SignsOf:AF where
 nargs:=1
 ntmps:=62
 res:=[.tmp 2,.tmp 3]
 body:=
  (.seq
   (.reg [.mv 2 (.c (.n 5)),
    .mv 3 (.c (B false))])
  (.seq
   (.reg [.mks 8 5 [],
    .mv 4 (.t 8)])
  (.seq
   (.seq
    (.reg [.mv 9 (.t 0),
     .slen 10 (.t 9),
     .bin 11 .gtr (.t 10) (.c (I 3000))])
   (.cond (.t 11)
    (.seq
     (.reg [.mv 12 (.t 4),
      .mv 2 (.t 12),
      .mv 3 (.c (B false))])
    (.keep [2,3]
     .ret))
    .skip))
  (.keep [0,4]
   (.seq
    (.reg [.mv 5 (.c (I 0))])
   (.seq
    (.block 0
     (lpC L.spec_SignsOf_1))
   (.keep [4]
    (.seq
     (.reg [.mv 61 (.t 4),
      .mv 2 (.t 61),
      .mv 3 (.c (B true))])
    (.keep [2,3]
     .ret)))))))))
def A.spec_ReadSigns:AF where
 nargs:=2
 ntmps:=52
 res:=[.cell 4 true 4,.tmp 5,.tmp 6,.tmp 7]
 body:=
  (.seq
   (.reg [.new 4 (.c (.a [(I 0),(S []),(I 0),(.n 4)])),
    .mv 5 (.c (.n 1)),
    .mv 6 (.c (I 0)),
    .mv 7 (.c (B false))])
  (.keep [0,1,4]
   (.seq
    (.reg [.mv 11 (.t 0),
     .mv 12 (.t 1),
     .call (some 13) (.c (Fc F.spec_l06Behind)) [(.t 11),(.t 12)] (.ro false),
     .mv 8 (.t 13)])
   (.keep [0,1,4,8]
    (.seq
     (.seq
      (.reg [.mv 14 (.t 1),
       .mv 15 (.t 0),
       .len 16 (.t 15),
       .bin 17 .sub (.t 16) (.c (I 1)),
       .call (some 18) (.c (Fc F.spec_l01In)) [(.t 14),(.c (I 0)),(.t 17)] (.ro true),
       .un 19 .not (.t 18)])
     (.keep [0,1,4,8,19]
      (.cond (.t 19)
       (.seq
        (.reg [.build 20 (.a [(I 0),(S []),(I 0),(.n 4)]) [],
         .mks 21 1 [],
         .mv 22 (.t 8),
         .st 4 (.t 4) (.t 20),
         .mv 5 (.t 21),
         .mv 6 (.t 22),
         .mv 7 (.c (B false))])
       (.keep [4,5,6,7]
        .ret))
       .skip)))
    (.keep [0,1,4,8]
     (.seq
      (.reg [.mv 23 (.t 0),
       .mv 24 (.t 1),
       .build 25 (.a [(.n 5),(I 0),(B false),(I 0),(.n 1)]) [(0,1,(.t 23)),(1,1,(.t 24))],
       .new 26 (.t 25),
       .mv 9 (.t 26)])
     (.keep [4,8,9]
      (.nam [4,8,9] [(2,0)] (.seq
       (.reg [.mv 27 (.t 9),
        .call (some 28) (.c (Fc F.spec_l06Read_term)) [(.t 27),(.c (I 1200))] (.io false),
        .new 10 (.c (.a [(I 0),(S []),(I 0),(.n 4)])),
        .st 4 (.t 10) (.t 28)])
      (.keep [4,8,9,10]
       (.seq
        (.seq
         (.reg [.mv 29 (.t 9),
          .call (some 30) (.c (Fc F.spec_l06Read_is)) [(.t 29),(.c (I 5)),(.c (S []))] (.ro true),
          .un 31 .not (.t 30),
          .mv 32 (.t 31),
          .gd 32 false (some 33) (.ld 33 true 4 (.t 10)),
          .gd 32 false (some 34) (.call (some 34) (.c (Fc F.spec_TermOk)) [(.t 33)] (.ro true)),
          .gd 32 false (some 35) (.un 35 .not (.t 34)),
          .pick 36 (.t 32) (.c (B true)) (.t 35)])
        (.keep [4,8,9,10,36]
         (.cond (.t 36)
          (.seq
           (.reg [.build 37 (.a [(I 0),(S []),(I 0),(.n 4)]) [],
            .mks 38 1 [],
            .mv 39 (.t 8),
            .st 4 (.t 4) (.t 37),
            .mv 5 (.t 38),
            .mv 6 (.t 39),
            .mv 7 (.c (B false))])
          (.keep [4,5,6,7]
           .ret))
          .skip)))
       (.keep [4,9,10]
        (.seq
         (.opd [(500000,9,none)] (.dreg [⟨0,[(10,0)]⟩,⟨1,[]⟩,⟨0,[]⟩,⟨0,[]⟩,⟨0,[]⟩,⟨0,[(100000,1)]⟩,⟨1,[(41,0),(500000,0)]⟩,⟨0,[]⟩,⟨0,[]⟩,⟨0,[]⟩,⟨0,[(100000,1)]⟩,⟨0,[]⟩,⟨1,[(100000,0)]⟩,⟨0,[]⟩,⟨0,[]⟩,⟨0,[]⟩]
          [.ldq 40 true 4 (.t 10),
           .mks 41 1 [],
           .mv 42 (.t 9),
           .nilc 43 (.t 42),
           .fa 44 (.t 43) 4,
           .ldq 45 false 1 (.t 44),
           .app 46 1 16 (.t 41) (.t 45),
           .mv 47 (.t 9),
           .nilc 48 (.t 47),
           .fa 49 (.t 48) 1,
           .ldq 50 false 1 (.t 49),
           .bin 51 .add (.t 50) (.c (I 1)),
           .st 4 (.t 4) (.t 40),
           .mv 5 (.t 46),
           .mv 6 (.t 51),
           .mv 7 (.c (B true))]))
        (.keep [4,5,6,7]
         .ret)))))))))))))))
def LB.impl_run_0:AC:=
 (.seq
  (.seq
   (.reg [.mv 7 (.t 1),
    .mv 8 (.t 0),
    .slen 9 (.t 8),
    .bin 10 .lss (.t 7) (.t 9),
    .mv 11 (.t 10),
    .gd 11 true (some 12) (.mv 12 (.t 2)),
    .gd 11 true (some 13) (.mv 13 (.t 0)),
    .gd 11 true (some 14) (.mv 14 (.t 1)),
    .gd 11 true (some 15) (.ix 15 (.t 13) (.t 14)),
    .gd 11 true (some 16) (.call (some 16) (.t 12) [(.t 15)] (.ro true)),
    .pick 17 (.t 11) (.t 16) (.c (B false))])
  (.keep [0,1,2,17]
   (.cond (.t 17)
    .skip
    (.keep [1]
     (.exit 0)))))
 (.keep [0,1,2]
  (.block 1
   (.reg [.mv 18 (.t 1),
    .bin 19 .add (.t 18) (.c (I 1)),
    .mv 1 (.t 19)]))))
def L.impl_run_0:Lp:=⟨[0,1,2],[(3,0)],LB.impl_run_0⟩
@[go_sem] theorem L.impl_run_0_ls:L.impl_run_0.ls=[0,1,2]:=rfl
@[go_sem] theorem L.impl_run_0_ks:L.impl_run_0.ks=[(3,0)]:=rfl
@[go_sem] theorem L.impl_run_0_b:L.impl_run_0.body=LB.impl_run_0:=rfl
def A.impl_run:AF where
 nargs:=3
 ntmps:=21
 res:=[.tmp 6]
 body:=
  (.seq
   (.reg [.mv 6 (.c (I 0))])
  (.seq
   (.block 0
    (lpC L.impl_run_0))
  (.keep [1]
   (.seq
    (.reg [.mv 20 (.t 1),
     .mv 6 (.t 20)])
   (.keep [6]
    .ret)))))
def A.impl_SignsOf_1:AF where
 nargs:=1
 ntmps:=5
 res:=[.tmp 2]
 body:=
  (.seq
   (.reg [.mv 2 (.c (B false))])
  (.seq
   (.reg [.mv 3 (.t 0),
    .bin 4 .neq (.t 3) (.c (U8 10)),
    .mv 2 (.t 4)])
  (.keep [2]
   .ret)))
def LB.impl_nextSign_0:AC:=
 (.seq
  (.seq
   (.reg [.mv 52 (.t 10),
    .mv 53 (.t 8),
    .bin 54 .lss (.t 52) (.t 53),
    .mv 55 (.t 54),
    .gd 55 true (some 56) (.mv 56 (.t 9)),
    .gd 55 true (some 57) (.bin 57 .leq (.t 56) (.c (I 999999999))),
    .pick 58 (.t 55) (.t 57) (.c (B false))])
  (.keep [0,1,4,7,8,9,10,58]
   (.cond (.t 58)
    .skip
    (.keep [0,1,4,7,8,9]
     (.exit 1)))))
 (.keep [0,1,4,7,8,9,10]
  (.seq
   (.block 2
    (.reg [.mv 61 (.t 9),
     .bin 62 .mul (.c (I 10)) (.t 61),
     .mv 63 (.t 0),
     .mv 64 (.t 10),
     .ix 65 (.t 63) (.t 64),
     .bin 66 .sub (.t 65) (.c (U8 48)),
     .int 67 .i64 (.t 66),
     .bin 68 .add (.t 62) (.t 67),
     .mv 9 (.t 68)]))
  (.keep [0,1,4,7,8,9,10]
   (.reg [.mv 59 (.t 10),
    .bin 60 .add (.t 59) (.c (I 1)),
    .mv 10 (.t 60)])))))
def L.impl_nextSign_0:Lp:=⟨[0,1,4,7,8,9,10],[(2,0)],LB.impl_nextSign_0⟩
@[go_sem] theorem L.impl_nextSign_0_ls:L.impl_nextSign_0.ls=[0,1,4,7,8,9,10]:=rfl
@[go_sem] theorem L.impl_nextSign_0_ks:L.impl_nextSign_0.ks=[(2,0)]:=rfl
@[go_sem] theorem L.impl_nextSign_0_b:L.impl_nextSign_0.body=LB.impl_nextSign_0:=rfl
def A.impl_nextSign:AF where
 nargs:=2
 ntmps:=160
 res:=[.cell 4 true 5,.tmp 5]
 body:=
  (.seq
   (.reg [.new 4 (.c (.a [(I 0),(S []),(I 0),(I 0),(B false)])),
    .mv 5 (.c (I 0))])
  (.seq
   (.reg [.mv 12 (.t 0),
    .mv 13 (.t 1),
    .ix 14 (.t 12) (.t 13),
    .mv 6 (.t 14)])
  (.keep [0,1,4,6]
   (.seq
    (.reg [.mv 15 (.t 1),
     .build 16 (.a [(I 0),(S []),(I 0),(I 0),(B false)]) [(3,1,(.t 15))],
     .new 7 (.c (.a [(I 0),(S []),(I 0),(I 0),(B false)])),
     .st 5 (.t 7) (.t 16)])
   (.keep [0,1,4,6,7]
    (.seq
     (.reg [.mv 17 (.t 1),
      .bin 18 .add (.t 17) (.c (I 1)),
      .mv 8 (.t 18)])
    (.seq
     (.block 0
      (.seq
       (.reg [.mv 20 (.t 0),
        .mv 21 (.t 1),
        .call (some 22) (.c (Fc F.impl_endsHere)) [(.t 20),(.t 21)] (.ro true),
        .mv 19 (.t 22)])
      (.keep [0,1,4,6,7,8,19]
       (.cond (.t 19)
        (.seq
         (.reg [.fa 23 (.t 7) 0,
          .st 1 (.t 23) (.c (I 5)),
          .fa 24 (.t 7) 1,
          .st 1 (.t 24) (.c (S [46]))])
        (.keep [4,7,8]
         (.seq
          (.reg [.ld 25 true 5 (.t 7),
           .mv 26 (.t 8),
           .st 5 (.t 4) (.t 25),
           .mv 5 (.t 26)])
         (.keep [4,5]
          .ret))))
        (.seq
         (.reg [.mv 28 (.t 6),
          .call (some 29) (.c (Fc F.impl_lower)) [(.t 28)] (.ro true),
          .mv 30 (.t 29),
          .gd 30 false (some 31) (.mv 31 (.t 6)),
          .gd 30 false (some 32) (.call (some 32) (.c (Fc F.impl_upper)) [(.t 31)] (.ro true)),
          .pick 33 (.t 30) (.c (B true)) (.t 32),
          .mv 34 (.t 33),
          .gd 34 false (some 35) (.mv 35 (.t 6)),
          .gd 34 false (some 36) (.bin 36 .eql (.t 35) (.c (U8 95))),
          .pick 37 (.t 34) (.c (B true)) (.t 36),
          .mv 27 (.t 37)])
        (.keep [0,1,4,6,7,8,27]
         (.cond (.t 27)
          (.seq
           (.reg [.mv 38 (.t 0),
            .mv 39 (.t 1),
            .call (some 40) (.c (Fc F.impl_run)) [(.t 38),(.t 39),(.c (Fc F.impl_wordByte))] (.ro false),
            .mv 8 (.t 40)])
          (.keep [0,1,4,6,7,8]
           (.seq
            (.reg [.fa 41 (.t 7) 0,
             .st 1 (.t 41) (.c (I 2))])
           (.seq
            (.reg [.mv 42 (.t 6),
             .call (some 43) (.c (Fc F.impl_lower)) [(.t 42)] (.ro true)])
           (.cond (.t 43)
            (.reg [.fa 44 (.t 7) 0,
             .st 1 (.t 44) (.c (I 1))])
            .skip)))))
          (.seq
           (.reg [.mv 46 (.t 6),
            .call (some 47) (.c (Fc F.impl_figure)) [(.t 46)] (.ro true),
            .mv 45 (.t 47)])
          (.cond (.t 45)
           (.seq
            (.reg [.mv 48 (.t 0),
             .mv 49 (.t 1),
             .call (some 50) (.c (Fc F.impl_run)) [(.t 48),(.t 49),(.c (Fc F.impl_figure))] (.ro false),
             .mv 8 (.t 50)])
           (.keep [0,1,4,7,8]
            (.seq
             (.reg [.mv 9 (.c (I 0))])
            (.seq
             (.seq
              (.reg [.mv 51 (.t 1),
               .mv 10 (.t 51)])
             (.block 1
              (lpC L.impl_nextSign_0)))
            (.keep [0,1,4,7,8,9]
             (.seq
              (.reg [.mv 69 (.t 9),
               .bin 70 .leq (.t 69) (.c (I 999999999))])
             (.cond (.t 70)
              (.seq
               (.reg [.mv 71 (.t 9),
                .fa 72 (.t 7) 0,
                .st 1 (.t 72) (.c (I 3)),
                .fa 73 (.t 7) 2,
                .st 1 (.t 73) (.t 71)])
              (.keep [4,7,8]
               (.seq
                (.reg [.ld 74 true 5 (.t 7),
                 .mv 75 (.t 8),
                 .st 5 (.t 4) (.t 74),
                 .mv 5 (.t 75)])
               (.keep [4,5]
                .ret))))
              .skip)))))))
           (.seq
            (.reg [.mv 77 (.t 6),
             .call (some 78) (.c (Fc F.impl_SymbolByte)) [(.t 77)] (.ro true),
             .mv 76 (.t 78)])
           (.cond (.t 76)
            (.seq
             (.reg [.mv 79 (.t 0),
              .mv 80 (.t 1),
              .call (some 81) (.c (Fc F.impl_run)) [(.t 79),(.t 80),(.c (Fc F.impl_SymbolByte))] (.ro false),
              .mv 8 (.t 81)])
            (.keep [0,1,4,7,8]
             (.reg [.fa 82 (.t 7) 0,
              .st 1 (.t 82) (.c (I 1))])))
            (.seq
             (.reg [.mv 84 (.t 6),
              .bin 85 .eql (.t 84) (.c (U8 33)),
              .mv 86 (.t 85),
              .gd 86 false (some 87) (.mv 87 (.t 6)),
              .gd 86 false (some 88) (.bin 88 .eql (.t 87) (.c (U8 59))),
              .pick 89 (.t 86) (.c (B true)) (.t 88),
              .mv 83 (.t 89)])
            (.keep [0,1,4,6,7,8,83]
             (.cond (.t 83)
              (.reg [.fa 90 (.t 7) 0,
               .st 1 (.t 90) (.c (I 1))])
              (.seq
               (.reg [.mv 92 (.t 6),
                .call (some 93) (.c (Fc F.strings_IndexByte)) [(.c (S [40,41,91,93,44,124])),(.t 92)] (.ro true),
                .bin 94 .geq (.t 93) (.c (I 0)),
                .mv 91 (.t 94)])
              (.keep [0,1,4,6,7,8,91]
               (.cond (.t 91)
                (.reg [.fa 95 (.t 7) 0,
                 .st 1 (.t 95) (.c (I 4))])
                (.seq
                 (.reg [.mv 97 (.t 6),
                  .bin 98 .eql (.t 97) (.c (U8 39)),
                  .mv 96 (.t 98)])
                (.cond (.t 96)
                 (.seq
                  (.reg [.mv 99 (.t 0),
                   .mv 100 (.t 1),
                   .bin 101 .add (.t 100) (.c (I 1)),
                   .call (some 102) (.c (Fc F.impl_run)) [(.t 99),(.t 101),(.c (Fc F.impl_nextSign_1))] (.ro false),
                   .mv 11 (.t 102)])
                 (.keep [0,1,4,7,8,11]
                  (.seq
                   (.reg [.mv 103 (.t 11),
                    .mv 104 (.t 0),
                    .slen 105 (.t 104),
                    .bin 106 .lss (.t 103) (.t 105),
                    .mv 107 (.t 106),
                    .gd 107 true (some 108) (.mv 108 (.t 0)),
                    .gd 107 true (some 109) (.mv 109 (.t 11)),
                    .gd 107 true (some 110) (.ix 110 (.t 108) (.t 109)),
                    .gd 107 true (some 111) (.bin 111 .eql (.t 110) (.c (U8 39))),
                    .pick 112 (.t 107) (.t 111) (.c (B false)),
                    .mv 113 (.t 112),
                    .gd 113 true (some 114) (.mv 114 (.t 11)),
                    .gd 113 true (some 115) (.mv 115 (.t 1)),
                    .gd 113 true (some 116) (.bin 116 .sub (.t 114) (.t 115)),
                    .gd 113 true (some 117) (.bin 117 .sub (.t 116) (.c (I 1))),
                    .gd 113 true (some 118) (.call (some 118) (.c (Fc F.impl_within)) [(.t 117),(.c (I 1)),(.c (I 20))] (.ro true)),
                    .pick 119 (.t 113) (.t 118) (.c (B false))])
                  (.keep [0,1,4,7,8,11,119]
                   (.cond (.t 119)
                    (.seq
                     (.dreg [⟨0,[]⟩,⟨0,[]⟩,⟨0,[]⟩,⟨0,[]⟩,⟨0,[]⟩,⟨0,[]⟩,⟨1,[(7,0)]⟩,⟨0,[]⟩,⟨1,[(7,0)]⟩]
                      [.mv 120 (.t 0),
                       .mv 121 (.t 1),
                       .bin 122 .add (.t 121) (.c (I 1)),
                       .mv 123 (.t 11),
                       .ssl 124 (.t 120) (some (.t 122)) (some (.t 123)),
                       .fa 125 (.t 7) 0,
                       .st 1 (.t 125) (.c (I 1)),
                       .fa 126 (.t 7) 1,
                       .st 1 (.t 126) (.t 124)])
                    (.keep [4,7,11]
                     (.seq
                      (.reg [.ld 127 true 5 (.t 7),
                       .mv 128 (.t 11),
                       .bin 129 .add (.t 128) (.c (I 1)),
                       .st 5 (.t 4) (.t 127),
                       .mv 5 (.t 129)])
                     (.keep [4,5]
                      .ret))))
                    .skip)))))
                 .skip)))))))))))))))))))
    (.keep [0,1,4,7,8]
     (.seq
      (.reg [.mv 130 (.t 0),
       .mv 131 (.t 1),
       .mv 132 (.t 8),
       .ssl 133 (.t 130) (some (.t 131)) (some (.t 132)),
       .fa 134 (.t 7) 1,
       .st 1 (.t 134) (.t 133)])
     (.keep [0,1,4,7,8]
      (.seq
       (.seq
        (.reg [.fa 135 (.t 7) 0,
         .ld 136 false 1 (.t 135),
         .bin 137 .eql (.t 136) (.c (I 0)),
         .mv 138 (.t 137),
         .gd 138 false (some 139) (.fa 139 (.t 7) 0),
         .gd 138 false (some 140) (.ld 140 false 1 (.t 139)),
         .gd 138 false (some 141) (.bin 141 .neq (.t 140) (.c (I 4))),
         .gd 138 false (some 142) (.mv 142 (.t 141)),
         .gd 142 true (some 143) (.fa 143 (.t 7) 1),
         .gd 142 true (some 144) (.ld 144 false 1 (.t 143)),
         .gd 142 true (some 145) (.slen 145 (.t 144)),
         .gd 142 true (some 146) (.bin 146 .gtr (.t 145) (.c (I 20))),
         .gd 138 false (some 147) (.pick 147 (.t 142) (.t 146) (.c (B false))),
         .pick 148 (.t 138) (.c (B true)) (.t 147)])
       (.keep [0,1,4,7,8,148]
        (.cond (.t 148)
         (.seq
          (.dreg [⟨0,[]⟩,⟨0,[]⟩,⟨0,[]⟩,⟨0,[]⟩,⟨0,[]⟩,⟨0,[]⟩,⟨1,[(7,0),(100000,0),(100000,1),(100000,2),(100000,3),(100000,4),(100000,5)]⟩,⟨0,[]⟩,⟨1,[(7,0),(100000,0),(100000,1),(100000,2),(100000,3),(100000,4),(100000,5)]⟩]
           [.mv 149 (.t 0),
            .mv 150 (.t 1),
            .mv 151 (.t 1),
            .bin 152 .add (.t 151) (.c (I 1)),
            .ssl 153 (.t 149) (some (.t 150)) (some (.t 152)),
            .fa 154 (.t 7) 0,
            .st 1 (.t 154) (.c (I 6)),
            .fa 155 (.t 7) 1,
            .st 1 (.t 155) (.t 153)])
         (.keep [1,4,7]
          (.reg [.mv 156 (.t 1),
           .bin 157 .add (.t 156) (.c (I 1)),
           .mv 8 (.t 157)])))
         .skip)))
      (.keep [4,7,8]
       (.seq
        (.reg [.ld 158 true 5 (.t 7),
         .mv 159 (.t 8),
         .st 5 (.t 4) (.t 158),
         .mv 5 (.t 159)])
       (.keep [4,5]
        .ret))))))))))))))
def A.impl_within:AF where
 nargs:=3
 ntmps:=15
 res:=[.tmp 6]
 body:=
  (.seq
   (.reg [.mv 6 (.c (B false))])
  (.seq
   (.reg [.mv 7 (.t 0),
    .mv 8 (.t 1),
    .bin 9 .geq (.t 7) (.t 8),
    .mv 10 (.t 9),
    .gd 10 true (some 11) (.mv 11 (.t 0)),
    .gd 10 true (some 12) (.mv 12 (.t 2)),
    .gd 10 true (some 13) (.bin 13 .leq (.t 11) (.t 12)),
    .pick 14 (.t 10) (.t 13) (.c (B false)),
    .mv 6 (.t 14)])
  (.keep [6]
   .ret)))
def LB.impl_parser_term_0:AC:=
 (.seq
  (.seq
   (.reg [.mv 38 (.t 0),
    .nilc 39 (.t 38),
    .fa 40 (.t 39) 4,
    .ld 41 false 1 (.t 40),
    .un 42 .not (.t 41)])
  (.keep [0,1,4,5,6,42]
   (.cond (.t 42)
    .skip
    (.keep [0,4,5]
     (.exit 0)))))
 (.keep [0,1,4,5,6]
  (.block 1
   (.seq
    (.reg [.mv 43 (.t 0),
     .call (some 44) (.c (Fc F.impl_parser_sign)) [(.t 43),(.c (I 0))] (.ro false),
     .new 7 (.c (.a [(I 0),(S []),(I 0),(I 0),(B false)])),
     .st 5 (.t 7) (.t 44)])
   (.keep [0,1,4,5,6,7]
    (.seq
     (.reg [.fa 46 (.t 7) 1,
      .ld 47 false 1 (.t 46),
      .call (some 48) (.c (Fc F.impl_InfixOf)) [(.t 47)] (.ro false),
      .mv 45 (.t 48),
      .ext 49 (.t 45) 0,
      .ext 50 (.t 45) 1,
      .new 8 (.c (.a [(S []),(I 0),(I 0),(I 0)])),
      .st 4 (.t 8) (.t 49),
      .mv 9 (.t 50)])
    (.keep [0,1,4,5,6,7,8,9]
     (.seq
      (.seq
       (.reg [.mv 51 (.t 9),
        .un 52 .not (.t 51),
        .mv 53 (.t 52),
        .gd 53 false (some 54) (.fa 54 (.t 7) 0),
        .gd 53 false (some 55) (.ld 55 false 1 (.t 54)),
        .gd 53 false (some 56) (.bin 56 .neq (.t 55) (.c (I 4))),
        .gd 53 false (some 57) (.mv 57 (.t 56)),
        .gd 57 true (some 58) (.fa 58 (.t 7) 0),
        .gd 57 true (some 59) (.ld 59 false 1 (.t 58)),
        .gd 57 true (some 60) (.bin 60 .neq (.t 59) (.c (I 1))),
        .gd 57 true (some 61) (.mv 61 (.t 60)),
        .gd 61 false (some 62) (.fa 62 (.t 7) 4),
        .gd 61 false (some 63) (.ld 63 false 1 (.t 62)),
        .gd 57 true (some 64) (.pick 64 (.t 61) (.c (B true)) (.t 63)),
        .gd 53 false (some 65) (.pick 65 (.t 57) (.t 64) (.c (B false))),
        .pick 66 (.t 53) (.c (B true)) (.t 65),
        .mv 67 (.t 66),
        .gd 67 false (some 68) (.fa 68 (.t 8) 1),
        .gd 67 false (some 69) (.ld 69 false 1 (.t 68)),
        .gd 67 false (some 70) (.mv 70 (.t 1)),
        .gd 67 false (some 71) (.bin 71 .gtr (.t 69) (.t 70)),
        .pick 72 (.t 67) (.c (B true)) (.t 71),
        .mv 73 (.t 72),
        .gd 73 false (some 74) (.fa 74 (.t 8) 2),
        .gd 73 false (some 75) (.ld 75 false 1 (.t 74)),
        .gd 73 false (some 76) (.mv 76 (.t 6)),
        .gd 73 false (some 77) (.bin 77 .lss (.t 75) (.t 76)),
        .pick 78 (.t 73) (.c (B true)) (.t 77)])
      (.keep [0,1,4,5,8,78]
       (.cond (.t 78)
        (.keep [0,4,5]
         (.exit 0))
        .skip)))
     (.keep [0,1,4,5,8]
      (.seq
       (.reg [.mv 79 (.t 0),
        .nilc 80 (.t 79),
        .fa 81 (.t 80) 1,
        .ld 82 false 1 (.t 81),
        .bin 83 .add (.t 82) (.c (I 1)),
        .nilc 84 (.t 79),
        .fa 85 (.t 84) 1,
        .st 1 (.t 85) (.t 83)])
      (.keep [0,1,4,5,8]
       (.seq
        (.dreg [⟨0,[]⟩,⟨0,[(8,0)]⟩,⟨0,[(100000,1)]⟩,⟨0,[]⟩,⟨0,[]⟩,⟨0,[(8,0)]⟩,⟨1,[(0,0),(100000,2),(91,0),(100000,3)]⟩,⟨1,[]⟩,⟨1,[(93,0),(100000,3),(92,0),(92,1),(92,2),(92,3)]⟩,⟨1,[(100000,1)]⟩]
         [.fa 86 (.t 8) 0,
          .ldq 87 false 1 (.t 86),
          .ldq 88 true 4 (.t 5),
          .mv 89 (.t 0),
          .fa 90 (.t 8) 3,
          .ldq 91 false 1 (.t 90),
          .call (some 92) (.c (Fc F.impl_parser_term)) [(.t 89),(.t 91)] (.io false),
          .mks 93 4 [(.t 88),(.t 92)],
          .call (some 94) (.c (Fc F.impl_structure)) [(.t 87),(.t 93)] (.io false),
          .st 4 (.t 5) (.t 94)])
       (.keep [0,1,4,5,8]
        (.reg [.fa 95 (.t 8) 1,
         .ld 96 false 1 (.t 95),
         .mv 6 (.t 96)]))))))))))))))
def L.impl_parser_term_0:Lp:=⟨[0,1,4,5,6],[(2,0)],LB.impl_parser_term_0⟩
@[go_sem] theorem L.impl_parser_term_0_ls:L.impl_parser_term_0.ls=[0,1,4,5,6]:=rfl
@[go_sem] theorem L.impl_parser_term_0_ks:L.impl_parser_term_0.ks=[(2,0)]:=rfl
@[go_sem] theorem L.impl_parser_term_0_b:L.impl_parser_term_0.body=LB.impl_parser_term_0:=rfl
def A.impl_parser_term:AF where
 nargs:=2
 ntmps:=105
 res:=[.cell 4 true 4]
 body:=
  (.seq
   (.reg [.new 4 (.c (.a [(I 0),(S []),(I 0),(.n 4)]))])
  (.seq
   (.seq
    (.reg [.mv 10 (.t 0),
     .nilc 11 (.t 10),
     .fa 12 (.t 11) 3,
     .ld 13 false 1 (.t 12),
     .bin 14 .eql (.t 13) (.c (I 130)),
     .mv 15 (.t 14),
     .gd 15 false (some 16) (.mv 16 (.t 0)),
     .gd 15 false (some 17) (.nilc 17 (.t 16)),
     .gd 15 false (some 18) (.fa 18 (.t 17) 4),
     .gd 15 false (some 19) (.ld 19 false 1 (.t 18)),
     .pick 20 (.t 15) (.c (B true)) (.t 19)])
   (.keep [0,1,4,20]
    (.cond (.t 20)
     (.seq
      (.reg [.mv 21 (.t 0),
       .nilc 22 (.t 21),
       .fa 23 (.t 22) 4,
       .st 1 (.t 23) (.c (B true))])
     (.keep [0,4]
      (.seq
       (.reg [.build 24 (.a [(I 0),(S []),(I 0),(.n 4)]) [],
        .st 4 (.t 4) (.t 24)])
      (.keep [0,4]
       .ret))))
     .skip)))
  (.keep [0,1,4]
   (.seq
    (.reg [.mv 25 (.t 0),
     .nilc 26 (.t 25),
     .fa 27 (.t 26) 3,
     .ld 28 false 1 (.t 27),
     .bin 29 .add (.t 28) (.c (I 1)),
     .nilc 30 (.t 25),
     .fa 31 (.t 30) 3,
     .st 1 (.t 31) (.t 29)])
   (.keep [0,1,4]
    (.seq
     (.reg [.mv 33 (.t 0),
      .mv 34 (.t 1),
      .call (some 35) (.c (Fc F.impl_parser_primary)) [(.t 33),(.t 34)] (.io false),
      .mv 32 (.t 35),
      .ext 36 (.t 32) 0,
      .ext 37 (.t 32) 1,
      .new 5 (.c (.a [(I 0),(S []),(I 0),(.n 4)])),
      .st 4 (.t 5) (.t 36),
      .mv 6 (.t 37)])
    (.keep [0,1,4,5,6]
     (.seq
      (.block 0
       (lpC L.impl_parser_term_0))
     (.keep [0,4,5]
      (.seq
       (.reg [.mv 97 (.t 0),
        .nilc 98 (.t 97),
        .fa 99 (.t 98) 3,
        .ld 100 false 1 (.t 99),
        .bin 101 .sub (.t 100) (.c (I 1)),
        .nilc 102 (.t 97),
        .fa 103 (.t 102) 3,
        .st 1 (.t 103) (.t 101)])
      (.keep [0,4,5]
       (.seq
        (.reg [.ld 104 true 4 (.t 5),
         .st 4 (.t 4) (.t 104)])
       (.keep [0,4]
        .ret)))))))))))))
def A.impl_parser_sign:AF where
 nargs:=2
 ntmps:=30
 res:=[.cell 4 true 5]
 body:=
  (.seq
   (.reg [.new 4 (.c (.a [(I 0),(S []),(I 0),(I 0),(B false)]))])
  (.seq
   (.seq
    (.dreg [⟨0,[]⟩,⟨0,[]⟩,⟨0,[]⟩,⟨0,[(0,0),(0,1),(0,2),(0,3)]⟩,⟨0,[]⟩,⟨0,[]⟩,⟨0,[]⟩,⟨0,[]⟩,⟨0,[]⟩,⟨0,[(0,0),(0,1),(0,2),(0,3)]⟩,⟨0,[(0,0),(0,1),(0,2),(0,3),(14,0)]⟩,⟨0,[]⟩]
     [.mv 5 (.t 0),
      .nilc 6 (.t 5),
      .fa 7 (.t 6) 1,
      .ldq 8 false 1 (.t 7),
      .mv 9 (.t 1),
      .bin 10 .add (.t 8) (.t 9),
      .mv 11 (.t 0),
      .nilc 12 (.t 11),
      .fa 13 (.t 12) 0,
      .ldq 14 false 1 (.t 13),
      .len 15 (.t 14),
      .bin 16 .geq (.t 10) (.t 15)])
   (.keep [0,1,4,16]
    (.cond (.t 16)
     (.seq
      (.reg [.build 17 (.a [(I 0),(S []),(I 0),(I 0),(B false)]) [],
       .st 5 (.t 4) (.t 17)])
     (.keep [4]
      .ret))
     .skip)))
  (.keep [0,1,4]
   (.seq
    (.dreg [⟨0,[]⟩,⟨0,[]⟩,⟨0,[]⟩,⟨0,[(0,0),(0,1),(0,2),(0,3)]⟩,⟨0,[]⟩,⟨0,[]⟩,⟨0,[]⟩,⟨0,[(0,0),(0,1),(0,2),(0,3)]⟩,⟨0,[]⟩,⟨0,[]⟩,⟨0,[(0,0),(0,1),(0,2),(0,3),(1,0),(1,1),(1,2),(1,3),(21,0),(25,0)]⟩,⟨0,[(0,0),(0,1),(0,2),(0,3),(1,0),(1,1),(1,2),(1,3),(21,0),(25,0)]⟩,⟨1,[(4,0)]⟩]
     [.mv 18 (.t 0),
      .nilc 19 (.t 18),
      .fa 20 (.t 19) 0,
      .ldq 21 false 1 (.t 20),
      .mv 22 (.t 0),
      .nilc 23 (.t 22),
      .fa 24 (.t 23) 1,
      .ldq 25 false 1 (.t 24),
      .mv 26 (.t 1),
      .bin 27 .add (.t 25) (.t 26),
      .ia 28 5 (.t 21) (.t 27),
      .ldq 29 true 5 (.t 28),
      .st 5 (.t 4) (.t 29)])
   (.keep [4]
    .ret)))))
def A.impl_TermOk:AF where
 nargs:=1
 ntmps:=6
 res:=[.tmp 2]
 body:=
  (.seq
   (.reg [.new 1 (.t 0),
    .mv 2 (.c (B false))])
  (.seq
   (.reg [.ld 3 true 4 (.t 1),
    .call (some 4) (.c (Fc F.impl_sized)) [(.t 3),(.c (I 1))] (.ro false),
    .bin 5 .leq (.t 4) (.c (I 400)),
    .mv 2 (.t 5)])
  (.keep [2]
   .ret)))
def A.spec_l05Blank:AF where
 nargs:=1
 ntmps:=13
 res:=[.tmp 2]
 body:=
  (.seq
   (.reg [.mv 2 (.c (B false))])
  (.seq
   (.reg [.mv 3 (.t 0),
    .bin 4 .eql (.t 3) (.c (U8 32)),
    .mv 5 (.t 4),
    .gd 5 false (some 6) (.mv 6 (.t 0)),
    .gd 5 false (some 7) (.bin 7 .eql (.t 6) (.c (U8 9))),
    .pick 8 (.t 5) (.c (B true)) (.t 7),
    .mv 9 (.t 8),
    .gd 9 false (some 10) (.mv 10 (.t 0)),
    .gd 9 false (some 11) (.bin 11 .eql (.t 10) (.c (U8 10))),
    .pick 12 (.t 9) (.c (B true)) (.t 11),
    .mv 2 (.t 12)])
  (.keep [2]
   .ret)))
def LB.spec_l05Sign_0:AC:=
 (.seq
  (.seq
   (.reg [.mv 142 (.t 13),
    .mv 143 (.t 0),
    .slen 144 (.t 143),
    .bin 145 .lss (.t 142) (.t 144),
    .mv 146 (.t 145),
    .gd 146 true (some 147) (.mv 147 (.t 0)),
    .gd 146 true (some 148) (.mv 148 (.t 13)),
    .gd 146 true (some 149) (.ix 149 (.t 147) (.t 148)),
    .gd 146 true (some 150) (.call (some 150) (.c (Fc F.spec_SymbolByte)) [(.t 149)] (.ro true)),
    .pick 151 (.t 146) (.t 150) (.c (B false))])
  (.keep [0,1,4,7,8,13,151]
   (.cond (.t 151)
    .skip
    (.keep [0,1,4,7,8,13]
     (.exit 3)))))
 (.keep [0,1,4,7,8,13]
  (.block 4
   (.reg [.mv 152 (.t 13),
    .bin 153 .add (.t 152) (.c (I 1)),
    .mv 13 (.t 153)]))))
def L.spec_l05Sign_0:Lp:=⟨[0,1,4,7,8,13],[(2,0)],LB.spec_l05Sign_0⟩
@[go_sem] theorem L.spec_l05Sign_0_ls:L.spec_l05Sign_0.ls=[0,1,4,7,8,13]:=rfl
@[go_sem] theorem L.spec_l05Sign_0_ks:L.spec_l05Sign_0.ks=[(2,0)]:=rfl
@[go_sem] theorem L.spec_l05Sign_0_b:L.spec_l05Sign_0.body=LB.spec_l05Sign_0:=rfl
def LB.spec_l05Sign_1:AC:=
 (.seq
  (.seq
   (.reg [.mv 54 (.t 10),
    .mv 55 (.t 0),
    .slen 56 (.t 55),
    .bin 57 .lss (.t 54) (.t 56),
    .mv 58 (.t 57),
    .gd 58 true (some 59) (.mv 59 (.t 0)),
    .gd 58 true (some 60) (.mv 60 (.t 10)),
    .gd 58 true (some 61) (.ix 61 (.t 59) (.t 60)),
    .gd 58 true (some 62) (.call (some 62) (.c (Fc F.spec_l05Figure)) [(.t 61)] (.ro true)),
    .pick 63 (.t 58) (.t 62) (.c (B false)),
    .mv 64 (.t 63),
    .gd 64 true (some 65) (.mv 65 (.t 11)),
    .gd 64 true (some 66) (.bin 66 .leq (.t 65) (.c (I 999999999))),
    .pick 67 (.t 64) (.t 66) (.c (B false))])
  (.keep [0,1,4,7,8,10,11,67]
   (.cond (.t 67)
    .skip
    (.keep [1,4,7,8,10,11]
     (.exit 1)))))
 (.keep [0,1,4,7,8,10,11]
  (.block 2
   (.seq
    (.reg [.mv 68 (.t 11),
     .bin 69 .mul (.c (I 10)) (.t 68),
     .mv 70 (.t 0),
     .mv 71 (.t 10),
     .ix 72 (.t 70) (.t 71),
     .int 73 .i64 (.t 72),
     .bin 74 .add (.t 69) (.t 73),
     .bin 75 .sub (.t 74) (.c (I 48)),
     .mv 11 (.t 75)])
   (.keep [0,1,4,7,8,10,11]
    (.reg [.mv 76 (.t 10),
     .bin 77 .add (.t 76) (.c (I 1)),
     .mv 10 (.t 77)]))))))
def L.spec_l05Sign_1:Lp:=⟨[0,1,4,7,8,10,11],[(2,0)],LB.spec_l05Sign_1⟩
@[go_sem] theorem L.spec_l05Sign_1_ls:L.spec_l05Sign_1.ls=[0,1,4,7,8,10,11]:=rfl
@[go_sem] theorem L.spec_l05Sign_1_ks:L.spec_l05Sign_1.ks=[(2,0)]:=rfl
@[go_sem] theorem L.spec_l05Sign_1_b:L.spec_l05Sign_1.body=LB.spec_l05Sign_1:=rfl
def A.spec_l05Sign:AF where
 nargs:=2
 ntmps:=167
 res:=[.cell 4 true 5,.tmp 5]
 body:=
  (.seq
   (.reg [.new 4 (.c (.a [(I 0),(S []),(I 0),(I 0),(B false)])),
    .mv 5 (.c (I 0))])
  (.seq
   (.reg [.mv 14 (.t 0),
    .mv 15 (.t 1),
    .ix 16 (.t 14) (.t 15),
    .mv 6 (.t 16)])
  (.keep [0,1,4,6]
   (.seq
    (.reg [.mv 17 (.t 0),
     .mv 18 (.t 1),
     .mv 19 (.t 1),
     .bin 20 .add (.t 19) (.c (I 1)),
     .ssl 21 (.t 17) (some (.t 18)) (some (.t 20)),
     .mv 22 (.t 1),
     .build 23 (.a [(I 0),(S []),(I 0),(I 0),(B false)]) [(0,1,(.c (I 6))),(1,1,(.t 21)),(3,1,(.t 22))],
     .new 7 (.c (.a [(I 0),(S []),(I 0),(I 0),(B false)])),
     .st 5 (.t 7) (.t 23)])
   (.keep [0,1,4,6,7]
    (.seq
     (.reg [.mv 24 (.t 1),
      .bin 25 .add (.t 24) (.c (I 1)),
      .mv 8 (.t 25)])
    (.seq
     (.block 0
      (.seq
       (.reg [.mv 27 (.t 6),
        .call (some 28) (.c (Fc F.spec_l05Small)) [(.t 27)] (.ro true),
        .mv 29 (.t 28),
        .gd 29 false (some 30) (.mv 30 (.t 6)),
        .gd 29 false (some 31) (.call (some 31) (.c (Fc F.spec_l05Great)) [(.t 30)] (.ro true)),
        .pick 32 (.t 29) (.c (B true)) (.t 31),
        .mv 26 (.t 32)])
      (.keep [0,1,4,6,7,8,26]
       (.cond (.t 26)
        (.seq
         (.reg [.mv 33 (.t 0),
          .mv 34 (.t 1),
          .call (some 35) (.c (Fc F.spec_l05Run)) [(.t 33),(.t 34)] (.ro false),
          .mv 9 (.t 35)])
        (.keep [0,1,4,6,7,8,9]
         (.seq
          (.reg [.mv 36 (.t 9),
           .mv 37 (.t 1),
           .bin 38 .sub (.t 36) (.t 37),
           .bin 39 .leq (.t 38) (.c (I 20))])
         (.keep [0,1,4,6,7,8,9,39]
          (.cond (.t 39)
           (.seq
            (.reg [.fa 40 (.t 7) 0,
             .st 1 (.t 40) (.c (I 1))])
           (.seq
            (.seq
             (.reg [.mv 41 (.t 6),
              .call (some 42) (.c (Fc F.spec_l05Great)) [(.t 41)] (.ro true)])
            (.cond (.t 42)
             (.reg [.fa 43 (.t 7) 0,
              .st 1 (.t 43) (.c (I 2))])
             .skip))
           (.keep [0,1,4,7,9]
            (.seq
             (.reg [.mv 44 (.t 0),
              .mv 45 (.t 1),
              .mv 46 (.t 9),
              .ssl 47 (.t 44) (some (.t 45)) (some (.t 46)),
              .fa 48 (.t 7) 1,
              .st 1 (.t 48) (.t 47)])
            (.keep [4,7,9]
             (.reg [.mv 49 (.t 9),
              .mv 8 (.t 49)]))))))
           .skip)))))
        (.seq
         (.reg [.mv 51 (.t 6),
          .call (some 52) (.c (Fc F.spec_l05Figure)) [(.t 51)] (.ro true),
          .mv 50 (.t 52)])
        (.cond (.t 50)
         (.seq
          (.reg [.mv 53 (.t 1),
           .mv 10 (.t 53)])
         (.seq
          (.reg [.mv 11 (.c (I 0))])
         (.seq
          (.block 1
           (lpC L.spec_l05Sign_1))
         (.keep [1,4,7,8,10,11]
          (.seq
           (.reg [.mv 78 (.t 11),
            .bin 79 .leq (.t 78) (.c (I 999999999))])
          (.cond (.t 79)
           (.seq
            (.reg [.mv 80 (.t 11),
             .mv 81 (.t 1),
             .build 82 (.a [(I 0),(S []),(I 0),(I 0),(B false)]) [(0,1,(.c (I 3))),(2,1,(.t 80)),(3,1,(.t 81))],
             .mv 83 (.t 10),
             .st 5 (.t 4) (.t 82),
             .mv 5 (.t 83)])
           (.keep [4,5]
            .ret))
           .skip))))))
         (.seq
          (.reg [.mv 85 (.t 6),
           .bin 86 .eql (.t 85) (.c (U8 39)),
           .mv 84 (.t 86)])
         (.cond (.t 84)
          (.seq
           (.reg [.mv 87 (.t 0),
            .mv 88 (.t 1),
            .call (some 89) (.c (Fc F.spec_l05Quoted)) [(.t 87),(.t 88)] (.ro false),
            .mv 12 (.t 89)])
          (.keep [0,1,4,7,8,12]
           (.seq
            (.reg [.mv 90 (.t 12),
             .bin 91 .gtr (.t 90) (.c (I 0))])
           (.cond (.t 91)
            (.seq
             (.reg [.mv 92 (.t 0),
              .mv 93 (.t 1),
              .bin 94 .add (.t 93) (.c (I 1)),
              .mv 95 (.t 12),
              .bin 96 .sub (.t 95) (.c (I 1)),
              .ssl 97 (.t 92) (some (.t 94)) (some (.t 96)),
              .mv 98 (.t 1),
              .build 99 (.a [(I 0),(S []),(I 0),(I 0),(B false)]) [(0,1,(.c (I 1))),(1,1,(.t 97)),(3,1,(.t 98))],
              .st 5 (.t 7) (.t 99)])
            (.keep [4,7,12]
             (.reg [.mv 100 (.t 12),
              .mv 8 (.t 100)])))
            .skip))))
          (.seq
           (.reg [.mv 102 (.t 6),
            .bin 103 .eql (.t 102) (.c (U8 33)),
            .mv 104 (.t 103),
            .gd 104 false (some 105) (.mv 105 (.t 6)),
            .gd 104 false (some 106) (.bin 106 .eql (.t 105) (.c (U8 59))),
            .pick 107 (.t 104) (.c (B true)) (.t 106),
            .mv 101 (.t 107)])
          (.keep [0,1,4,6,7,8,101]
           (.cond (.t 101)
            (.reg [.fa 108 (.t 7) 0,
             .st 1 (.t 108) (.c (I 1))])
            (.seq
             (.reg [.mv 110 (.t 6),
              .bin 111 .eql (.t 110) (.c (U8 40)),
              .mv 112 (.t 111),
              .gd 112 false (some 113) (.mv 113 (.t 6)),
              .gd 112 false (some 114) (.bin 114 .eql (.t 113) (.c (U8 41))),
              .pick 115 (.t 112) (.c (B true)) (.t 114),
              .mv 116 (.t 115),
              .gd 116 false (some 117) (.mv 117 (.t 6)),
              .gd 116 false (some 118) (.bin 118 .eql (.t 117) (.c (U8 91))),
              .pick 119 (.t 116) (.c (B true)) (.t 118),
              .mv 120 (.t 119),
              .gd 120 false (some 121) (.mv 121 (.t 6)),
              .gd 120 false (some 122) (.bin 122 .eql (.t 121) (.c (U8 93))),
              .pick 123 (.t 120) (.c (B true)) (.t 122),
              .mv 124 (.t 123),
              .gd 124 false (some 125) (.mv 125 (.t 6)),
              .gd 124 false (some 126) (.bin 126 .eql (.t 125) (.c (U8 44))),
              .pick 127 (.t 124) (.c (B true)) (.t 126),
              .mv 128 (.t 127),
              .gd 128 false (some 129) (.mv 129 (.t 6)),
              .gd 128 false (some 130) (.bin 130 .eql (.t 129) (.c (U8 124))),
              .pick 131 (.t 128) (.c (B true)) (.t 130),
              .mv 109 (.t 131)])
            (.keep [0,1,4,6,7,8,109]
             (.cond (.t 109)
              (.reg [.fa 132 (.t 7) 0,
               .st 1 (.t 132) (.c (I 4))])
              (.seq
               (.reg [.mv 134 (.t 0),
                .mv 135 (.t 1),
                .call (some 136) (.c (Fc F.spec_l05End)) [(.t 134),(.t 135)] (.ro true),
                .mv 133 (.t 136)])
              (.keep [0,1,4,6,7,8,133]
               (.cond (.t 133)
                (.reg [.fa 137 (.t 7) 0,
                 .st 1 (.t 137) (.c (I 5))])
                (.seq
                 (.reg [.mv 139 (.t 6),
                  .call (some 140) (.c (Fc F.spec_SymbolByte)) [(.t 139)] (.ro true),
                  .mv 138 (.t 140)])
                (.cond (.t 138)
                 (.seq
                  (.reg [.mv 141 (.t 1),
                   .mv 13 (.t 141)])
                 (.seq
                  (.block 3
                   (lpC L.spec_l05Sign_0))
                 (.keep [0,1,4,7,8,13]
                  (.seq
                   (.reg [.mv 154 (.t 13),
                    .mv 155 (.t 1),
                    .bin 156 .sub (.t 154) (.t 155),
                    .bin 157 .leq (.t 156) (.c (I 20))])
                  (.keep [0,1,4,7,8,13,157]
                   (.cond (.t 157)
                    (.seq
                     (.reg [.fa 158 (.t 7) 0,
                      .st 1 (.t 158) (.c (I 1))])
                    (.seq
                     (.reg [.mv 159 (.t 0),
                      .mv 160 (.t 1),
                      .mv 161 (.t 13),
                      .ssl 162 (.t 159) (some (.t 160)) (some (.t 161)),
                      .fa 163 (.t 7) 1,
                      .st 1 (.t 163) (.t 162)])
                    (.keep [4,7,13]
                     (.reg [.mv 164 (.t 13),
                      .mv 8 (.t 164)]))))
                    .skip))))))
                 .skip)))))))))))))))))))
    (.keep [4,7,8]
     (.seq
      (.reg [.ld 165 true 5 (.t 7),
       .mv 166 (.t 8),
       .st 5 (.t 4) (.t 165),
       .mv 5 (.t 166)])
     (.keep [4,5]
      .ret))))))))))
def LB.spec_l06Behind_0:AC:=
 (.seq
  (.seq
   (.reg [.mv 7 (.t 1),
    .mv 8 (.t 0),
    .len 9 (.t 8),
    .bin 10 .lss (.t 7) (.t 9)])
  (.keep [0,1,10]
   (.cond (.t 10)
    .skip
    (.keep [0]
     (.exit 0)))))
 (.keep [0,1]
  (.block 1
   (.seq
    (.reg [.mv 11 (.t 1),
     .bin 12 .add (.t 11) (.c (I 1)),
     .mv 1 (.t 12)])
   (.seq
    (.reg [.mv 13 (.t 0),
     .mv 14 (.t 1),
     .bin 15 .sub (.t 14) (.c (I 1)),
     .ia 16 5 (.t 13) (.t 15),
     .fa 17 (.t 16) 0,
     .ld 18 false 1 (.t 17),
     .bin 19 .eql (.t 18) (.c (I 5))])
   (.keep [0,1,19]
    (.cond (.t 19)
     (.seq
      (.reg [.mv 20 (.t 1),
       .mv 4 (.t 20)])
     (.keep [4]
      .ret))
     .skip)))))))
def L.spec_l06Behind_0:Lp:=⟨[0,1],[(2,0)],LB.spec_l06Behind_0⟩
@[go_sem] theorem L.spec_l06Behind_0_ls:L.spec_l06Behind_0.ls=[0,1]:=rfl
@[go_sem] theorem L.spec_l06Behind_0_ks:L.spec_l06Behind_0.ks=[(2,0)]:=rfl
@[go_sem] theorem L.spec_l06Behind_0_b:L.spec_l06Behind_0.body=LB.spec_l06Behind_0:=rfl
def A.spec_l06Behind:AF where
 nargs:=2
 ntmps:=23
 res:=[.tmp 4]
 body:=
  (.seq
   (.reg [.mv 4 (.c (I 0))])
  (.seq
   (.seq
    (.reg [.mv 5 (.t 1),
     .bin 6 .lss (.t 5) (.c (I 0))])
   (.cond (.t 6)
    (.reg [.mv 1 (.c (I 0))])
    .skip))
  (.keep [0,1]
   (.seq
    (.block 0
     (lpC L.spec_l06Behind_0))
   (.keep [0]
    (.seq
     (.reg [.mv 21 (.t 0),
      .len 22 (.t 21),
      .mv 4 (.t 22)])
    (.keep [4]
     .ret)))))))
def A.spec_l01In:AF where
 nargs:=3
 ntmps:=15
 res:=[.tmp 6]
 body:=
  (.seq
   (.reg [.mv 6 (.c (B false))])
  (.seq
   (.reg [.mv 7 (.t 0),
    .mv 8 (.t 1),
    .bin 9 .geq (.t 7) (.t 8),
    .mv 10 (.t 9),
    .gd 10 true (some 11) (.mv 11 (.t 0)),
    .gd 10 true (some 12) (.mv 12 (.t 2)),
    .gd 10 true (some 13) (.bin 13 .leq (.t 11) (.t 12)),
    .pick 14 (.t 10) (.t 13) (.c (B false)),
    .mv 6 (.t 14)])
  (.keep [6]
   .ret)))
def LB.spec_l06Read_term_0:AC:=
 (.seq
  (.seq
   (.reg [.mv 39 (.t 0),
    .nilc 40 (.t 39),
    .fa 41 (.t 40) 2,
    .ld 42 false 1 (.t 41),
    .un 43 .not (.t 42)])
  (.keep [0,1,4,5,6,43]
   (.cond (.t 43)
    .skip
    (.keep [0,4,5]
     (.exit 0)))))
 (.keep [0,1,4,5,6]
  (.block 1
   (.seq
    (.reg [.mv 45 (.t 0),
     .call (some 46) (.c (Fc F.spec_l06Read_infix)) [(.t 45)] (.ro false),
     .mv 44 (.t 46),
     .ext 47 (.t 44) 0,
     .ext 48 (.t 44) 1,
     .new 7 (.c (.a [(S []),(I 0),(I 0),(I 0)])),
     .st 4 (.t 7) (.t 47),
     .mv 8 (.t 48)])
   (.keep [0,1,4,5,6,7,8]
    (.seq
     (.seq
      (.reg [.mv 49 (.t 8),
       .un 50 .not (.t 49),
       .mv 51 (.t 50),
       .gd 51 false (some 52) (.fa 52 (.t 7) 1),
       .gd 51 false (some 53) (.ld 53 false 1 (.t 52)),
       .gd 51 false (some 54) (.mv 54 (.t 1)),
       .gd 51 false (some 55) (.bin 55 .gtr (.t 53) (.t 54)),
       .pick 56 (.t 51) (.c (B true)) (.t 55),
       .mv 57 (.t 56),
       .gd 57 false (some 58) (.fa 58 (.t 7) 2),
       .gd 57 false (some 59) (.ld 59 false 1 (.t 58)),
       .gd 57 false (some 60) (.mv 60 (.t 6)),
       .gd 57 false (some 61) (.bin 61 .lss (.t 59) (.t 60)),
       .pick 62 (.t 57) (.c (B true)) (.t 61)])
     (.keep [0,1,4,5,7,62]
      (.cond (.t 62)
       (.keep [0,4,5]
        (.exit 0))
       .skip)))
    (.keep [0,1,4,5,7]
     (.seq
      (.reg [.mv 63 (.t 0),
       .mv 64 (.t 0),
       .nilc 65 (.t 64),
       .fa 66 (.t 65) 1,
       .ld 67 false 1 (.t 66),
       .bin 68 .add (.t 67) (.c (I 1)),
       .nilc 69 (.t 63),
       .fa 70 (.t 69) 1,
       .st 1 (.t 70) (.t 68)])
     (.keep [0,1,4,5,7]
      (.seq
       (.reg [.mv 71 (.t 0),
        .fa 72 (.t 7) 3,
        .ld 73 false 1 (.t 72),
        .call (some 74) (.c (Fc F.spec_l06Read_term)) [(.t 71),(.t 73)] (.io false),
        .new 9 (.c (.a [(I 0),(S []),(I 0),(.n 4)])),
        .st 4 (.t 9) (.t 74)])
      (.keep [0,1,4,5,7,9]
       (.seq
        (.reg [.fa 75 (.t 7) 0,
         .ld 76 false 1 (.t 75),
         .ld 77 true 4 (.t 5),
         .ld 78 true 4 (.t 9),
         .call (some 79) (.c (Fc F.spec_l03Two)) [(.t 76),(.t 77),(.t 78)] (.io false),
         .st 4 (.t 5) (.t 79)])
       (.keep [0,1,4,5,7]
        (.reg [.fa 80 (.t 7) 1,
         .ld 81 false 1 (.t 80),
         .mv 6 (.t 81)]))))))))))))))
def L.spec_l06Read_term_0:Lp:=⟨[0,1,4,5,6],[(2,0)],LB.spec_l06Read_term_0⟩
@[go_sem] theorem L.spec_l06Read_term_0_ls:L.spec_l06Read_term_0.ls=[0,1,4,5,6]:=rfl
@[go_sem] theorem L.spec_l06Read_term_0_ks:L.spec_l06Read_term_0.ks=[(2,0)]:=rfl
@[go_sem] theorem L.spec_l06Read_term_0_b:L.spec_l06Read_term_0.body=LB.spec_l06Read_term_0:=rfl
def A.spec_l06Read_term:AF where
 nargs:=2
 ntmps:=91
 res:=[.cell 4 true 4]
 body:=
  (.seq
   (.reg [.new 4 (.c (.a [(I 0),(S []),(I 0),(.n 4)]))])
  (.seq
   (.reg [.mv 10 (.t 0),
    .mv 11 (.t 0),
    .nilc 12 (.t 11),
    .fa 13 (.t 12) 3,
    .ld 14 false 1 (.t 13),
    .bin 15 .add (.t 14) (.c (I 1)),
    .nilc 16 (.t 10),
    .fa 17 (.t 16) 3,
    .st 1 (.t 17) (.t 15)])
  (.keep [0,1,4]
   (.seq
    (.seq
     (.reg [.mv 18 (.t 0),
      .nilc 19 (.t 18),
      .fa 20 (.t 19) 2,
      .ld 21 false 1 (.t 20),
      .mv 22 (.t 21),
      .gd 22 false (some 23) (.mv 23 (.t 0)),
      .gd 22 false (some 24) (.nilc 24 (.t 23)),
      .gd 22 false (some 25) (.fa 25 (.t 24) 3),
      .gd 22 false (some 26) (.ld 26 false 1 (.t 25)),
      .gd 22 false (some 27) (.bin 27 .gtr (.t 26) (.c (I 130))),
      .pick 28 (.t 22) (.c (B true)) (.t 27)])
    (.keep [0,1,4,28]
     (.cond (.t 28)
      (.seq
       (.reg [.mv 29 (.t 0),
        .nilc 30 (.t 29),
        .fa 31 (.t 30) 2,
        .st 1 (.t 31) (.c (B true))])
      (.keep [0,4]
       (.seq
        (.reg [.build 32 (.a [(I 0),(S []),(I 0),(.n 4)]) [],
         .st 4 (.t 4) (.t 32)])
       (.keep [0,4]
        .ret))))
      .skip)))
   (.keep [0,1,4]
    (.seq
     (.reg [.mv 34 (.t 0),
      .mv 35 (.t 1),
      .call (some 36) (.c (Fc F.spec_l06Read_primary)) [(.t 34),(.t 35)] (.io false),
      .mv 33 (.t 36),
      .ext 37 (.t 33) 0,
      .ext 38 (.t 33) 1,
      .new 5 (.c (.a [(I 0),(S []),(I 0),(.n 4)])),
      .st 4 (.t 5) (.t 37),
      .mv 6 (.t 38)])
    (.keep [0,1,4,5,6]
     (.seq
      (.block 0
       (lpC L.spec_l06Read_term_0))
     (.keep [0,4,5]
      (.seq
       (.reg [.mv 82 (.t 0),
        .mv 83 (.t 0),
        .nilc 84 (.t 83),
        .fa 85 (.t 84) 3,
        .ld 86 false 1 (.t 85),
        .bin 87 .sub (.t 86) (.c (I 1)),
        .nilc 88 (.t 82),
        .fa 89 (.t 88) 3,
        .st 1 (.t 89) (.t 87)])
      (.keep [0,4,5]
       (.seq
        (.reg [.ld 90 true 4 (.t 5),
         .st 4 (.t 4) (.t 90)])
       (.keep [0,4]
        .ret)))))))))))))
def A.spec_l06Read_is:AF where
 nargs:=3
 ntmps:=58
 res:=[.tmp 6]
 body:=
  (.seq
   (.reg [.mv 6 (.c (B false))])
  (.seq
   (.dreg [⟨0,[]⟩,⟨0,[]⟩,⟨0,[]⟩,⟨0,[(0,0),(0,1),(0,2),(0,3)]⟩,⟨0,[]⟩,⟨0,[]⟩,⟨0,[]⟩,⟨0,[]⟩,⟨0,[]⟩,⟨0,[(0,0),(0,1),(0,2),(0,3)]⟩,⟨0,[]⟩,⟨0,[]⟩,⟨0,[]⟩,⟨0,[(0,0),(0,1),(0,2),(0,3)]⟩,⟨0,[(0,0),(0,1),(0,2),(0,3),(20,0)]⟩,⟨0,[]⟩,⟨0,[]⟩,⟨0,[]⟩,⟨0,[]⟩,⟨0,[]⟩,⟨0,[]⟩,⟨0,[(0,0),(0,1),(0,2),(0,3)]⟩,⟨0,[]⟩,⟨0,[]⟩,⟨0,[]⟩,⟨0,[(0,0),(0,1),(0,2),(0,3)]⟩,⟨0,[(0,0),(0,1),(0,2),(0,3),(28,0),(32,0)]⟩,⟨0,[]⟩,⟨0,[(0,0),(0,1),(0,2),(0,3),(28,0),(32,0)]⟩,⟨0,[]⟩,⟨0,[]⟩,⟨0,[]⟩,⟨0,[]⟩,⟨0,[]⟩,⟨0,[]⟩,⟨0,[]⟩,⟨0,[]⟩,⟨0,[]⟩,⟨0,[]⟩,⟨0,[(0,0),(0,1),(0,2),(0,3)]⟩,⟨0,[]⟩,⟨0,[]⟩,⟨0,[]⟩,⟨0,[(0,0),(0,1),(0,2),(0,3)]⟩,⟨0,[(0,0),(0,1),(0,2),(0,3),(46,0),(50,0)]⟩,⟨0,[]⟩,⟨0,[(0,0),(0,1),(0,2),(0,3),(46,0),(50,0)]⟩,⟨0,[]⟩,⟨0,[]⟩,⟨0,[]⟩,⟨0,[]⟩,⟨0,[]⟩]
    [.mv 7 (.t 0),
     .nilc 8 (.t 7),
     .fa 9 (.t 8) 2,
     .ldq 10 false 1 (.t 9),
     .un 11 .not (.t 10),
     .mv 12 (.t 11),
     .gd 12 true (some 13) (.mv 13 (.t 0)),
     .gd 12 true (some 14) (.nilc 14 (.t 13)),
     .gd 12 true (some 15) (.fa 15 (.t 14) 1),
     .gd 12 true (some 16) (.ldq 16 false 1 (.t 15)),
     .gd 12 true (some 17) (.mv 17 (.t 0)),
     .gd 12 true (some 18) (.nilc 18 (.t 17)),
     .gd 12 true (some 19) (.fa 19 (.t 18) 0),
     .gd 12 true (some 20) (.ldq 20 false 1 (.t 19)),
     .gd 12 true (some 21) (.len 21 (.t 20)),
     .gd 12 true (some 22) (.bin 22 .lss (.t 16) (.t 21)),
     .pick 23 (.t 12) (.t 22) (.c (B false)),
     .mv 24 (.t 23),
     .gd 24 true (some 25) (.mv 25 (.t 0)),
     .gd 24 true (some 26) (.nilc 26 (.t 25)),
     .gd 24 true (some 27) (.fa 27 (.t 26) 0),
     .gd 24 true (some 28) (.ldq 28 false 1 (.t 27)),
     .gd 24 true (some 29) (.mv 29 (.t 0)),
     .gd 24 true (some 30) (.nilc 30 (.t 29)),
     .gd 24 true (some 31) (.fa 31 (.t 30) 1),
     .gd 24 true (some 32) (.ldq 32 false 1 (.t 31)),
     .gd 24 true (some 33) (.ia 33 5 (.t 28) (.t 32)),
     .gd 24 true (some 34) (.fa 34 (.t 33) 0),
     .gd 24 true (some 35) (.ldq 35 false 1 (.t 34)),
     .gd 24 true (some 36) (.mv 36 (.t 1)),
     .gd 24 true (some 37) (.bin 37 .eql (.t 35) (.t 36)),
     .pick 38 (.t 24) (.t 37) (.c (B false)),
     .mv 39 (.t 38),
     .gd 39 true (some 40) (.mv 40 (.t 2)),
     .gd 39 true (some 41) (.bin 41 .eql (.t 40) (.c (S []))),
     .gd 39 true (some 42) (.mv 42 (.t 41)),
     .gd 42 false (some 43) (.mv 43 (.t 0)),
     .gd 42 false (some 44) (.nilc 44 (.t 43)),
     .gd 42 false (some 45) (.fa 45 (.t 44) 0),
     .gd 42 false (some 46) (.ldq 46 false 1 (.t 45)),
     .gd 42 false (some 47) (.mv 47 (.t 0)),
     .gd 42 false (some 48) (.nilc 48 (.t 47)),
     .gd 42 false (some 49) (.fa 49 (.t 48) 1),
     .gd 42 false (some 50) (.ldq 50 false 1 (.t 49)),
     .gd 42 false (some 51) (.ia 51 5 (.t 46) (.t 50)),
     .gd 42 false (some 52) (.fa 52 (.t 51) 1),
     .gd 42 false (some 53) (.ldq 53 false 1 (.t 52)),
     .gd 42 false (some 54) (.mv 54 (.t 2)),
     .gd 42 false (some 55) (.bin 55 .eql (.t 53) (.t 54)),
     .gd 39 true (some 56) (.pick 56 (.t 42) (.c (B true)) (.t 55)),
     .pick 57 (.t 39) (.t 56) (.c (B false)),
     .mv 6 (.t 57)])
  (.keep [6]
   .ret)))
def A.spec_TermOk:AF where
 nargs:=1
 ntmps:=10
 res:=[.tmp 2]
 body:=
  (.seq
   (.reg [.new 1 (.t 0),
    .mv 2 (.c (B false))])
  (.seq
   (.reg [.ld 3 true 4 (.t 1),
    .call (some 4) (.c (Fc F.spec_l03Count)) [(.t 3),(.c (I 400))] (.ro false),
    .bin 5 .geq (.t 4) (.c (I 0)),
    .mv 6 (.t 5),
    .gd 6 true (some 7) (.ld 7 true 4 (.t 1)),
    .gd 6 true (some 8) (.call (some 8) (.c (Fc F.spec_l03Right)) [(.t 7),(.c (I 1))] (.ro false)),
    .pick 9 (.t 6) (.t 8) (.c (B false)),
    .mv 2 (.t 9)])
  (.keep [2]
   .ret)))
def A.impl_endsHere:AF where
 nargs:=2
 ntmps:=33
 res:=[.tmp 4]
 body:=
  (.seq
   (.reg [.mv 4 (.c (B false))])
  (.seq
   (.seq
    (.reg [.mv 5 (.t 0),
     .mv 6 (.t 1),
     .ix 7 (.t 5) (.t 6),
     .bin 8 .neq (.t 7) (.c (U8 46)),
     .mv 9 (.t 8),
     .gd 9 false (some 10) (.mv 10 (.t 1)),
     .gd 9 false (some 11) (.bin 11 .gtr (.t 10) (.c (I 0))),
     .gd 9 false (some 12) (.mv 12 (.t 11)),
     .gd 12 true (some 13) (.mv 13 (.t 0)),
     .gd 12 true (some 14) (.mv 14 (.t 1)),
     .gd 12 true (some 15) (.bin 15 .sub (.t 14) (.c (I 1))),
     .gd 12 true (some 16) (.ix 16 (.t 13) (.t 15)),
     .gd 12 true (some 17) (.call (some 17) (.c (Fc F.impl_SymbolByte)) [(.t 16)] (.ro true)),
     .gd 9 false (some 18) (.pick 18 (.t 12) (.t 17) (.c (B false))),
     .pick 19 (.t 9) (.c (B true)) (.t 18)])
   (.keep [0,1,19]
    (.cond (.t 19)
     (.seq
      (.reg [.mv 4 (.c (B false))])
     (.keep [4]
      .ret))
     .skip)))
  (.keep [0,1]
   (.seq
    (.reg [.mv 20 (.t 1),
     .bin 21 .add (.t 20) (.c (I 1)),
     .mv 22 (.t 0),
     .slen 23 (.t 22),
     .bin 24 .eql (.t 21) (.t 23),
     .mv 25 (.t 24),
     .gd 25 false (some 26) (.mv 26 (.t 0)),
     .gd 25 false (some 27) (.mv 27 (.t 1)),
     .gd 25 false (some 28) (.bin 28 .add (.t 27) (.c (I 1))),
     .gd 25 false (some 29) (.ix 29 (.t 26) (.t 28)),
     .gd 25 false (some 30) (.call (some 30) (.c (Fc F.strings_IndexByte)) [(.c (S [32,9,10,37])),(.t 29)] (.ro false)),
     .gd 25 false (some 31) (.bin 31 .geq (.t 30) (.c (I 0))),
     .pick 32 (.t 25) (.c (B true)) (.t 31),
     .mv 4 (.t 32)])
   (.keep [4]
    .ret)))))
def A.impl_lower:AF where
 nargs:=1
 ntmps:=9
 res:=[.tmp 2]
 body:=
  (.seq
   (.reg [.mv 2 (.c (B false))])
  (.seq
   (.reg [.mv 3 (.t 0),
    .bin 4 .geq (.t 3) (.c (U8 97)),
    .mv 5 (.t 4),
    .gd 5 true (some 6) (.mv 6 (.t 0)),
    .gd 5 true (some 7) (.bin 7 .leq (.t 6) (.c (U8 122))),
    .pick 8 (.t 5) (.t 7) (.c (B false)),
    .mv 2 (.t 8)])
  (.keep [2]
   .ret)))
def A.impl_upper:AF where
 nargs:=1
 ntmps:=9
 res:=[.tmp 2]
 body:=
  (.seq
   (.reg [.mv 2 (.c (B false))])
  (.seq
   (.reg [.mv 3 (.t 0),
    .bin 4 .geq (.t 3) (.c (U8 65)),
    .mv 5 (.t 4),
    .gd 5 true (some 6) (.mv 6 (.t 0)),
    .gd 5 true (some 7) (.bin 7 .leq (.t 6) (.c (U8 90))),
    .pick 8 (.t 5) (.t 7) (.c (B false)),
    .mv 2 (.t 8)])
  (.keep [2]
   .ret)))
def A.impl_wordByte:AF where
 nargs:=1
 ntmps:=17
 res:=[.tmp 2]
 body:=
  (.seq
   (.reg [.mv 2 (.c (B false))])
  (.seq
   (.reg [.mv 3 (.t 0),
    .call (some 4) (.c (Fc F.impl_lower)) [(.t 3)] (.ro false),
    .mv 5 (.t 4),
    .gd 5 false (some 6) (.mv 6 (.t 0)),
    .gd 5 false (some 7) (.call (some 7) (.c (Fc F.impl_upper)) [(.t 6)] (.ro false)),
    .pick 8 (.t 5) (.c (B true)) (.t 7),
    .mv 9 (.t 8),
    .gd 9 false (some 10) (.mv 10 (.t 0)),
    .gd 9 false (some 11) (.call (some 11) (.c (Fc F.impl_figure)) [(.t 10)] (.ro false)),
    .pick 12 (.t 9) (.c (B true)) (.t 11),
    .mv 13 (.t 12),
    .gd 13 false (some 14) (.mv 14 (.t 0)),
    .gd 13 false (some 15) (.bin 15 .eql (.t 14) (.c (U8 95))),
    .pick 16 (.t 13) (.c (B true)) (.t 15),
    .mv 2 (.t 16)])
  (.keep [2]
   .ret)))
def A.impl_figure:AF where
 nargs:=1
 ntmps:=9
 res:=[.tmp 2]
 body:=
  (.seq
   (.reg [.mv 2 (.c (B false))])
  (.seq
   (.reg [.mv 3 (.t 0),
    .bin 4 .geq (.t 3) (.c (U8 48)),
    .mv 5 (.t 4),
    .gd 5 true (some 6) (.mv 6 (.t 0)),
    .gd 5 true (some 7) (.bin 7 .leq (.t 6) (.c (U8 57))),
    .pick 8 (.t 5) (.t 7) (.c (B false)),
    .mv 2 (.t 8)])
  (.keep [2]
   .ret)))
def A.impl_SymbolByte:AF where
 nargs:=1
 ntmps:=6
 res:=[.tmp 2]
 body:=
  (.seq
   (.reg [.mv 2 (.c (B false))])
  (.seq
   (.reg [.mv 3 (.t 0),
    .call (some 4) (.c (Fc F.strings_IndexByte)) [(.c (S [43,45,42,47,92,94,60,62,61,126,58,46,63,64,35,38,36])),(.t 3)] (.ro false),
    .bin 5 .geq (.t 4) (.c (I 0)),
    .mv 2 (.t 5)])
  (.keep [2]
   .ret)))
def A.impl_nextSign_1:AF where
 nargs:=1
 ntmps:=14
 res:=[.tmp 2]
 body:=
  (.seq
   (.reg [.mv 2 (.c (B false))])
  (.seq
   (.reg [.mv 3 (.t 0),
    .int 4 .i64 (.t 3),
    .call (some 5) (.c (Fc F.impl_within)) [(.t 4),(.c (I 33)),(.c (I 126))] (.ro false),
    .mv 6 (.t 5),
    .gd 6 true (some 7) (.mv 7 (.t 0)),
    .gd 6 true (some 8) (.bin 8 .neq (.t 7) (.c (U8 39))),
    .pick 9 (.t 6) (.t 8) (.c (B false)),
    .mv 10 (.t 9),
    .gd 10 true (some 11) (.mv 11 (.t 0)),
    .gd 10 true (some 12) (.bin 12 .neq (.t 11) (.c (U8 34))),
    .pick 13 (.t 10) (.t 12) (.c (B false)),
    .mv 2 (.t 13)])
  (.keep [2]
   .ret)))
def A.impl_parser_primary:AF where
 nargs:=2
 ntmps:=221
 res:=[.cell 4 true 4,.tmp 5]
 body:=
  (.seq
   (.reg [.new 4 (.c (.a [(I 0),(S []),(I 0),(.n 4)])),
    .mv 5 (.c (I 0))])
  (.seq
   (.reg [.mv 14 (.t 0),
    .call (some 15) (.c (Fc F.impl_parser_sign)) [(.t 14),(.c (I 0))] (.ro false),
    .new 6 (.c (.a [(I 0),(S []),(I 0),(I 0),(B false)])),
    .st 5 (.t 6) (.t 15)])
  (.keep [0,1,4,6]
   (.seq
    (.reg [.fa 17 (.t 6) 1,
     .ld 18 false 1 (.t 17),
     .call (some 19) (.c (Fc F.impl_PrefixOf)) [(.t 18)] (.ro false),
     .mv 16 (.t 19),
     .ext 20 (.t 16) 0,
     .ext 21 (.t 16) 1,
     .new 7 (.c (.a [(S []),(I 0),(I 0),(I 0)])),
     .st 4 (.t 7) (.t 20),
     .mv 8 (.t 21)])
   (.keep [0,1,4,6,7,8]
    (.seq
     (.reg [.fa 23 (.t 6) 1,
      .ld 24 false 1 (.t 23),
      .call (some 25) (.c (Fc F.impl_InfixOf)) [(.t 24)] (.ro true),
      .mv 22 (.t 25),
      .ext 26 (.t 22) 0,
      .ext 27 (.t 22) 1,
      .new 9 (.c (.a [(S []),(I 0),(I 0),(I 0)])),
      .st 4 (.t 9) (.t 26),
      .mv 10 (.t 27)])
    (.keep [0,1,4,6,7,8,10]
     (.seq
      (.reg [.mv 28 (.t 0),
       .call (some 29) (.c (Fc F.impl_parser_sign)) [(.t 28),(.c (I 1))] (.ro false),
       .new 11 (.c (.a [(I 0),(S []),(I 0),(I 0),(B false)])),
       .st 5 (.t 11) (.t 29)])
     (.keep [0,1,4,6,7,8,10,11]
      (.seq
       (.block 0
        (.seq
         (.reg [.fa 31 (.t 6) 0,
          .ld 32 false 1 (.t 31),
          .bin 33 .eql (.t 32) (.c (I 1)),
          .mv 34 (.t 33),
          .gd 34 true (some 35) (.fa 35 (.t 6) 4),
          .gd 34 true (some 36) (.ld 36 false 1 (.t 35)),
          .pick 37 (.t 34) (.t 36) (.c (B false)),
          .mv 30 (.t 37)])
        (.keep [0,1,4,6,7,8,10,11,30]
         (.cond (.t 30)
          (.seq
           (.reg [.mv 38 (.t 0),
            .nilc 39 (.t 38),
            .fa 40 (.t 39) 1,
            .ld 41 false 1 (.t 40),
            .bin 42 .add (.t 41) (.c (I 1)),
            .nilc 43 (.t 38),
            .fa 44 (.t 43) 1,
            .st 1 (.t 44) (.t 42)])
          (.keep [0,4,6]
           (.seq
            (.reg [.mv 45 (.t 0),
             .call (some 46) (.c (Fc F.impl_parser_mark)) [(.t 45),(.c (S [40]))] (.io true)])
           (.seq
            (.reg [.mv 47 (.t 0),
             .call (some 48) (.c (Fc F.impl_parser_terms)) [(.t 47)] (.io false),
             .mv 12 (.t 48)])
           (.seq
            (.reg [.mv 49 (.t 0),
             .call (some 50) (.c (Fc F.impl_parser_mark)) [(.t 49),(.c (S [41]))] (.io true)])
           (.seq
            (.seq
             (.reg [.mv 51 (.t 12),
              .len 52 (.t 51),
              .bin 53 .gtr (.t 52) (.c (I 5))])
            (.cond (.t 53)
             (.reg [.mv 54 (.t 0),
              .nilc 55 (.t 54),
              .fa 56 (.t 55) 4,
              .st 1 (.t 56) (.c (B true))])
             .skip))
           (.keep [0,4,6,12]
            (.seq
             (.reg [.fa 57 (.t 6) 1,
              .ld 58 false 1 (.t 57),
              .mv 59 (.t 12),
              .call (some 60) (.c (Fc F.impl_structure)) [(.t 58),(.t 59)] (.io false),
              .st 4 (.t 4) (.t 60),
              .mv 5 (.c (I 0))])
            (.keep [0,4,5]
             .ret)))))))))
          (.seq
           (.reg [.mv 62 (.t 0),
            .call (some 63) (.c (Fc F.impl_parser_isMark)) [(.t 62),(.c (I 0)),(.c (S [40]))] (.ro true),
            .mv 64 (.t 63),
            .gd 64 true (some 65) (.fa 65 (.t 11) 0),
            .gd 64 true (some 66) (.ld 66 false 1 (.t 65)),
            .gd 64 true (some 67) (.bin 67 .eql (.t 66) (.c (I 1))),
            .pick 68 (.t 64) (.t 67) (.c (B false)),
            .mv 69 (.t 68),
            .gd 69 true (some 70) (.mv 70 (.t 0)),
            .gd 69 true (some 71) (.call (some 71) (.c (Fc F.impl_parser_isMark)) [(.t 70),(.c (I 2)),(.c (S [41]))] (.ro true)),
            .pick 72 (.t 69) (.t 71) (.c (B false)),
            .mv 61 (.t 72)])
          (.keep [0,1,4,6,7,8,10,11,61]
           (.cond (.t 61)
            (.seq
             (.reg [.mv 73 (.t 0),
              .nilc 74 (.t 73),
              .fa 75 (.t 74) 1,
              .ld 76 false 1 (.t 75),
              .bin 77 .add (.t 76) (.c (I 3)),
              .nilc 78 (.t 73),
              .fa 79 (.t 78) 1,
              .st 1 (.t 79) (.t 77)])
            (.keep [0,4,11]
             (.seq
              (.reg [.fa 80 (.t 11) 1,
               .ld 81 false 1 (.t 80),
               .call (some 82) (.c (Fc F.impl_atom)) [(.t 81)] (.ro false),
               .st 4 (.t 4) (.t 82),
               .mv 5 (.c (I 0))])
             (.keep [0,4,5]
              .ret))))
            (.seq
             (.reg [.mv 84 (.t 0),
              .call (some 85) (.c (Fc F.impl_parser_isMark)) [(.t 84),(.c (I 0)),(.c (S [40]))] (.ro true),
              .mv 83 (.t 85)])
            (.cond (.t 83)
             (.seq
              (.reg [.mv 86 (.t 0),
               .nilc 87 (.t 86),
               .fa 88 (.t 87) 1,
               .ld 89 false 1 (.t 88),
               .bin 90 .add (.t 89) (.c (I 1)),
               .nilc 91 (.t 86),
               .fa 92 (.t 91) 1,
               .st 1 (.t 92) (.t 90)])
             (.keep [0,4]
              (.seq
               (.reg [.mv 93 (.t 0),
                .call (some 94) (.c (Fc F.impl_parser_term)) [(.t 93),(.c (I 1200))] (.io false),
                .new 13 (.c (.a [(I 0),(S []),(I 0),(.n 4)])),
                .st 4 (.t 13) (.t 94)])
              (.keep [0,4,13]
               (.seq
                (.reg [.mv 95 (.t 0),
                 .call (some 96) (.c (Fc F.impl_parser_mark)) [(.t 95),(.c (S [41]))] (.io true)])
               (.seq
                (.reg [.ld 97 true 4 (.t 13),
                 .st 4 (.t 4) (.t 97),
                 .mv 5 (.c (I 0))])
               (.keep [0,4,5]
                .ret)))))))
             (.seq
              (.reg [.mv 99 (.t 0),
               .call (some 100) (.c (Fc F.impl_parser_isMark)) [(.t 99),(.c (I 0)),(.c (S [91]))] (.ro true),
               .mv 98 (.t 100)])
             (.cond (.t 98)
              (.seq
               (.reg [.mv 101 (.t 0),
                .call (some 102) (.c (Fc F.impl_parser_listTerm)) [(.t 101)] (.io false),
                .st 4 (.t 4) (.t 102),
                .mv 5 (.c (I 0))])
              (.keep [0,4,5]
               .ret))
              (.seq
               (.reg [.fa 104 (.t 6) 0,
                .ld 105 false 1 (.t 104),
                .bin 106 .eql (.t 105) (.c (I 3)),
                .mv 103 (.t 106)])
              (.keep [0,1,4,6,7,8,10,11,103]
               (.cond (.t 103)
                (.seq
                 (.reg [.mv 107 (.t 0),
                  .nilc 108 (.t 107),
                  .fa 109 (.t 108) 1,
                  .ld 110 false 1 (.t 109),
                  .bin 111 .add (.t 110) (.c (I 1)),
                  .nilc 112 (.t 107),
                  .fa 113 (.t 112) 1,
                  .st 1 (.t 113) (.t 111)])
                (.keep [0,4,6]
                 (.seq
                  (.reg [.fa 114 (.t 6) 2,
                   .ld 115 false 1 (.t 114),
                   .call (some 116) (.c (Fc F.impl_number)) [(.t 115)] (.ro false),
                   .st 4 (.t 4) (.t 116),
                   .mv 5 (.c (I 0))])
                 (.keep [0,4,5]
                  .ret))))
                (.seq
                 (.reg [.fa 118 (.t 6) 0,
                  .ld 119 false 1 (.t 118),
                  .bin 120 .eql (.t 119) (.c (I 2)),
                  .mv 117 (.t 120)])
                (.keep [0,1,4,6,7,8,10,11,117]
                 (.cond (.t 117)
                  (.seq
                   (.reg [.mv 121 (.t 0),
                    .nilc 122 (.t 121),
                    .fa 123 (.t 122) 1,
                    .ld 124 false 1 (.t 123),
                    .bin 125 .add (.t 124) (.c (I 1)),
                    .nilc 126 (.t 121),
                    .fa 127 (.t 126) 1,
                    .st 1 (.t 127) (.t 125)])
                  (.keep [0,4,6]
                   (.seq
                    (.reg [.mv 128 (.t 0),
                     .fa 129 (.t 6) 1,
                     .ld 130 false 1 (.t 129),
                     .call (some 131) (.c (Fc F.impl_parser_variable)) [(.t 128),(.t 130)] (.io false),
                     .st 4 (.t 4) (.t 131),
                     .mv 5 (.c (I 0))])
                   (.keep [0,4,5]
                    .ret))))
                  (.seq
                   (.reg [.fa 133 (.t 6) 0,
                    .ld 134 false 1 (.t 133),
                    .bin 135 .eql (.t 134) (.c (I 1)),
                    .mv 136 (.t 135),
                    .gd 136 true (some 137) (.fa 137 (.t 6) 1),
                    .gd 136 true (some 138) (.ld 138 false 1 (.t 137)),
                    .gd 136 true (some 139) (.bin 139 .eql (.t 138) (.c (S [45]))),
                    .pick 140 (.t 136) (.t 139) (.c (B false)),
                    .mv 141 (.t 140),
                    .gd 141 true (some 142) (.fa 142 (.t 11) 0),
                    .gd 141 true (some 143) (.ld 143 false 1 (.t 142)),
                    .gd 141 true (some 144) (.bin 144 .eql (.t 143) (.c (I 3))),
                    .pick 145 (.t 141) (.t 144) (.c (B false)),
                    .mv 146 (.t 145),
                    .gd 146 true (some 147) (.fa 147 (.t 11) 3),
                    .gd 146 true (some 148) (.ld 148 false 1 (.t 147)),
                    .gd 146 true (some 149) (.fa 149 (.t 6) 3),
                    .gd 146 true (some 150) (.ld 150 false 1 (.t 149)),
                    .gd 146 true (some 151) (.bin 151 .add (.t 150) (.c (I 1))),
                    .gd 146 true (some 152) (.bin 152 .eql (.t 148) (.t 151)),
                    .pick 153 (.t 146) (.t 152) (.c (B false)),
                    .mv 132 (.t 153)])
                  (.keep [0,1,4,6,7,8,10,11,132]
                   (.cond (.t 132)
                    (.seq
                     (.reg [.mv 154 (.t 0),
                      .nilc 155 (.t 154),
                      .fa 156 (.t 155) 1,
                      .ld 157 false 1 (.t 156),
                      .bin 158 .add (.t 157) (.c (I 2)),
                      .nilc 159 (.t 154),
                      .fa 160 (.t 159) 1,
                      .st 1 (.t 160) (.t 158)])
                    (.keep [0,4,11]
                     (.seq
                      (.reg [.fa 161 (.t 11) 2,
                       .ld 162 false 1 (.t 161),
                       .un 163 .neg (.t 162),
                       .call (some 164) (.c (Fc F.impl_number)) [(.t 163)] (.ro false),
                       .st 4 (.t 4) (.t 164),
                       .mv 5 (.c (I 0))])
                     (.keep [0,4,5]
                      .ret))))
                    (.seq
                     (.reg [.fa 166 (.t 6) 0,
                      .ld 167 false 1 (.t 166),
                      .bin 168 .eql (.t 167) (.c (I 1)),
                      .mv 169 (.t 168),
                      .gd 169 true (some 170) (.mv 170 (.t 8)),
                      .pick 171 (.t 169) (.t 170) (.c (B false)),
                      .mv 172 (.t 171),
                      .gd 172 true (some 173) (.fa 173 (.t 7) 1),
                      .gd 172 true (some 174) (.ld 174 false 1 (.t 173)),
                      .gd 172 true (some 175) (.mv 175 (.t 1)),
                      .gd 172 true (some 176) (.bin 176 .leq (.t 174) (.t 175)),
                      .pick 177 (.t 172) (.t 176) (.c (B false)),
                      .mv 165 (.t 177)])
                    (.keep [0,4,6,7,8,10,165]
                     (.cond (.t 165)
                      (.seq
                       (.reg [.mv 178 (.t 0),
                        .nilc 179 (.t 178),
                        .fa 180 (.t 179) 1,
                        .ld 181 false 1 (.t 180),
                        .bin 182 .add (.t 181) (.c (I 1)),
                        .nilc 183 (.t 178),
                        .fa 184 (.t 183) 1,
                        .st 1 (.t 184) (.t 182)])
                      (.keep [0,4,6,7]
                       (.seq
                        (.dreg [⟨0,[]⟩,⟨0,[(6,0)]⟩,⟨0,[]⟩,⟨0,[]⟩,⟨0,[(7,0)]⟩,⟨1,[(0,0),(0,1),(0,2),(0,3),(15,0),(15,1),(15,2),(15,3),(18,0),(19,0),(19,1),(19,2),(19,3),(41,0),(76,0),(89,0),(110,0),(124,0),(157,0),(181,0),(189,0),(210,0)]⟩,⟨1,[]⟩,⟨1,[(0,0),(0,1),(0,2),(0,3),(15,0),(15,1),(15,2),(15,3),(18,0),(19,0),(19,1),(19,2),(19,3),(41,0),(76,0),(89,0),(110,0),(124,0),(157,0),(181,0),(186,0),(189,0),(190,0),(190,1),(190,2),(190,3),(191,0),(210,0)]⟩,⟨0,[]⟩,⟨0,[(7,0)]⟩,⟨1,[(4,0)]⟩,⟨0,[]⟩]
                         [.fa 185 (.t 6) 1,
                          .ldq 186 false 1 (.t 185),
                          .mv 187 (.t 0),
                          .fa 188 (.t 7) 3,
                          .ldq 189 false 1 (.t 188),
                          .call (some 190) (.c (Fc F.impl_parser_term)) [(.t 187),(.t 189)] (.io false),
                          .mks 191 4 [(.t 190)],
                          .call (some 192) (.c (Fc F.impl_structure)) [(.t 186),(.t 191)] (.io false),
                          .fa 193 (.t 7) 1,
                          .ldq 194 false 1 (.t 193),
                          .st 4 (.t 4) (.t 192),
                          .mv 5 (.t 194)])
                       (.keep [0,4,5]
                        .ret))))
                      (.seq
                       (.reg [.fa 196 (.t 6) 0,
                        .ld 197 false 1 (.t 196),
                        .bin 198 .eql (.t 197) (.c (I 1)),
                        .mv 199 (.t 198),
                        .gd 199 true (some 200) (.mv 200 (.t 8)),
                        .gd 199 true (some 201) (.un 201 .not (.t 200)),
                        .pick 202 (.t 199) (.t 201) (.c (B false)),
                        .mv 203 (.t 202),
                        .gd 203 true (some 204) (.mv 204 (.t 10)),
                        .gd 203 true (some 205) (.un 205 .not (.t 204)),
                        .pick 206 (.t 203) (.t 205) (.c (B false)),
                        .mv 195 (.t 206)])
                      (.keep [0,4,6,195]
                       (.cond (.t 195)
                        (.seq
                         (.reg [.mv 207 (.t 0),
                          .nilc 208 (.t 207),
                          .fa 209 (.t 208) 1,
                          .ld 210 false 1 (.t 209),
                          .bin 211 .add (.t 210) (.c (I 1)),
                          .nilc 212 (.t 207),
                          .fa 213 (.t 212) 1,
                          .st 1 (.t 213) (.t 211)])
                        (.keep [0,4,6]
                         (.seq
                          (.reg [.fa 214 (.t 6) 1,
                           .ld 215 false 1 (.t 214),
                           .call (some 216) (.c (Fc F.impl_atom)) [(.t 215)] (.ro false),
                           .st 4 (.t 4) (.t 216),
                           .mv 5 (.c (I 0))])
                         (.keep [0,4,5]
                          .ret))))
                        .skip))))))))))))))))))))))))))
      (.keep [0,4]
       (.seq
        (.reg [.mv 217 (.t 0),
         .nilc 218 (.t 217),
         .fa 219 (.t 218) 4,
         .st 1 (.t 219) (.c (B true))])
       (.keep [0,4]
        (.seq
         (.reg [.build 220 (.a [(I 0),(S []),(I 0),(.n 4)]) [],
          .st 4 (.t 4) (.t 220),
          .mv 5 (.c (I 0))])
        (.keep [0,4,5]
         .ret)))))))))))))))
def A.impl_InfixOf:AF where
 nargs:=1
 ntmps:=42
 res:=[.cell 2 true 4,.tmp 3]
 body:=
  (.seq
   (.reg [.new 2 (.c (.a [(S []),(I 0),(I 0),(I 0)])),
    .mv 3 (.c (B false))])
  (.seq
   (.seq
    (.reg [.mv 4 (.t 0)])
   (.block 0
    (.seq
     (.seq
      (.reg [.bin 6 .eql (.t 4) (.c (S [58,45])),
       .mv 5 (.t 6)])
     (.cond (.t 5)
      .skip
      (.reg [.bin 7 .eql (.t 4) (.c (S [45,45,62])),
       .mv 5 (.t 7)])))
    (.keep [0,2,4,5]
     (.cond (.t 5)
      (.seq
       (.reg [.mv 8 (.t 0),
        .build 9 (.a [(S []),(I 0),(I 0),(I 0)]) [(0,1,(.t 8)),(1,1,(.c (I 1200))),(2,1,(.c (I 1199))),(3,1,(.c (I 1199)))],
        .st 4 (.t 2) (.t 9),
        .mv 3 (.c (B true))])
      (.keep [2,3]
       .ret))
      (.seq
       (.reg [.bin 11 .eql (.t 4) (.c (S [59])),
        .mv 10 (.t 11)])
      (.cond (.t 10)
       (.seq
        (.reg [.mv 12 (.t 0),
         .build 13 (.a [(S []),(I 0),(I 0),(I 0)]) [(0,1,(.t 12)),(1,1,(.c (I 1100))),(2,1,(.c (I 1099))),(3,1,(.c (I 1100)))],
         .st 4 (.t 2) (.t 13),
         .mv 3 (.c (B true))])
       (.keep [2,3]
        .ret))
       (.seq
        (.reg [.bin 15 .eql (.t 4) (.c (S [45,62])),
         .mv 14 (.t 15)])
       (.cond (.t 14)
        (.seq
         (.reg [.mv 16 (.t 0),
          .build 17 (.a [(S []),(I 0),(I 0),(I 0)]) [(0,1,(.t 16)),(1,1,(.c (I 1050))),(2,1,(.c (I 1049))),(3,1,(.c (I 1050)))],
          .st 4 (.t 2) (.t 17),
          .mv 3 (.c (B true))])
        (.keep [2,3]
         .ret))
        (.seq
         (.reg [.bin 19 .eql (.t 4) (.c (S [44])),
          .mv 18 (.t 19)])
        (.cond (.t 18)
         (.seq
          (.reg [.mv 20 (.t 0),
           .build 21 (.a [(S []),(I 0),(I 0),(I 0)]) [(0,1,(.t 20)),(1,1,(.c (I 1000))),(2,1,(.c (I 999))),(3,1,(.c (I 1000)))],
           .st 4 (.t 2) (.t 21),
           .mv 3 (.c (B true))])
         (.keep [2,3]
          .ret))
         (.seq
          (.seq
           (.reg [.bin 23 .eql (.t 4) (.c (S [61])),
            .mv 22 (.t 23)])
          (.cond (.t 22)
           .skip
           (.seq
            (.reg [.bin 24 .eql (.t 4) (.c (S [92,61])),
             .mv 22 (.t 24)])
           (.cond (.t 22)
            .skip
            (.seq
             (.reg [.bin 25 .eql (.t 4) (.c (S [61,61])),
              .mv 22 (.t 25)])
            (.cond (.t 22)
             .skip
             (.seq
              (.reg [.bin 26 .eql (.t 4) (.c (S [105,115])),
               .mv 22 (.t 26)])
             (.cond (.t 22)
              .skip
              (.seq
               (.reg [.bin 27 .eql (.t 4) (.c (S [60])),
                .mv 22 (.t 27)])
              (.cond (.t 22)
               .skip
               (.reg [.bin 28 .eql (.t 4) (.c (S [61,58,61])),
                .mv 22 (.t 28)])))))))))))
         (.keep [0,2,4,22]
          (.cond (.t 22)
           (.seq
            (.reg [.mv 29 (.t 0),
             .build 30 (.a [(S []),(I 0),(I 0),(I 0)]) [(0,1,(.t 29)),(1,1,(.c (I 700))),(2,1,(.c (I 699))),(3,1,(.c (I 699)))],
             .st 4 (.t 2) (.t 30),
             .mv 3 (.c (B true))])
           (.keep [2,3]
            .ret))
           (.seq
            (.seq
             (.reg [.bin 32 .eql (.t 4) (.c (S [43])),
              .mv 31 (.t 32)])
            (.cond (.t 31)
             .skip
             (.reg [.bin 33 .eql (.t 4) (.c (S [45])),
              .mv 31 (.t 33)])))
           (.keep [0,2,4,31]
            (.cond (.t 31)
             (.seq
              (.reg [.mv 34 (.t 0),
               .build 35 (.a [(S []),(I 0),(I 0),(I 0)]) [(0,1,(.t 34)),(1,1,(.c (I 500))),(2,1,(.c (I 500))),(3,1,(.c (I 499)))],
               .st 4 (.t 2) (.t 35),
               .mv 3 (.c (B true))])
             (.keep [2,3]
              .ret))
             (.seq
              (.seq
               (.reg [.bin 37 .eql (.t 4) (.c (S [42])),
                .mv 36 (.t 37)])
              (.cond (.t 36)
               .skip
               (.reg [.bin 38 .eql (.t 4) (.c (S [47,47])),
                .mv 36 (.t 38)])))
             (.keep [0,2,36]
              (.cond (.t 36)
               (.seq
                (.reg [.mv 39 (.t 0),
                 .build 40 (.a [(S []),(I 0),(I 0),(I 0)]) [(0,1,(.t 39)),(1,1,(.c (I 400))),(2,1,(.c (I 400))),(3,1,(.c (I 399)))],
                 .st 4 (.t 2) (.t 40),
                 .mv 3 (.c (B true))])
               (.keep [2,3]
                .ret))
               .skip))))))))))))))))))))
  (.keep [2]
   (.seq
    (.reg [.build 41 (.a [(S []),(I 0),(I 0),(I 0)]) [],
     .st 4 (.t 2) (.t 41),
     .mv 3 (.c (B false))])
   (.keep [2,3]
    .ret)))))
def A.impl_structure:AF where
 nargs:=2
 ntmps:=8
 res:=[.cell 4 true 4]
 body:=
  (.seq
   (.reg [.new 4 (.c (.a [(I 0),(S []),(I 0),(.n 4)]))])
  (.seq
   (.reg [.mv 5 (.t 0),
    .mv 6 (.t 1),
    .build 7 (.a [(I 0),(S []),(I 0),(.n 4)]) [(0,1,(.c (I 4))),(1,1,(.t 5)),(3,1,(.t 6))],
    .st 4 (.t 4) (.t 7)])
  (.keep [4]
   .ret)))
def LB.impl_sized_0:AC:=
 (.seq
  (.reg [.bin 85 .lss (.t 84) (.t 83)])
 (.seq
  (.cond (.t 85)
   .skip
   (.keep [5]
    (.exit 1)))
 (.keep [1,5,82,83,84]
  (.seq
   (.block 2
    (.seq
     (.reg [.ia 86 4 (.t 82) (.t 84),
      .ld 87 true 4 (.t 86),
      .new 7 (.c (.a [(I 0),(S []),(I 0),(.n 4)])),
      .st 4 (.t 7) (.t 87)])
    (.keep [1,5,7,82,83,84]
     (.seq
      (.reg [.mv 88 (.t 5),
       .ld 89 true 4 (.t 7),
       .mv 90 (.t 1),
       .bin 91 .add (.t 90) (.c (I 1)),
       .call (some 92) (.c (Fc F.impl_sized)) [(.t 89),(.t 91)] (.ro false),
       .bin 93 .add (.t 88) (.t 92),
       .mv 5 (.t 93)])
     (.keep [1,5,82,83,84]
      (.seq
       (.reg [.mv 94 (.t 5),
        .bin 95 .gtr (.t 94) (.c (I 400))])
      (.cond (.t 95)
       (.seq
        (.reg [.mv 4 (.c (I 401))])
       (.keep [4]
        .ret))
       .skip)))))))
  (.keep [1,5,82,83,84]
   (.reg [.bin 96 .add (.t 84) (.c (I 1)),
    .mv 84 (.t 96)]))))))
def L.impl_sized_0:Lp:=⟨[1,5,82,83,84],[(2,0)],LB.impl_sized_0⟩
@[go_sem] theorem L.impl_sized_0_ls:L.impl_sized_0.ls=[1,5,82,83,84]:=rfl
@[go_sem] theorem L.impl_sized_0_ks:L.impl_sized_0.ks=[(2,0)]:=rfl
@[go_sem] theorem L.impl_sized_0_b:L.impl_sized_0.body=LB.impl_sized_0:=rfl
def A.impl_sized:AF where
 nargs:=2
 ntmps:=98
 res:=[.tmp 4]
 body:=
  (.seq
   (.reg [.new 2 (.t 0),
    .mv 4 (.c (I 0))])
  (.seq
   (.seq
    (.reg [.mv 8 (.t 1),
     .bin 9 .gtr (.t 8) (.c (I 40))])
   (.cond (.t 9)
    (.seq
     (.reg [.mv 4 (.c (I 401))])
    (.keep [4]
     .ret))
    .skip))
  (.keep [1,2]
   (.seq
    (.seq
     (.reg [.fa 10 (.t 2) 0,
      .ld 11 false 1 (.t 10)])
    (.block 0
     (.seq
      (.reg [.bin 13 .eql (.t 11) (.c (I 1)),
       .mv 12 (.t 13)])
     (.cond (.t 12)
      (.seq
       (.reg [.fa 14 (.t 2) 1,
        .ld 15 false 1 (.t 14),
        .bin 16 .neq (.t 15) (.c (S [])),
        .mv 17 (.t 16),
        .gd 17 false (some 18) (.fa 18 (.t 2) 2),
        .gd 17 false (some 19) (.ld 19 false 1 (.t 18)),
        .gd 17 false (some 20) (.call (some 20) (.c (Fc F.impl_within)) [(.t 19),(.c (I 0)),(.c (I 99999))] (.ro true)),
        .gd 17 false (some 21) (.un 21 .not (.t 20)),
        .pick 22 (.t 17) (.c (B true)) (.t 21),
        .mv 23 (.t 22),
        .gd 23 false (some 24) (.fa 24 (.t 2) 3),
        .gd 23 false (some 25) (.ld 25 false 1 (.t 24)),
        .gd 23 false (some 26) (.len 26 (.t 25)),
        .gd 23 false (some 27) (.bin 27 .gtr (.t 26) (.c (I 0))),
        .pick 28 (.t 23) (.c (B true)) (.t 27)])
      (.keep [1,2,28]
       (.cond (.t 28)
        (.seq
         (.reg [.mv 4 (.c (I 401))])
        (.keep [4]
         .ret))
        .skip)))
      (.seq
       (.reg [.bin 30 .eql (.t 11) (.c (I 2)),
        .mv 29 (.t 30)])
      (.cond (.t 29)
       (.seq
        (.reg [.fa 31 (.t 2) 1,
         .ld 32 false 1 (.t 31),
         .call (some 33) (.c (Fc F.impl_nameOk)) [(.t 32)] (.ro true),
         .un 34 .not (.t 33),
         .mv 35 (.t 34),
         .gd 35 false (some 36) (.fa 36 (.t 2) 2),
         .gd 35 false (some 37) (.ld 37 false 1 (.t 36)),
         .gd 35 false (some 38) (.bin 38 .neq (.t 37) (.c (I 0))),
         .pick 39 (.t 35) (.c (B true)) (.t 38),
         .mv 40 (.t 39),
         .gd 40 false (some 41) (.fa 41 (.t 2) 3),
         .gd 40 false (some 42) (.ld 42 false 1 (.t 41)),
         .gd 40 false (some 43) (.len 43 (.t 42)),
         .gd 40 false (some 44) (.bin 44 .gtr (.t 43) (.c (I 0))),
         .pick 45 (.t 40) (.c (B true)) (.t 44)])
       (.keep [1,2,45]
        (.cond (.t 45)
         (.seq
          (.reg [.mv 4 (.c (I 401))])
         (.keep [4]
          .ret))
         .skip)))
       (.seq
        (.reg [.bin 47 .eql (.t 11) (.c (I 3)),
         .mv 46 (.t 47)])
       (.cond (.t 46)
        (.seq
         (.reg [.fa 48 (.t 2) 1,
          .ld 49 false 1 (.t 48),
          .bin 50 .neq (.t 49) (.c (S [])),
          .mv 51 (.t 50),
          .gd 51 false (some 52) (.fa 52 (.t 2) 2),
          .gd 51 false (some 53) (.ld 53 false 1 (.t 52)),
          .gd 51 false (some 54) (.call (some 54) (.c (Fc F.impl_within)) [(.t 53),(.c (I (-999999999))),(.c (I 999999999))] (.ro true)),
          .gd 51 false (some 55) (.un 55 .not (.t 54)),
          .pick 56 (.t 51) (.c (B true)) (.t 55),
          .mv 57 (.t 56),
          .gd 57 false (some 58) (.fa 58 (.t 2) 3),
          .gd 57 false (some 59) (.ld 59 false 1 (.t 58)),
          .gd 57 false (some 60) (.len 60 (.t 59)),
          .gd 57 false (some 61) (.bin 61 .gtr (.t 60) (.c (I 0))),
          .pick 62 (.t 57) (.c (B true)) (.t 61)])
        (.keep [1,2,62]
         (.cond (.t 62)
          (.seq
           (.reg [.mv 4 (.c (I 401))])
          (.keep [4]
           .ret))
          .skip)))
        (.seq
         (.reg [.bin 64 .eql (.t 11) (.c (I 4)),
          .mv 63 (.t 64)])
        (.cond (.t 63)
         (.seq
          (.reg [.fa 65 (.t 2) 1,
           .ld 66 false 1 (.t 65),
           .call (some 67) (.c (Fc F.impl_nameOk)) [(.t 66)] (.ro true),
           .un 68 .not (.t 67),
           .mv 69 (.t 68),
           .gd 69 false (some 70) (.fa 70 (.t 2) 2),
           .gd 69 false (some 71) (.ld 71 false 1 (.t 70)),
           .gd 69 false (some 72) (.bin 72 .neq (.t 71) (.c (I 0))),
           .pick 73 (.t 69) (.c (B true)) (.t 72),
           .mv 74 (.t 73),
           .gd 74 false (some 75) (.fa 75 (.t 2) 3),
           .gd 74 false (some 76) (.ld 76 false 1 (.t 75)),
           .gd 74 false (some 77) (.len 77 (.t 76)),
           .gd 74 false (some 78) (.call (some 78) (.c (Fc F.impl_within)) [(.t 77),(.c (I 1)),(.c (I 5))] (.ro true)),
           .gd 74 false (some 79) (.un 79 .not (.t 78)),
           .pick 80 (.t 74) (.c (B true)) (.t 79)])
         (.keep [1,2,80]
          (.cond (.t 80)
           (.seq
            (.reg [.mv 4 (.c (I 401))])
           (.keep [4]
            .ret))
           .skip)))
         (.seq
          (.reg [.mv 4 (.c (I 401))])
         (.keep [4]
          .ret))))))))))))
   (.keep [1,2]
    (.seq
     (.reg [.mv 5 (.c (I 1))])
    (.seq
     (.seq
      (.reg [.fa 81 (.t 2) 3,
       .ld 82 false 1 (.t 81),
       .len 83 (.t 82),
       .mv 84 (.c (I 0))])
     (.keep [1,5,82,83,84]
      (.block 1
       (lpC L.impl_sized_0))))
    (.keep [5]
     (.seq
      (.reg [.mv 97 (.t 5),
       .mv 4 (.t 97)])
     (.keep [4]
      .ret))))))))))
def A.spec_l05Small:AF where
 nargs:=1
 ntmps:=9
 res:=[.tmp 2]
 body:=
  (.seq
   (.reg [.mv 2 (.c (B false))])
  (.seq
   (.reg [.mv 3 (.t 0),
    .bin 4 .geq (.t 3) (.c (U8 97)),
    .mv 5 (.t 4),
    .gd 5 true (some 6) (.mv 6 (.t 0)),
    .gd 5 true (some 7) (.bin 7 .leq (.t 6) (.c (U8 122))),
    .pick 8 (.t 5) (.t 7) (.c (B false)),
    .mv 2 (.t 8)])
  (.keep [2]
   .ret)))
def A.spec_l05Great:AF where
 nargs:=1
 ntmps:=13
 res:=[.tmp 2]
 body:=
  (.seq
   (.reg [.mv 2 (.c (B false))])
  (.seq
   (.reg [.mv 3 (.t 0),
    .bin 4 .geq (.t 3) (.c (U8 65)),
    .mv 5 (.t 4),
    .gd 5 true (some 6) (.mv 6 (.t 0)),
    .gd 5 true (some 7) (.bin 7 .leq (.t 6) (.c (U8 90))),
    .pick 8 (.t 5) (.t 7) (.c (B false)),
    .mv 9 (.t 8),
    .gd 9 false (some 10) (.mv 10 (.t 0)),
    .gd 9 false (some 11) (.bin 11 .eql (.t 10) (.c (U8 95))),
    .pick 12 (.t 9) (.c (B true)) (.t 11),
    .mv 2 (.t 12)])
  (.keep [2]
   .ret)))
def LB.spec_l05Run_0:AC:=
 (.seq
  (.seq
   (.reg [.mv 5 (.t 1),
    .mv 6 (.t 0),
    .slen 7 (.t 6),
    .bin 8 .lss (.t 5) (.t 7),
    .mv 9 (.t 8),
    .gd 9 true (some 10) (.mv 10 (.t 0)),
    .gd 9 true (some 11) (.mv 11 (.t 1)),
    .gd 9 true (some 12) (.ix 12 (.t 10) (.t 11)),
    .gd 9 true (some 13) (.call (some 13) (.c (Fc F.spec_l05Word)) [(.t 12)] (.ro true)),
    .pick 14 (.t 9) (.t 13) (.c (B false))])
  (.keep [0,1,14]
   (.cond (.t 14)
    .skip
    (.keep [1]
     (.exit 0)))))
 (.keep [0,1]
  (.block 1
   (.reg [.mv 15 (.t 1),
    .bin 16 .add (.t 15) (.c (I 1)),
    .mv 1 (.t 16)]))))
def L.spec_l05Run_0:Lp:=⟨[0,1],[(2,0)],LB.spec_l05Run_0⟩
@[go_sem] theorem L.spec_l05Run_0_ls:L.spec_l05Run_0.ls=[0,1]:=rfl
@[go_sem] theorem L.spec_l05Run_0_ks:L.spec_l05Run_0.ks=[(2,0)]:=rfl
@[go_sem] theorem L.spec_l05Run_0_b:L.spec_l05Run_0.body=LB.spec_l05Run_0:=rfl
def A.spec_l05Run:AF where
 nargs:=2
 ntmps:=18
 res:=[.tmp 4]
 body:=
  (.seq
   (.reg [.mv 4 (.c (I 0))])
  (.seq
   (.block 0
    (lpC L.spec_l05Run_0))
  (.keep [1]
   (.seq
    (.reg [.mv 17 (.t 1),
     .mv 4 (.t 17)])
   (.keep [4]
    .ret)))))
def A.spec_l05Figure:AF where
 nargs:=1
 ntmps:=9
 res:=[.tmp 2]
 body:=
  (.seq
   (.reg [.mv 2 (.c (B false))])
  (.seq
   (.reg [.mv 3 (.t 0),
    .bin 4 .geq (.t 3) (.c (U8 48)),
    .mv 5 (.t 4),
    .gd 5 true (some 6) (.mv 6 (.t 0)),
    .gd 5 true (some 7) (.bin 7 .leq (.t 6) (.c (U8 57))),
    .pick 8 (.t 5) (.t 7) (.c (B false)),
    .mv 2 (.t 8)])
  (.keep [2]
   .ret)))
def LB.spec_l05Quoted_0:AC:=
 (.seq
  (.seq
   (.reg [.mv 8 (.t 5),
    .mv 9 (.t 0),
    .slen 10 (.t 9),
    .bin 11 .lss (.t 8) (.t 10)])
  (.keep [0,1,5,11]
   (.cond (.t 11)
    .skip
    (.keep []
     (.exit 0)))))
 (.keep [0,1,5]
  (.seq
   (.block 1
    (.seq
     (.reg [.mv 14 (.t 0),
      .mv 15 (.t 5),
      .ix 16 (.t 14) (.t 15),
      .bin 17 .eql (.t 16) (.c (U8 39))])
    (.keep [0,1,5,17]
     (.cond (.t 17)
      (.seq
       (.seq
        (.reg [.mv 18 (.t 0),
         .mv 19 (.t 1),
         .bin 20 .add (.t 19) (.c (I 1)),
         .mv 21 (.t 5),
         .ssl 22 (.t 18) (some (.t 20)) (some (.t 21)),
         .call (some 23) (.c (Fc F.spec_l03Name)) [(.t 22)] (.ro true)])
       (.keep [5,23]
        (.cond (.t 23)
         (.seq
          (.reg [.mv 24 (.t 5),
           .bin 25 .add (.t 24) (.c (I 1)),
           .mv 4 (.t 25)])
         (.keep [4]
          .ret))
         .skip)))
      (.keep []
       (.seq
        (.reg [.mv 4 (.c (I 0))])
       (.keep [4]
        .ret))))
      .skip))))
  (.keep [0,1,5]
   (.reg [.mv 12 (.t 5),
    .bin 13 .add (.t 12) (.c (I 1)),
    .mv 5 (.t 13)])))))
def L.spec_l05Quoted_0:Lp:=⟨[0,1,5],[(2,0)],LB.spec_l05Quoted_0⟩
@[go_sem] theorem L.spec_l05Quoted_0_ls:L.spec_l05Quoted_0.ls=[0,1,5]:=rfl
@[go_sem] theorem L.spec_l05Quoted_0_ks:L.spec_l05Quoted_0.ks=[(2,0)]:=rfl
@[go_sem] theorem L.spec_l05Quoted_0_b:L.spec_l05Quoted_0.body=LB.spec_l05Quoted_0:=rfl
def A.spec_l05Quoted:AF where
 nargs:=2
 ntmps:=26
 res:=[.tmp 4]
 body:=
  (.seq
   (.reg [.mv 4 (.c (I 0))])
  (.seq
   (.seq
    (.reg [.mv 6 (.t 1),
     .bin 7 .add (.t 6) (.c (I 1)),
     .mv 5 (.t 7)])
   (.block 0
    (lpC L.spec_l05Quoted_0)))
  (.keep []
   (.seq
    (.reg [.mv 4 (.c (I 0))])
   (.keep [4]
    .ret)))))
def A.spec_l05End:AF where
 nargs:=2
 ntmps:=42
 res:=[.tmp 4]
 body:=
  (.seq
   (.reg [.mv 4 (.c (B false))])
  (.seq
   (.reg [.mv 5 (.t 0),
    .mv 6 (.t 1),
    .ix 7 (.t 5) (.t 6),
    .bin 8 .eql (.t 7) (.c (U8 46)),
    .mv 9 (.t 8),
    .gd 9 true (some 10) (.mv 10 (.t 1)),
    .gd 9 true (some 11) (.bin 11 .eql (.t 10) (.c (I 0))),
    .gd 9 true (some 12) (.mv 12 (.t 11)),
    .gd 12 false (some 13) (.mv 13 (.t 0)),
    .gd 12 false (some 14) (.mv 14 (.t 1)),
    .gd 12 false (some 15) (.bin 15 .sub (.t 14) (.c (I 1))),
    .gd 12 false (some 16) (.ix 16 (.t 13) (.t 15)),
    .gd 12 false (some 17) (.call (some 17) (.c (Fc F.spec_SymbolByte)) [(.t 16)] (.ro false)),
    .gd 12 false (some 18) (.un 18 .not (.t 17)),
    .gd 9 true (some 19) (.pick 19 (.t 12) (.c (B true)) (.t 18)),
    .pick 20 (.t 9) (.t 19) (.c (B false)),
    .mv 21 (.t 20),
    .gd 21 true (some 22) (.mv 22 (.t 1)),
    .gd 21 true (some 23) (.bin 23 .add (.t 22) (.c (I 1))),
    .gd 21 true (some 24) (.mv 24 (.t 0)),
    .gd 21 true (some 25) (.slen 25 (.t 24)),
    .gd 21 true (some 26) (.bin 26 .eql (.t 23) (.t 25)),
    .gd 21 true (some 27) (.mv 27 (.t 26)),
    .gd 27 false (some 28) (.mv 28 (.t 0)),
    .gd 27 false (some 29) (.mv 29 (.t 1)),
    .gd 27 false (some 30) (.bin 30 .add (.t 29) (.c (I 1))),
    .gd 27 false (some 31) (.ix 31 (.t 28) (.t 30)),
    .gd 27 false (some 32) (.call (some 32) (.c (Fc F.spec_l05Blank)) [(.t 31)] (.ro false)),
    .gd 21 true (some 33) (.pick 33 (.t 27) (.c (B true)) (.t 32)),
    .gd 21 true (some 34) (.mv 34 (.t 33)),
    .gd 34 false (some 35) (.mv 35 (.t 0)),
    .gd 34 false (some 36) (.mv 36 (.t 1)),
    .gd 34 false (some 37) (.bin 37 .add (.t 36) (.c (I 1))),
    .gd 34 false (some 38) (.ix 38 (.t 35) (.t 37)),
    .gd 34 false (some 39) (.bin 39 .eql (.t 38) (.c (U8 37))),
    .gd 21 true (some 40) (.pick 40 (.t 34) (.c (B true)) (.t 39)),
    .pick 41 (.t 21) (.t 40) (.c (B false)),
    .mv 4 (.t 41)])
  (.keep [4]
   .ret)))
def LB.spec_SymbolByte_0:AC:=
 (.seq
  (.seq
   (.reg [.mv 5 (.t 4),
    .mv 6 (.t 3),
    .slen 7 (.t 6),
    .bin 8 .lss (.t 5) (.t 7)])
  (.keep [0,3,4,8]
   (.cond (.t 8)
    .skip
    (.keep []
     (.exit 0)))))
 (.keep [0,3,4]
  (.seq
   (.block 1
    (.seq
     (.reg [.mv 11 (.t 3),
      .mv 12 (.t 4),
      .ix 13 (.t 11) (.t 12),
      .mv 14 (.t 0),
      .bin 15 .eql (.t 13) (.t 14)])
    (.keep [0,3,4,15]
     (.cond (.t 15)
      (.seq
       (.reg [.mv 2 (.c (B true))])
      (.keep [2]
       .ret))
      .skip))))
  (.keep [0,3,4]
   (.reg [.mv 9 (.t 4),
    .bin 10 .add (.t 9) (.c (I 1)),
    .mv 4 (.t 10)])))))
def L.spec_SymbolByte_0:Lp:=⟨[0,3,4],[(1,0)],LB.spec_SymbolByte_0⟩
@[go_sem] theorem L.spec_SymbolByte_0_ls:L.spec_SymbolByte_0.ls=[0,3,4]:=rfl
@[go_sem] theorem L.spec_SymbolByte_0_ks:L.spec_SymbolByte_0.ks=[(1,0)]:=rfl
@[go_sem] theorem L.spec_SymbolByte_0_b:L.spec_SymbolByte_0.body=LB.spec_SymbolByte_0:=rfl
def A.spec_SymbolByte:AF where
 nargs:=1
 ntmps:=16
 res:=[.tmp 2]
 body:=
  (.seq
   (.reg [.mv 2 (.c (B false))])
  (.seq
   (.reg [.mv 3 (.c (S [43,45,42,47,92,94,60,62,61,126,58,46,63,64,35,38,36]))])
  (.seq
   (.seq
    (.reg [.mv 4 (.c (I 0))])
   (.block 0
    (lpC L.spec_SymbolByte_0)))
  (.keep []
   (.seq
    (.reg [.mv 2 (.c (B false))])
   (.keep [2]
    .ret))))))
def A.spec_l06Read_primary:AF where
 nargs:=2
 ntmps:=77
 res:=[.cell 4 true 4,.tmp 5]
 body:=
  (.seq
   (.reg [.new 4 (.c (.a [(I 0),(S []),(I 0),(.n 4)])),
    .mv 5 (.c (I 0))])
  (.seq
   (.block 0
    (.seq
     (.reg [.mv 7 (.t 0),
      .call (some 8) (.c (Fc F.spec_l06Read_is)) [(.t 7),(.c (I 1)),(.c (S []))] (.ro true),
      .mv 6 (.t 8)])
    (.cond (.t 6)
     (.seq
      (.reg [.mv 9 (.t 0),
       .mv 10 (.t 1),
       .call (some 11) (.c (Fc F.spec_l06Read_atom)) [(.t 9),(.t 10)] (.io false),
       .ext 12 (.t 11) 0,
       .ext 13 (.t 11) 1,
       .st 4 (.t 4) (.t 12),
       .mv 5 (.t 13)])
     (.keep [0,4,5]
      .ret))
     (.seq
      (.reg [.mv 15 (.t 0),
       .call (some 16) (.c (Fc F.spec_l06Read_mark)) [(.t 15),(.c (S [40]))] (.io true),
       .mv 14 (.t 16)])
     (.cond (.t 14)
      (.seq
       (.reg [.mv 17 (.t 0),
        .call (some 18) (.c (Fc F.spec_l06Read_round)) [(.t 17)] (.io false),
        .st 4 (.t 4) (.t 18),
        .mv 5 (.c (I 0))])
      (.keep [0,4,5]
       .ret))
      (.seq
       (.reg [.mv 20 (.t 0),
        .call (some 21) (.c (Fc F.spec_l06Read_mark)) [(.t 20),(.c (S [91]))] (.io true),
        .mv 19 (.t 21)])
      (.cond (.t 19)
       (.seq
        (.reg [.mv 22 (.t 0),
         .call (some 23) (.c (Fc F.spec_l06Read_row)) [(.t 22)] (.io false),
         .st 4 (.t 4) (.t 23),
         .mv 5 (.c (I 0))])
       (.keep [0,4,5]
        .ret))
       (.seq
        (.reg [.mv 25 (.t 0),
         .call (some 26) (.c (Fc F.spec_l06Read_is)) [(.t 25),(.c (I 3)),(.c (S []))] (.ro true),
         .mv 24 (.t 26)])
       (.cond (.t 24)
        (.seq
         (.reg [.mv 27 (.t 0),
          .mv 28 (.t 0),
          .nilc 29 (.t 28),
          .fa 30 (.t 29) 1,
          .ld 31 false 1 (.t 30),
          .bin 32 .add (.t 31) (.c (I 1)),
          .nilc 33 (.t 27),
          .fa 34 (.t 33) 1,
          .st 1 (.t 34) (.t 32)])
        (.keep [0,4]
         (.seq
          (.dreg [⟨0,[]⟩,⟨0,[]⟩,⟨0,[]⟩,⟨0,[(0,0),(0,1),(0,2),(0,3),(31,0),(55,0)]⟩,⟨0,[]⟩,⟨0,[]⟩,⟨0,[]⟩,⟨0,[(0,0),(0,1),(0,2),(0,3),(31,0),(55,0)]⟩,⟨0,[]⟩,⟨0,[(0,0),(0,1),(0,2),(0,3),(31,0),(38,0),(42,0),(55,0)]⟩,⟨0,[]⟩,⟨0,[(0,0),(0,1),(0,2),(0,3),(31,0),(38,0),(42,0),(55,0)]⟩,⟨2,[(0,0),(0,1),(0,2),(0,3),(31,0),(38,0),(42,0),(46,0),(55,0)]⟩,⟨1,[(4,0)]⟩,⟨0,[]⟩]
           [.mv 35 (.t 0),
            .nilc 36 (.t 35),
            .fa 37 (.t 36) 0,
            .ldq 38 false 1 (.t 37),
            .mv 39 (.t 0),
            .nilc 40 (.t 39),
            .fa 41 (.t 40) 1,
            .ldq 42 false 1 (.t 41),
            .bin 43 .sub (.t 42) (.c (I 1)),
            .ia 44 5 (.t 38) (.t 43),
            .fa 45 (.t 44) 2,
            .ldq 46 false 1 (.t 45),
            .call (some 47) (.c (Fc F.spec_l03Num)) [(.t 46)] (.ro false),
            .st 4 (.t 4) (.t 47),
            .mv 5 (.c (I 0))])
         (.keep [0,4,5]
          .ret))))
        (.seq
         (.reg [.mv 49 (.t 0),
          .call (some 50) (.c (Fc F.spec_l06Read_is)) [(.t 49),(.c (I 2)),(.c (S []))] (.ro true),
          .mv 48 (.t 50)])
        (.cond (.t 48)
         (.seq
          (.reg [.mv 51 (.t 0),
           .mv 52 (.t 0),
           .nilc 53 (.t 52),
           .fa 54 (.t 53) 1,
           .ld 55 false 1 (.t 54),
           .bin 56 .add (.t 55) (.c (I 1)),
           .nilc 57 (.t 51),
           .fa 58 (.t 57) 1,
           .st 1 (.t 58) (.t 56)])
         (.keep [0,4]
          (.seq
           (.dreg [⟨0,[]⟩,⟨0,[]⟩,⟨0,[]⟩,⟨0,[]⟩,⟨0,[(0,0),(0,1),(0,2),(0,3),(31,0),(55,0)]⟩,⟨0,[]⟩,⟨0,[]⟩,⟨0,[]⟩,⟨0,[(0,0),(0,1),(0,2),(0,3),(31,0),(55,0)]⟩,⟨0,[]⟩,⟨0,[(0,0),(0,1),(0,2),(0,3),(31,0),(55,0),(63,0),(67,0)]⟩,⟨0,[]⟩,⟨0,[(0,0),(0,1),(0,2),(0,3),(31,0),(55,0),(63,0),(67,0)]⟩,⟨1,[(0,0),(0,1),(0,2),(0,3),(31,0),(55,0),(63,0),(67,0),(71,0)]⟩,⟨1,[(4,0)]⟩,⟨0,[]⟩]
            [.mv 59 (.t 0),
             .mv 60 (.t 0),
             .nilc 61 (.t 60),
             .fa 62 (.t 61) 0,
             .ldq 63 false 1 (.t 62),
             .mv 64 (.t 0),
             .nilc 65 (.t 64),
             .fa 66 (.t 65) 1,
             .ldq 67 false 1 (.t 66),
             .bin 68 .sub (.t 67) (.c (I 1)),
             .ia 69 5 (.t 63) (.t 68),
             .fa 70 (.t 69) 1,
             .ldq 71 false 1 (.t 70),
             .call (some 72) (.c (Fc F.spec_l06Read_variable)) [(.t 59),(.t 71)] (.io false),
             .st 4 (.t 4) (.t 72),
             .mv 5 (.c (I 0))])
          (.keep [0,4,5]
           .ret))))
         .skip)))))))))))
  (.keep [0,4]
   (.seq
    (.reg [.mv 73 (.t 0),
     .nilc 74 (.t 73),
     .fa 75 (.t 74) 2,
     .st 1 (.t 75) (.c (B true))])
   (.keep [0,4]
    (.seq
     (.reg [.build 76 (.a [(I 0),(S []),(I 0),(.n 4)]) [],
      .st 4 (.t 4) (.t 76),
      .mv 5 (.c (I 0))])
    (.keep [0,4,5]
     .ret)))))))
def A.spec_l06Read_infix:AF where
 nargs:=1
 ntmps:=40
 res:=[.cell 2 true 4,.tmp 3]
 body:=
  (.seq
   (.reg [.new 2 (.c (.a [(S []),(I 0),(I 0),(I 0)])),
    .mv 3 (.c (B false))])
  (.seq
   (.seq
    (.reg [.mv 4 (.t 0),
     .call (some 5) (.c (Fc F.spec_l06Read_is)) [(.t 4),(.c (I 4)),(.c (S [44]))] (.ro true)])
   (.cond (.t 5)
    (.seq
     (.reg [.call (some 6) (.c (Fc F.spec_InfixOf)) [(.c (S [44]))] (.ro false),
      .ext 7 (.t 6) 0,
      .ext 8 (.t 6) 1,
      .st 4 (.t 2) (.t 7),
      .mv 3 (.t 8)])
    (.keep [2,3]
     .ret))
    .skip))
  (.keep [0,2]
   (.seq
    (.seq
     (.dreg [⟨0,[]⟩,⟨2,[(0,0),(0,1),(0,2),(0,3)]⟩,⟨0,[]⟩,⟨0,[]⟩,⟨0,[]⟩,⟨0,[]⟩,⟨0,[(0,0),(0,1),(0,2),(0,3)]⟩,⟨0,[]⟩,⟨0,[]⟩,⟨0,[]⟩,⟨0,[(0,0),(0,1),(0,2),(0,3)]⟩,⟨0,[(0,0),(0,1),(0,2),(0,3),(15,0),(19,0)]⟩,⟨0,[]⟩,⟨0,[(0,0),(0,1),(0,2),(0,3),(15,0),(19,0)]⟩,⟨0,[]⟩,⟨0,[]⟩]
      [.mv 9 (.t 0),
       .call (some 10) (.c (Fc F.spec_l06Read_is)) [(.t 9),(.c (I 1)),(.c (S []))] (.ro true),
       .mv 11 (.t 10),
       .gd 11 true (some 12) (.mv 12 (.t 0)),
       .gd 11 true (some 13) (.nilc 13 (.t 12)),
       .gd 11 true (some 14) (.fa 14 (.t 13) 0),
       .gd 11 true (some 15) (.ldq 15 false 1 (.t 14)),
       .gd 11 true (some 16) (.mv 16 (.t 0)),
       .gd 11 true (some 17) (.nilc 17 (.t 16)),
       .gd 11 true (some 18) (.fa 18 (.t 17) 1),
       .gd 11 true (some 19) (.ldq 19 false 1 (.t 18)),
       .gd 11 true (some 20) (.ia 20 5 (.t 15) (.t 19)),
       .gd 11 true (some 21) (.fa 21 (.t 20) 4),
       .gd 11 true (some 22) (.ldq 22 false 1 (.t 21)),
       .gd 11 true (some 23) (.un 23 .not (.t 22)),
       .pick 24 (.t 11) (.t 23) (.c (B false))])
    (.keep [0,2,24]
     (.cond (.t 24)
      (.seq
       (.dreg [⟨0,[]⟩,⟨0,[]⟩,⟨0,[]⟩,⟨0,[(0,0),(0,1),(0,2),(0,3)]⟩,⟨0,[]⟩,⟨0,[]⟩,⟨0,[]⟩,⟨0,[(0,0),(0,1),(0,2),(0,3)]⟩,⟨0,[(0,0),(0,1),(0,2),(0,3),(28,0),(32,0)]⟩,⟨0,[]⟩,⟨0,[(0,0),(0,1),(0,2),(0,3),(28,0),(32,0)]⟩,⟨2,[(0,0),(0,1),(0,2),(0,3),(28,0),(32,0),(35,0)]⟩,⟨0,[]⟩,⟨0,[]⟩,⟨1,[(2,0)]⟩,⟨0,[]⟩]
        [.mv 25 (.t 0),
         .nilc 26 (.t 25),
         .fa 27 (.t 26) 0,
         .ldq 28 false 1 (.t 27),
         .mv 29 (.t 0),
         .nilc 30 (.t 29),
         .fa 31 (.t 30) 1,
         .ldq 32 false 1 (.t 31),
         .ia 33 5 (.t 28) (.t 32),
         .fa 34 (.t 33) 1,
         .ldq 35 false 1 (.t 34),
         .call (some 36) (.c (Fc F.spec_InfixOf)) [(.t 35)] (.ro false),
         .ext 37 (.t 36) 0,
         .ext 38 (.t 36) 1,
         .st 4 (.t 2) (.t 37),
         .mv 3 (.t 38)])
      (.keep [2,3]
       .ret))
      .skip)))
   (.keep [2]
    (.seq
     (.reg [.build 39 (.a [(S []),(I 0),(I 0),(I 0)]) [],
      .st 4 (.t 2) (.t 39),
      .mv 3 (.c (B false))])
    (.keep [2,3]
     .ret)))))))
def A.spec_l03Two:AF where
 nargs:=3
 ntmps:=12
 res:=[.cell 6 true 4]
 body:=
  (.seq
   (.reg [.new 4 (.t 1),
    .new 5 (.t 2),
    .new 6 (.c (.a [(I 0),(S []),(I 0),(.n 4)]))])
  (.seq
   (.reg [.mv 7 (.t 0),
    .ld 8 true 4 (.t 4),
    .ld 9 true 4 (.t 5),
    .mks 10 4 [(.t 8),(.t 9)],
    .build 11 (.a [(I 0),(S []),(I 0),(.n 4)]) [(0,1,(.c (I 4))),(1,1,(.t 7)),(3,1,(.t 10))],
    .st 4 (.t 6) (.t 11)])
  (.keep [6]
   .ret)))
def LB.spec_l03Count_0:AC:=
 (.seq
  (.seq
   (.reg [.mv 8 (.t 5),
    .fa 9 (.t 2) 3,
    .ld 10 false 1 (.t 9),
    .len 11 (.t 10),
    .bin 12 .lss (.t 8) (.t 11),
    .mv 13 (.t 12),
    .gd 13 true (some 14) (.mv 14 (.t 1)),
    .gd 13 true (some 15) (.bin 15 .geq (.t 14) (.c (I 0))),
    .pick 16 (.t 13) (.t 15) (.c (B false))])
  (.keep [1,2,5,16]
   (.cond (.t 16)
    .skip
    (.keep [1]
     (.exit 0)))))
 (.keep [1,2,5]
  (.seq
   (.block 1
    (.reg [.fa 19 (.t 2) 3,
     .ld 20 false 1 (.t 19),
     .mv 21 (.t 5),
     .ia 22 4 (.t 20) (.t 21),
     .ld 23 true 4 (.t 22),
     .mv 24 (.t 1),
     .call (some 25) (.c (Fc F.spec_l03Count)) [(.t 23),(.t 24)] (.ro false),
     .mv 1 (.t 25)]))
  (.keep [1,2,5]
   (.reg [.mv 17 (.t 5),
    .bin 18 .add (.t 17) (.c (I 1)),
    .mv 5 (.t 18)])))))
def L.spec_l03Count_0:Lp:=⟨[1,2,5],[(2,0)],LB.spec_l03Count_0⟩
@[go_sem] theorem L.spec_l03Count_0_ls:L.spec_l03Count_0.ls=[1,2,5]:=rfl
@[go_sem] theorem L.spec_l03Count_0_ks:L.spec_l03Count_0.ks=[(2,0)]:=rfl
@[go_sem] theorem L.spec_l03Count_0_b:L.spec_l03Count_0.body=LB.spec_l03Count_0:=rfl
def A.spec_l03Count:AF where
 nargs:=2
 ntmps:=27
 res:=[.tmp 4]
 body:=
  (.seq
   (.reg [.new 2 (.t 0),
    .mv 4 (.c (I 0))])
  (.seq
   (.reg [.mv 6 (.t 1),
    .bin 7 .sub (.t 6) (.c (I 1)),
    .mv 1 (.t 7)])
  (.seq
   (.seq
    (.reg [.mv 5 (.c (I 0))])
   (.block 0
    (lpC L.spec_l03Count_0)))
  (.keep [1]
   (.seq
    (.reg [.mv 26 (.t 1),
     .mv 4 (.t 26)])
   (.keep [4]
    .ret))))))
def LB.spec_l03Right_0:AC:=
 (.seq
  (.seq
   (.reg [.mv 13 (.t 5),
    .fa 14 (.t 2) 3,
    .ld 15 false 1 (.t 14),
    .len 16 (.t 15),
    .bin 17 .lss (.t 13) (.t 16)])
  (.keep [1,2,5,17]
   (.cond (.t 17)
    .skip
    (.keep []
     (.exit 0)))))
 (.keep [1,2,5]
  (.seq
   (.block 1
    (.seq
     (.reg [.fa 20 (.t 2) 3,
      .ld 21 false 1 (.t 20),
      .mv 22 (.t 5),
      .ia 23 4 (.t 21) (.t 22),
      .ld 24 true 4 (.t 23),
      .mv 25 (.t 1),
      .bin 26 .add (.t 25) (.c (I 1)),
      .call (some 27) (.c (Fc F.spec_l03Right)) [(.t 24),(.t 26)] (.ro true),
      .un 28 .not (.t 27)])
    (.keep [1,2,5,28]
     (.cond (.t 28)
      (.seq
       (.reg [.mv 4 (.c (B false))])
      (.keep [4]
       .ret))
      .skip))))
  (.keep [1,2,5]
   (.reg [.mv 18 (.t 5),
    .bin 19 .add (.t 18) (.c (I 1)),
    .mv 5 (.t 19)])))))
def L.spec_l03Right_0:Lp:=⟨[1,2,5],[(2,0)],LB.spec_l03Right_0⟩
@[go_sem] theorem L.spec_l03Right_0_ls:L.spec_l03Right_0.ls=[1,2,5]:=rfl
@[go_sem] theorem L.spec_l03Right_0_ks:L.spec_l03Right_0.ks=[(2,0)]:=rfl
@[go_sem] theorem L.spec_l03Right_0_b:L.spec_l03Right_0.body=LB.spec_l03Right_0:=rfl
def A.spec_l03Right:AF where
 nargs:=2
 ntmps:=29
 res:=[.tmp 4]
 body:=
  (.seq
   (.reg [.new 2 (.t 0),
    .mv 4 (.c (B false))])
  (.seq
   (.seq
    (.reg [.mv 6 (.t 1),
     .bin 7 .gtr (.t 6) (.c (I 40)),
     .mv 8 (.t 7),
     .gd 8 false (some 9) (.ld 9 true 4 (.t 2)),
     .gd 8 false (some 10) (.call (some 10) (.c (Fc F.spec_l03One)) [(.t 9)] (.ro true)),
     .gd 8 false (some 11) (.un 11 .not (.t 10)),
     .pick 12 (.t 8) (.c (B true)) (.t 11)])
   (.keep [1,2,12]
    (.cond (.t 12)
     (.seq
      (.reg [.mv 4 (.c (B false))])
     (.keep [4]
      .ret))
     .skip)))
  (.keep [1,2]
   (.seq
    (.seq
     (.reg [.mv 5 (.c (I 0))])
    (.block 0
     (lpC L.spec_l03Right_0)))
   (.keep []
    (.seq
     (.reg [.mv 4 (.c (B true))])
    (.keep [4]
     .ret)))))))
def A.impl_PrefixOf:AF where
 nargs:=1
 ntmps:=18
 res:=[.cell 2 true 4,.tmp 3]
 body:=
  (.seq
   (.reg [.new 2 (.c (.a [(S []),(I 0),(I 0),(I 0)])),
    .mv 3 (.c (B false))])
  (.seq
   (.seq
    (.reg [.mv 4 (.t 0)])
   (.block 0
    (.seq
     (.reg [.bin 6 .eql (.t 4) (.c (S [58,45])),
      .mv 5 (.t 6)])
    (.cond (.t 5)
     (.seq
      (.reg [.mv 7 (.t 0),
       .build 8 (.a [(S []),(I 0),(I 0),(I 0)]) [(0,1,(.t 7)),(1,1,(.c (I 1200))),(3,1,(.c (I 1199)))],
       .st 4 (.t 2) (.t 8),
       .mv 3 (.c (B true))])
     (.keep [2,3]
      .ret))
     (.seq
      (.reg [.bin 10 .eql (.t 4) (.c (S [92,43])),
       .mv 9 (.t 10)])
     (.cond (.t 9)
      (.seq
       (.reg [.mv 11 (.t 0),
        .build 12 (.a [(S []),(I 0),(I 0),(I 0)]) [(0,1,(.t 11)),(1,1,(.c (I 900))),(3,1,(.c (I 900)))],
        .st 4 (.t 2) (.t 12),
        .mv 3 (.c (B true))])
      (.keep [2,3]
       .ret))
      (.seq
       (.reg [.bin 14 .eql (.t 4) (.c (S [45])),
        .mv 13 (.t 14)])
      (.cond (.t 13)
       (.seq
        (.reg [.mv 15 (.t 0),
         .build 16 (.a [(S []),(I 0),(I 0),(I 0)]) [(0,1,(.t 15)),(1,1,(.c (I 200))),(3,1,(.c (I 200)))],
         .st 4 (.t 2) (.t 16),
         .mv 3 (.c (B true))])
       (.keep [2,3]
        .ret))
       .skip))))))))
  (.keep [2]
   (.seq
    (.reg [.build 17 (.a [(S []),(I 0),(I 0),(I 0)]) [],
     .st 4 (.t 2) (.t 17),
     .mv 3 (.c (B false))])
   (.keep [2,3]
    .ret)))))
def A.impl_parser_mark:AF where
 nargs:=2
 ntmps:=18
 res:=[]
 body:=
  (.seq
   (.seq
    (.reg [.mv 4 (.t 0),
     .mv 5 (.t 1),
     .call (some 6) (.c (Fc F.impl_parser_isMark)) [(.t 4),(.c (I 0)),(.t 5)] (.ro true),
     .un 7 .not (.t 6)])
   (.keep [0,7]
    (.cond (.t 7)
     (.reg [.mv 8 (.t 0),
      .nilc 9 (.t 8),
      .fa 10 (.t 9) 4,
      .st 1 (.t 10) (.c (B true))])
     .skip)))
  (.keep [0]
   (.reg [.mv 11 (.t 0),
    .nilc 12 (.t 11),
    .fa 13 (.t 12) 1,
    .ld 14 false 1 (.t 13),
    .bin 15 .add (.t 14) (.c (I 1)),
    .nilc 16 (.t 11),
    .fa 17 (.t 16) 1,
    .st 1 (.t 17) (.t 15)])))
def LB.impl_parser_terms_0:AC:=
 (.seq
  (.seq
   (.reg [.mv 7 (.t 0),
    .nilc 8 (.t 7),
    .fa 9 (.t 8) 4,
    .ld 10 false 1 (.t 9),
    .un 11 .not (.t 10),
    .mv 12 (.t 11),
    .gd 12 true (some 13) (.mv 13 (.t 0)),
    .gd 12 true (some 14) (.call (some 14) (.c (Fc F.impl_parser_isMark)) [(.t 13),(.c (I 0)),(.c (S [44]))] (.ro true)),
    .pick 15 (.t 12) (.t 14) (.c (B false))])
  (.keep [0,3,15]
   (.cond (.t 15)
    .skip
    (.keep [0,3]
     (.exit 0)))))
 (.keep [0,3]
  (.block 1
   (.seq
    (.reg [.mv 16 (.t 0),
     .nilc 17 (.t 16),
     .fa 18 (.t 17) 1,
     .ld 19 false 1 (.t 18),
     .bin 20 .add (.t 19) (.c (I 1)),
     .nilc 21 (.t 16),
     .fa 22 (.t 21) 1,
     .st 1 (.t 22) (.t 20)])
   (.keep [0,3]
    (.reg [.mv 23 (.t 3),
     .mv 24 (.t 0),
     .call (some 25) (.c (Fc F.impl_parser_term)) [(.t 24),(.c (I 999))] (.io false),
     .mks 26 4 [(.t 25)],
     .app 27 4 56 (.t 23) (.t 26),
     .mv 3 (.t 27)]))))))
def L.impl_parser_terms_0:Lp:=⟨[0,3],[(1,0)],LB.impl_parser_terms_0⟩
@[go_sem] theorem L.impl_parser_terms_0_ls:L.impl_parser_terms_0.ls=[0,3]:=rfl
@[go_sem] theorem L.impl_parser_terms_0_ks:L.impl_parser_terms_0.ks=[(1,0)]:=rfl
@[go_sem] theorem L.impl_parser_terms_0_b:L.impl_parser_terms_0.body=LB.impl_parser_terms_0:=rfl
def A.impl_parser_terms:AF where
 nargs:=1
 ntmps:=29
 res:=[.tmp 2]
 body:=
  (.seq
   (.reg [.mv 2 (.c (.n 4))])
  (.seq
   (.reg [.mv 4 (.t 0),
    .call (some 5) (.c (Fc F.impl_parser_term)) [(.t 4),(.c (I 999))] (.io false),
    .mks 6 4 [(.t 5)],
    .mv 3 (.t 6)])
  (.keep [0,3]
   (.seq
    (.block 0
     (lpC L.impl_parser_terms_0))
   (.keep [0,3]
    (.seq
     (.reg [.mv 28 (.t 3),
      .mv 2 (.t 28)])
    (.keep [0,2]
     .ret)))))))
def A.impl_parser_isMark:AF where
 nargs:=3
 ntmps:=20
 res:=[.tmp 6]
 body:=
  (.seq
   (.reg [.mv 6 (.c (B false))])
  (.seq
   (.reg [.mv 8 (.t 0),
    .mv 9 (.t 1),
    .call (some 10) (.c (Fc F.impl_parser_sign)) [(.t 8),(.t 9)] (.ro false),
    .new 7 (.c (.a [(I 0),(S []),(I 0),(I 0),(B false)])),
    .st 5 (.t 7) (.t 10)])
  (.keep [2,7]
   (.seq
    (.reg [.fa 11 (.t 7) 0,
     .ld 12 false 1 (.t 11),
     .bin 13 .eql (.t 12) (.c (I 4)),
     .mv 14 (.t 13),
     .gd 14 true (some 15) (.fa 15 (.t 7) 1),
     .gd 14 true (some 16) (.ld 16 false 1 (.t 15)),
     .gd 14 true (some 17) (.mv 17 (.t 2)),
     .gd 14 true (some 18) (.bin 18 .eql (.t 16) (.t 17)),
     .pick 19 (.t 14) (.t 18) (.c (B false)),
     .mv 6 (.t 19)])
   (.keep [6]
    .ret)))))
def A.impl_atom:AF where
 nargs:=1
 ntmps:=5
 res:=[.cell 2 true 4]
 body:=
  (.seq
   (.reg [.new 2 (.c (.a [(I 0),(S []),(I 0),(.n 4)]))])
  (.seq
   (.reg [.mv 3 (.t 0),
    .build 4 (.a [(I 0),(S []),(I 0),(.n 4)]) [(0,1,(.c (I 2))),(1,1,(.t 3))],
    .st 4 (.t 2) (.t 4)])
  (.keep [2]
   .ret)))
def LB.impl_parser_listTerm_0:AC:=
 (.seq
  (.seq
   (.reg [.mv 37 (.t 5),
    .bin 38 .geq (.t 37) (.c (I 0))])
  (.cond (.t 38)
   .skip
   (.keep [0,2,4]
    (.exit 0))))
 (.keep [0,2,3,4,5]
  (.seq
   (.block 1
    (.opd [(500000,3,some 5)] (.dreg [⟨0,[]⟩,⟨0,[]⟩,⟨0,[(0,0),(0,1),(0,2),(0,3),(13,0),(19,0),(19,1),(19,2),(19,3),(26,0),(100000,0),(100000,1),(100000,2),(100000,3),(100000,4),(100000,5)]⟩,⟨0,[(0,0),(0,1),(0,2),(0,3),(13,0),(19,0),(19,1),(19,2),(19,3),(26,0),(100000,0),(100000,1),(100000,2),(100000,3),(100000,4),(100000,5)]⟩,⟨0,[(4,0),(100000,0),(100000,1),(100000,2),(100000,3),(100000,4),(100000,5)]⟩,⟨1,[]⟩,⟨1,[(0,0),(0,1),(0,2),(0,3),(13,0),(19,0),(19,1),(19,2),(19,3),(20,0),(20,1),(20,2),(20,3),(26,0),(31,0),(31,1),(31,2),(31,3),(44,0),(45,0),(46,0),(100000,0),(100000,1),(100000,2),(100000,3),(100000,4),(100000,5),(500000,0)]⟩,⟨1,[(4,0),(100000,0),(100000,1),(100000,2),(100000,3),(100000,4),(100000,5)]⟩]
     [.mv 41 (.t 3),
      .mv 42 (.t 5),
      .ia 43 4 (.t 41) (.t 42),
      .ldq 44 true 4 (.t 43),
      .ldq 45 true 4 (.t 4),
      .mks 46 4 [(.t 44),(.t 45)],
      .call (some 47) (.c (Fc F.impl_structure)) [(.c (S [46])),(.t 46)] (.io false),
      .st 4 (.t 4) (.t 47)])))
  (.keep [0,2,3,4,5]
   (.reg [.mv 39 (.t 5),
    .bin 40 .sub (.t 39) (.c (I 1)),
    .mv 5 (.t 40)])))))
def L.impl_parser_listTerm_0:Lp:=⟨[0,2,3,4,5],[(1,0)],LB.impl_parser_listTerm_0⟩
@[go_sem] theorem L.impl_parser_listTerm_0_ls:L.impl_parser_listTerm_0.ls=[0,2,3,4,5]:=rfl
@[go_sem] theorem L.impl_parser_listTerm_0_ks:L.impl_parser_listTerm_0.ks=[(1,0)]:=rfl
@[go_sem] theorem L.impl_parser_listTerm_0_b:L.impl_parser_listTerm_0.body=LB.impl_parser_listTerm_0:=rfl
def A.impl_parser_listTerm:AF where
 nargs:=1
 ntmps:=49
 res:=[.cell 2 true 4]
 body:=
  (.seq
   (.reg [.new 2 (.c (.a [(I 0),(S []),(I 0),(.n 4)]))])
  (.seq
   (.reg [.mv 6 (.t 0),
    .call (some 7) (.c (Fc F.impl_parser_mark)) [(.t 6),(.c (S [91]))] (.io true)])
  (.seq
   (.seq
    (.reg [.mv 8 (.t 0),
     .call (some 9) (.c (Fc F.impl_parser_isMark)) [(.t 8),(.c (I 0)),(.c (S [93]))] (.ro true)])
   (.cond (.t 9)
    (.seq
     (.reg [.mv 10 (.t 0),
      .nilc 11 (.t 10),
      .fa 12 (.t 11) 1,
      .ld 13 false 1 (.t 12),
      .bin 14 .add (.t 13) (.c (I 1)),
      .nilc 15 (.t 10),
      .fa 16 (.t 15) 1,
      .st 1 (.t 16) (.t 14)])
    (.keep [0,2]
     (.seq
      (.reg [.call (some 17) (.c (Fc F.impl_atom)) [(.c (S [91,93]))] (.ro false),
       .st 4 (.t 2) (.t 17)])
     (.keep [0,2]
      .ret))))
    .skip))
  (.keep [0,2]
   (.seq
    (.reg [.mv 18 (.t 0),
     .call (some 19) (.c (Fc F.impl_parser_terms)) [(.t 18)] (.io false),
     .mv 3 (.t 19)])
   (.seq
    (.reg [.call (some 20) (.c (Fc F.impl_atom)) [(.c (S [91,93]))] (.ro false),
     .new 4 (.c (.a [(I 0),(S []),(I 0),(.n 4)])),
     .st 4 (.t 4) (.t 20)])
   (.seq
    (.seq
     (.reg [.mv 21 (.t 0),
      .call (some 22) (.c (Fc F.impl_parser_isMark)) [(.t 21),(.c (I 0)),(.c (S [124]))] (.ro true)])
    (.cond (.t 22)
     (.seq
      (.reg [.mv 23 (.t 0),
       .nilc 24 (.t 23),
       .fa 25 (.t 24) 1,
       .ld 26 false 1 (.t 25),
       .bin 27 .add (.t 26) (.c (I 1)),
       .nilc 28 (.t 23),
       .fa 29 (.t 28) 1,
       .st 1 (.t 29) (.t 27)])
     (.keep [0,2,3,4]
      (.reg [.mv 30 (.t 0),
       .call (some 31) (.c (Fc F.impl_parser_term)) [(.t 30),(.c (I 999))] (.io false),
       .st 4 (.t 4) (.t 31)])))
     .skip))
   (.keep [0,2,3,4]
    (.seq
     (.reg [.mv 32 (.t 0),
      .call (some 33) (.c (Fc F.impl_parser_mark)) [(.t 32),(.c (S [93]))] (.io true)])
    (.seq
     (.seq
      (.reg [.mv 34 (.t 3),
       .len 35 (.t 34),
       .bin 36 .sub (.t 35) (.c (I 1)),
       .mv 5 (.t 36)])
     (.keep [0,2,3,4,5]
      (.block 0
       (lpC L.impl_parser_listTerm_0))))
    (.keep [0,2,4]
     (.seq
      (.reg [.ld 48 true 4 (.t 4),
       .st 4 (.t 2) (.t 48)])
     (.keep [0,2]
      .ret)))))))))))))
def A.impl_number:AF where
 nargs:=1
 ntmps:=5
 res:=[.cell 2 true 4]
 body:=
  (.seq
   (.reg [.new 2 (.c (.a [(I 0),(S []),(I 0),(.n 4)]))])
  (.seq
   (.reg [.mv 3 (.t 0),
    .build 4 (.a [(I 0),(S []),(I 0),(.n 4)]) [(0,1,(.c (I 3))),(2,1,(.t 3))],
    .st 4 (.t 2) (.t 4)])
  (.keep [2]
   .ret)))
def A.impl_parser_variable:AF where
 nargs:=2
 ntmps:=35
 res:=[.cell 4 true 4]
 body:=
  (.seq
   (.reg [.new 4 (.c (.a [(I 0),(S []),(I 0),(.n 4)]))])
  (.seq
   (.reg [.mv 6 (.t 0),
    .nilc 7 (.t 6),
    .fa 8 (.t 7) 2,
    .ld 9 false 1 (.t 8),
    .mv 10 (.t 1),
    .call (some 11) (.c (Fc F.slices_Index_string_string)) [(.t 9),(.t 10)] (.ro false),
    .mv 5 (.t 11)])
  (.keep [0,1,4,5]
   (.seq
    (.seq
     (.reg [.mv 12 (.t 5),
      .bin 13 .lss (.t 12) (.c (I 0)),
      .mv 14 (.t 13),
      .gd 14 false (some 15) (.mv 15 (.t 1)),
      .gd 14 false (some 16) (.bin 16 .eql (.t 15) (.c (S [95]))),
      .pick 17 (.t 14) (.c (B true)) (.t 16)])
    (.keep [0,1,4,5,17]
     (.cond (.t 17)
      (.seq
       (.reg [.mv 18 (.t 0),
        .nilc 19 (.t 18),
        .fa 20 (.t 19) 2,
        .ld 21 false 1 (.t 20),
        .len 22 (.t 21),
        .mv 5 (.t 22)])
      (.keep [0,1,4,5]
       (.reg [.mv 23 (.t 0),
        .mv 24 (.t 0),
        .nilc 25 (.t 24),
        .fa 26 (.t 25) 2,
        .ld 27 false 1 (.t 26),
        .mv 28 (.t 1),
        .mks 29 1 [(.t 28)],
        .app 30 1 16 (.t 27) (.t 29),
        .nilc 31 (.t 23),
        .fa 32 (.t 31) 2,
        .st 1 (.t 32) (.t 30)])))
      .skip)))
   (.keep [0,4,5]
    (.seq
     (.reg [.mv 33 (.t 5),
      .call (some 34) (.c (Fc F.impl_variable)) [(.t 33)] (.ro false),
      .st 4 (.t 4) (.t 34)])
    (.keep [0,4]
     .ret)))))))
def LB.impl_nameOk_0:AC:=
 (.seq
  (.seq
   (.reg [.mv 4 (.t 3),
    .mv 5 (.t 0),
    .slen 6 (.t 5),
    .bin 7 .lss (.t 4) (.t 6)])
  (.keep [0,3,7]
   (.cond (.t 7)
    .skip
    (.keep [0]
     (.exit 0)))))
 (.keep [0,3]
  (.seq
   (.block 1
    (.seq
     (.reg [.mv 10 (.t 0),
      .mv 11 (.t 3),
      .ix 12 (.t 10) (.t 11),
      .int 13 .i64 (.t 12),
      .call (some 14) (.c (Fc F.impl_within)) [(.t 13),(.c (I 33)),(.c (I 126))] (.ro true),
      .un 15 .not (.t 14),
      .mv 16 (.t 15),
      .gd 16 false (some 17) (.mv 17 (.t 0)),
      .gd 16 false (some 18) (.mv 18 (.t 3)),
      .gd 16 false (some 19) (.ix 19 (.t 17) (.t 18)),
      .gd 16 false (some 20) (.bin 20 .eql (.t 19) (.c (U8 39))),
      .pick 21 (.t 16) (.c (B true)) (.t 20),
      .mv 22 (.t 21),
      .gd 22 false (some 23) (.mv 23 (.t 0)),
      .gd 22 false (some 24) (.mv 24 (.t 3)),
      .gd 22 false (some 25) (.ix 25 (.t 23) (.t 24)),
      .gd 22 false (some 26) (.bin 26 .eql (.t 25) (.c (U8 34))),
      .pick 27 (.t 22) (.c (B true)) (.t 26)])
    (.keep [0,3,27]
     (.cond (.t 27)
      (.seq
       (.reg [.mv 2 (.c (B false))])
      (.keep [2]
       .ret))
      .skip))))
  (.keep [0,3]
   (.reg [.mv 8 (.t 3),
    .bin 9 .add (.t 8) (.c (I 1)),
    .mv 3 (.t 9)])))))
def L.impl_nameOk_0:Lp:=⟨[0,3],[(1,0)],LB.impl_nameOk_0⟩
@[go_sem] theorem L.impl_nameOk_0_ls:L.impl_nameOk_0.ls=[0,3]:=rfl
@[go_sem] theorem L.impl_nameOk_0_ks:L.impl_nameOk_0.ks=[(1,0)]:=rfl
@[go_sem] theorem L.impl_nameOk_0_b:L.impl_nameOk_0.body=LB.impl_nameOk_0:=rfl
def A.impl_nameOk:AF where
 nargs:=1
 ntmps:=31
 res:=[.tmp 2]
 body:=
  (.seq
   (.reg [.mv 2 (.c (B false))])
  (.seq
   (.seq
    (.reg [.mv 3 (.c (I 0))])
   (.block 0
    (lpC L.impl_nameOk_0)))
  (.keep [0]
   (.seq
    (.reg [.mv 28 (.t 0),
     .slen 29 (.t 28),
     .call (some 30) (.c (Fc F.impl_within)) [(.t 29),(.c (I 1)),(.c (I 20))] (.ro false),
     .mv 2 (.t 30)])
   (.keep [2]
    .ret)))))
def A.spec_l05Word:AF where
 nargs:=1
 ntmps:=13
 res:=[.tmp 2]
 body:=
  (.seq
   (.reg [.mv 2 (.c (B false))])
  (.seq
   (.reg [.mv 3 (.t 0),
    .call (some 4) (.c (Fc F.spec_l05Small)) [(.t 3)] (.ro false),
    .mv 5 (.t 4),
    .gd 5 false (some 6) (.mv 6 (.t 0)),
    .gd 5 false (some 7) (.call (some 7) (.c (Fc F.spec_l05Great)) [(.t 6)] (.ro false)),
    .pick 8 (.t 5) (.c (B true)) (.t 7),
    .mv 9 (.t 8),
    .gd 9 false (some 10) (.mv 10 (.t 0)),
    .gd 9 false (some 11) (.call (some 11) (.c (Fc F.spec_l05Figure)) [(.t 10)] (.ro false)),
    .pick 12 (.t 9) (.c (B true)) (.t 11),
    .mv 2 (.t 12)])
  (.keep [2]
   .ret)))
def LB.spec_l03Name_0:AC:=
 (.seq
  (.seq
   (.reg [.mv 4 (.t 3),
    .mv 5 (.t 0),
    .slen 6 (.t 5),
    .bin 7 .lss (.t 4) (.t 6)])
  (.keep [0,3,7]
   (.cond (.t 7)
    .skip
    (.keep [0]
     (.exit 0)))))
 (.keep [0,3]
  (.seq
   (.block 1
    (.seq
     (.reg [.mv 10 (.t 0),
      .mv 11 (.t 3),
      .ix 12 (.t 10) (.t 11),
      .bin 13 .lss (.t 12) (.c (U8 33)),
      .mv 14 (.t 13),
      .gd 14 false (some 15) (.mv 15 (.t 0)),
      .gd 14 false (some 16) (.mv 16 (.t 3)),
      .gd 14 false (some 17) (.ix 17 (.t 15) (.t 16)),
      .gd 14 false (some 18) (.bin 18 .gtr (.t 17) (.c (U8 126))),
      .pick 19 (.t 14) (.c (B true)) (.t 18),
      .mv 20 (.t 19),
      .gd 20 false (some 21) (.mv 21 (.t 0)),
      .gd 20 false (some 22) (.mv 22 (.t 3)),
      .gd 20 false (some 23) (.ix 23 (.t 21) (.t 22)),
      .gd 20 false (some 24) (.bin 24 .eql (.t 23) (.c (U8 39))),
      .pick 25 (.t 20) (.c (B true)) (.t 24),
      .mv 26 (.t 25),
      .gd 26 false (some 27) (.mv 27 (.t 0)),
      .gd 26 false (some 28) (.mv 28 (.t 3)),
      .gd 26 false (some 29) (.ix 29 (.t 27) (.t 28)),
      .gd 26 false (some 30) (.bin 30 .eql (.t 29) (.c (U8 34))),
      .pick 31 (.t 26) (.c (B true)) (.t 30)])
    (.keep [0,3,31]
     (.cond (.t 31)
      (.seq
       (.reg [.mv 2 (.c (B false))])
      (.keep [2]
       .ret))
      .skip))))
  (.keep [0,3]
   (.reg [.mv 8 (.t 3),
    .bin 9 .add (.t 8) (.c (I 1)),
    .mv 3 (.t 9)])))))
def L.spec_l03Name_0:Lp:=⟨[0,3],[(1,0)],LB.spec_l03Name_0⟩
@[go_sem] theorem L.spec_l03Name_0_ls:L.spec_l03Name_0.ls=[0,3]:=rfl
@[go_sem] theorem L.spec_l03Name_0_ks:L.spec_l03Name_0.ks=[(1,0)]:=rfl
@[go_sem] theorem L.spec_l03Name_0_b:L.spec_l03Name_0.body=LB.spec_l03Name_0:=rfl
def A.spec_l03Name:AF where
 nargs:=1
 ntmps:=35
 res:=[.tmp 2]
 body:=
  (.seq
   (.reg [.mv 2 (.c (B false))])
  (.seq
   (.seq
    (.reg [.mv 3 (.c (I 0))])
   (.block 0
    (lpC L.spec_l03Name_0)))
  (.keep [0]
   (.seq
    (.reg [.mv 32 (.t 0),
     .slen 33 (.t 32),
     .call (some 34) (.c (Fc F.spec_l01In)) [(.t 33),(.c (I 1)),(.c (I 20))] (.ro false),
     .mv 2 (.t 34)])
   (.keep [2]
    .ret)))))
def A.spec_l06Read_atom:AF where
 nargs:=2
 ntmps:=122
 res:=[.cell 4 true 4,.tmp 5]
 body:=
  (.seq
   (.reg [.new 4 (.c (.a [(I 0),(S []),(I 0),(.n 4)])),
    .mv 5 (.c (I 0))])
  (.seq
   (.dreg [⟨0,[]⟩,⟨0,[]⟩,⟨0,[]⟩,⟨0,[(0,0),(0,1),(0,2),(0,3),(28,0),(47,0),(82,0),(115,0)]⟩,⟨0,[]⟩,⟨0,[]⟩,⟨0,[]⟩,⟨0,[(0,0),(0,1),(0,2),(0,3),(28,0),(47,0),(82,0),(115,0)]⟩,⟨0,[(0,0),(0,1),(0,2),(0,3),(15,0),(19,0),(28,0),(47,0),(82,0),(115,0)]⟩,⟨0,[(0,0),(0,1),(0,2),(0,3),(15,0),(19,0),(28,0),(47,0),(82,0),(115,0)]⟩,⟨1,[]⟩,⟨1,[(6,0)]⟩]
    [.mv 12 (.t 0),
     .nilc 13 (.t 12),
     .fa 14 (.t 13) 0,
     .ldq 15 false 1 (.t 14),
     .mv 16 (.t 0),
     .nilc 17 (.t 16),
     .fa 18 (.t 17) 1,
     .ldq 19 false 1 (.t 18),
     .ia 20 5 (.t 15) (.t 19),
     .ldq 21 true 5 (.t 20),
     .new 6 (.c (.a [(I 0),(S []),(I 0),(I 0),(B false)])),
     .st 5 (.t 6) (.t 21)])
  (.keep [0,1,4,6]
   (.seq
    (.seq
     (.reg [.fa 22 (.t 6) 4,
      .ld 23 false 1 (.t 22)])
    (.cond (.t 23)
     (.seq
      (.reg [.mv 24 (.t 0),
       .mv 25 (.t 0),
       .nilc 26 (.t 25),
       .fa 27 (.t 26) 1,
       .ld 28 false 1 (.t 27),
       .bin 29 .add (.t 28) (.c (I 2)),
       .nilc 30 (.t 24),
       .fa 31 (.t 30) 1,
       .st 1 (.t 31) (.t 29)])
     (.keep [0,4,6]
      (.seq
       (.reg [.mv 32 (.t 0),
        .fa 33 (.t 6) 1,
        .ld 34 false 1 (.t 33),
        .call (some 35) (.c (Fc F.spec_l06Read_some)) [(.t 32),(.t 34)] (.io false),
        .st 4 (.t 4) (.t 35),
        .mv 5 (.c (I 0))])
      (.keep [0,4,5]
       .ret))))
     .skip))
   (.keep [0,1,4,6]
    (.seq
     (.seq
      (.reg [.fa 36 (.t 6) 1,
       .ld 37 false 1 (.t 36),
       .bin 38 .eql (.t 37) (.c (S [45])),
       .mv 39 (.t 38),
       .gd 39 true (some 40) (.mv 40 (.t 0)),
       .gd 39 true (some 41) (.call (some 41) (.c (Fc F.spec_l06Read_near)) [(.t 40)] (.ro true)),
       .pick 42 (.t 39) (.t 41) (.c (B false))])
     (.keep [0,1,4,6,42]
      (.cond (.t 42)
       (.seq
        (.reg [.mv 43 (.t 0),
         .mv 44 (.t 0),
         .nilc 45 (.t 44),
         .fa 46 (.t 45) 1,
         .ld 47 false 1 (.t 46),
         .bin 48 .add (.t 47) (.c (I 2)),
         .nilc 49 (.t 43),
         .fa 50 (.t 49) 1,
         .st 1 (.t 50) (.t 48)])
       (.keep [0,4]
        (.seq
         (.dreg [⟨0,[]⟩,⟨0,[]⟩,⟨0,[]⟩,⟨0,[(0,0),(0,1),(0,2),(0,3),(28,0),(47,0),(82,0),(115,0)]⟩,⟨0,[]⟩,⟨0,[]⟩,⟨0,[]⟩,⟨0,[(0,0),(0,1),(0,2),(0,3),(28,0),(47,0),(82,0),(115,0)]⟩,⟨0,[]⟩,⟨0,[(0,0),(0,1),(0,2),(0,3),(28,0),(47,0),(54,0),(58,0),(82,0),(115,0)]⟩,⟨0,[]⟩,⟨0,[(0,0),(0,1),(0,2),(0,3),(28,0),(47,0),(54,0),(58,0),(82,0),(115,0)]⟩,⟨0,[]⟩,⟨2,[(0,0),(0,1),(0,2),(0,3),(28,0),(47,0),(54,0),(58,0),(62,0),(82,0),(115,0)]⟩,⟨1,[(4,0)]⟩,⟨0,[]⟩]
          [.mv 51 (.t 0),
           .nilc 52 (.t 51),
           .fa 53 (.t 52) 0,
           .ldq 54 false 1 (.t 53),
           .mv 55 (.t 0),
           .nilc 56 (.t 55),
           .fa 57 (.t 56) 1,
           .ldq 58 false 1 (.t 57),
           .bin 59 .sub (.t 58) (.c (I 1)),
           .ia 60 5 (.t 54) (.t 59),
           .fa 61 (.t 60) 2,
           .ldq 62 false 1 (.t 61),
           .un 63 .neg (.t 62),
           .call (some 64) (.c (Fc F.spec_l03Num)) [(.t 63)] (.ro false),
           .st 4 (.t 4) (.t 64),
           .mv 5 (.c (I 0))])
        (.keep [0,4,5]
         .ret))))
       .skip)))
    (.keep [0,1,4,6]
     (.seq
      (.reg [.fa 66 (.t 6) 1,
       .ld 67 false 1 (.t 66),
       .call (some 68) (.c (Fc F.spec_PrefixOf)) [(.t 67)] (.ro false),
       .mv 65 (.t 68),
       .ext 69 (.t 65) 0,
       .ext 70 (.t 65) 1,
       .new 7 (.c (.a [(S []),(I 0),(I 0),(I 0)])),
       .st 4 (.t 7) (.t 69),
       .mv 8 (.t 70)])
     (.keep [0,1,4,6,7,8]
      (.seq
       (.seq
        (.reg [.mv 71 (.t 8),
         .mv 72 (.t 71),
         .gd 72 true (some 73) (.fa 73 (.t 7) 1),
         .gd 72 true (some 74) (.ld 74 false 1 (.t 73)),
         .gd 72 true (some 75) (.mv 75 (.t 1)),
         .gd 72 true (some 76) (.bin 76 .leq (.t 74) (.t 75)),
         .pick 77 (.t 72) (.t 76) (.c (B false))])
       (.keep [0,4,6,7,8,77]
        (.cond (.t 77)
         (.seq
          (.reg [.mv 78 (.t 0),
           .mv 79 (.t 0),
           .nilc 80 (.t 79),
           .fa 81 (.t 80) 1,
           .ld 82 false 1 (.t 81),
           .bin 83 .add (.t 82) (.c (I 1)),
           .nilc 84 (.t 78),
           .fa 85 (.t 84) 1,
           .st 1 (.t 85) (.t 83)])
         (.keep [0,4,6,7]
          (.seq
           (.reg [.mv 86 (.t 0),
            .fa 87 (.t 7) 3,
            .ld 88 false 1 (.t 87),
            .call (some 89) (.c (Fc F.spec_l06Read_term)) [(.t 86),(.t 88)] (.io false),
            .new 9 (.c (.a [(I 0),(S []),(I 0),(.n 4)])),
            .st 4 (.t 9) (.t 89)])
          (.keep [0,4,6,7,9]
           (.seq
            (.dreg [⟨0,[]⟩,⟨0,[(6,0)]⟩,⟨0,[(9,0)]⟩,⟨1,[]⟩,⟨0,[]⟩,⟨0,[]⟩,⟨0,[(7,0)]⟩,⟨1,[(4,0)]⟩,⟨0,[]⟩]
             [.fa 90 (.t 6) 1,
              .ldq 91 false 1 (.t 90),
              .ldq 92 true 4 (.t 9),
              .mks 93 4 [(.t 92)],
              .build 94 (.a [(I 0),(S []),(I 0),(.n 4)]) [(0,1,(.c (I 4))),(1,1,(.t 91)),(3,1,(.t 93))],
              .fa 95 (.t 7) 1,
              .ldq 96 false 1 (.t 95),
              .st 4 (.t 4) (.t 94),
              .mv 5 (.t 96)])
           (.keep [0,4,5]
            .ret))))))
         .skip)))
      (.keep [0,4,6,8]
       (.seq
        (.reg [.fa 98 (.t 6) 1,
         .ld 99 false 1 (.t 98),
         .call (some 100) (.c (Fc F.spec_InfixOf)) [(.t 99)] (.ro true),
         .mv 97 (.t 100),
         .ext 101 (.t 97) 0,
         .ext 102 (.t 97) 1,
         .new 10 (.c (.a [(S []),(I 0),(I 0),(I 0)])),
         .st 4 (.t 10) (.t 101),
         .mv 11 (.t 102)])
       (.keep [0,4,6,8,11]
        (.seq
         (.seq
          (.reg [.mv 103 (.t 8),
           .mv 104 (.t 103),
           .gd 104 false (some 105) (.mv 105 (.t 11)),
           .pick 106 (.t 104) (.c (B true)) (.t 105)])
         (.keep [0,4,6,106]
          (.cond (.t 106)
           (.seq
            (.reg [.mv 107 (.t 0),
             .nilc 108 (.t 107),
             .fa 109 (.t 108) 2,
             .st 1 (.t 109) (.c (B true))])
           (.keep [0,4]
            (.seq
             (.reg [.build 110 (.a [(I 0),(S []),(I 0),(.n 4)]) [],
              .st 4 (.t 4) (.t 110),
              .mv 5 (.c (I 0))])
            (.keep [0,4,5]
             .ret))))
           .skip)))
        (.keep [0,4,6]
         (.seq
          (.reg [.mv 111 (.t 0),
           .mv 112 (.t 0),
           .nilc 113 (.t 112),
           .fa 114 (.t 113) 1,
           .ld 115 false 1 (.t 114),
           .bin 116 .add (.t 115) (.c (I 1)),
           .nilc 117 (.t 111),
           .fa 118 (.t 117) 1,
           .st 1 (.t 118) (.t 116)])
         (.keep [0,4,6]
          (.seq
           (.reg [.fa 119 (.t 6) 1,
            .ld 120 false 1 (.t 119),
            .call (some 121) (.c (Fc F.spec_l03Atom)) [(.t 120)] (.ro false),
            .st 4 (.t 4) (.t 121),
            .mv 5 (.c (I 0))])
          (.keep [0,4,5]
           .ret)))))))))))))))))))
def A.spec_l06Read_mark:AF where
 nargs:=2
 ntmps:=16
 res:=[.tmp 4]
 body:=
  (.seq
   (.reg [.mv 4 (.c (B false))])
  (.seq
   (.seq
    (.reg [.mv 5 (.t 0),
     .mv 6 (.t 1),
     .call (some 7) (.c (Fc F.spec_l06Read_is)) [(.t 5),(.c (I 4)),(.t 6)] (.ro true)])
   (.cond (.t 7)
    (.seq
     (.reg [.mv 8 (.t 0),
      .mv 9 (.t 0),
      .nilc 10 (.t 9),
      .fa 11 (.t 10) 1,
      .ld 12 false 1 (.t 11),
      .bin 13 .add (.t 12) (.c (I 1)),
      .nilc 14 (.t 8),
      .fa 15 (.t 14) 1,
      .st 1 (.t 15) (.t 13)])
    (.keep [0]
     (.seq
      (.reg [.mv 4 (.c (B true))])
     (.keep [0,4]
      .ret))))
    .skip))
  (.keep [0]
   (.seq
    (.reg [.mv 4 (.c (B false))])
   (.keep [0,4]
    .ret)))))
def A.spec_l06Read_round:AF where
 nargs:=1
 ntmps:=75
 res:=[.cell 2 true 4]
 body:=
  (.seq
   (.reg [.new 2 (.c (.a [(I 0),(S []),(I 0),(.n 4)]))])
  (.seq
   (.seq
    (.dreg [⟨0,[]⟩,⟨2,[(0,0),(0,1),(0,2),(0,3),(53,0)]⟩,⟨0,[]⟩,⟨0,[]⟩,⟨0,[]⟩,⟨0,[]⟩,⟨0,[(0,0),(0,1),(0,2),(0,3),(53,0)]⟩,⟨0,[]⟩,⟨0,[]⟩,⟨0,[]⟩,⟨0,[]⟩,⟨0,[(0,0),(0,1),(0,2),(0,3),(53,0)]⟩,⟨0,[(0,0),(0,1),(0,2),(0,3),(15,0),(53,0)]⟩,⟨0,[]⟩,⟨0,[]⟩,⟨0,[]⟩,⟨0,[]⟩,⟨0,[]⟩,⟨0,[]⟩,⟨0,[(0,0),(0,1),(0,2),(0,3),(53,0)]⟩,⟨0,[]⟩,⟨0,[]⟩,⟨0,[]⟩,⟨0,[(0,0),(0,1),(0,2),(0,3),(53,0)]⟩,⟨0,[]⟩,⟨0,[(0,0),(0,1),(0,2),(0,3),(23,0),(27,0),(53,0)]⟩,⟨0,[]⟩,⟨0,[(0,0),(0,1),(0,2),(0,3),(23,0),(27,0),(53,0)]⟩,⟨0,[]⟩,⟨0,[]⟩,⟨0,[]⟩,⟨0,[]⟩,⟨0,[]⟩,⟨0,[]⟩,⟨0,[(0,0),(0,1),(0,2),(0,3),(53,0)]⟩,⟨0,[]⟩,⟨0,[]⟩,⟨0,[]⟩,⟨0,[(0,0),(0,1),(0,2),(0,3),(53,0)]⟩,⟨0,[]⟩,⟨0,[(0,0),(0,1),(0,2),(0,3),(38,0),(42,0),(53,0)]⟩,⟨0,[]⟩,⟨0,[(0,0),(0,1),(0,2),(0,3),(38,0),(42,0),(53,0)]⟩,⟨0,[]⟩,⟨0,[]⟩]
     [.mv 4 (.t 0),
      .call (some 5) (.c (Fc F.spec_l06Read_is)) [(.t 4),(.c (I 1)),(.c (S []))] (.ro true),
      .mv 6 (.t 5),
      .gd 6 true (some 7) (.mv 7 (.t 0)),
      .gd 6 true (some 8) (.nilc 8 (.t 7)),
      .gd 6 true (some 9) (.fa 9 (.t 8) 1),
      .gd 6 true (some 10) (.ldq 10 false 1 (.t 9)),
      .gd 6 true (some 11) (.bin 11 .add (.t 10) (.c (I 1))),
      .gd 6 true (some 12) (.mv 12 (.t 0)),
      .gd 6 true (some 13) (.nilc 13 (.t 12)),
      .gd 6 true (some 14) (.fa 14 (.t 13) 0),
      .gd 6 true (some 15) (.ldq 15 false 1 (.t 14)),
      .gd 6 true (some 16) (.len 16 (.t 15)),
      .gd 6 true (some 17) (.bin 17 .lss (.t 11) (.t 16)),
      .pick 18 (.t 6) (.t 17) (.c (B false)),
      .mv 19 (.t 18),
      .gd 19 true (some 20) (.mv 20 (.t 0)),
      .gd 19 true (some 21) (.nilc 21 (.t 20)),
      .gd 19 true (some 22) (.fa 22 (.t 21) 0),
      .gd 19 true (some 23) (.ldq 23 false 1 (.t 22)),
      .gd 19 true (some 24) (.mv 24 (.t 0)),
      .gd 19 true (some 25) (.nilc 25 (.t 24)),
      .gd 19 true (some 26) (.fa 26 (.t 25) 1),
      .gd 19 true (some 27) (.ldq 27 false 1 (.t 26)),
      .gd 19 true (some 28) (.bin 28 .add (.t 27) (.c (I 1))),
      .gd 19 true (some 29) (.ia 29 5 (.t 23) (.t 28)),
      .gd 19 true (some 30) (.fa 30 (.t 29) 0),
      .gd 19 true (some 31) (.ldq 31 false 1 (.t 30)),
      .gd 19 true (some 32) (.bin 32 .eql (.t 31) (.c (I 4))),
      .pick 33 (.t 19) (.t 32) (.c (B false)),
      .mv 34 (.t 33),
      .gd 34 true (some 35) (.mv 35 (.t 0)),
      .gd 34 true (some 36) (.nilc 36 (.t 35)),
      .gd 34 true (some 37) (.fa 37 (.t 36) 0),
      .gd 34 true (some 38) (.ldq 38 false 1 (.t 37)),
      .gd 34 true (some 39) (.mv 39 (.t 0)),
      .gd 34 true (some 40) (.nilc 40 (.t 39)),
      .gd 34 true (some 41) (.fa 41 (.t 40) 1),
      .gd 34 true (some 42) (.ldq 42 false 1 (.t 41)),
      .gd 34 true (some 43) (.bin 43 .add (.t 42) (.c (I 1))),
      .gd 34 true (some 44) (.ia 44 5 (.t 38) (.t 43)),
      .gd 34 true (some 45) (.fa 45 (.t 44) 1),
      .gd 34 true (some 46) (.ldq 46 false 1 (.t 45)),
      .gd 34 true (some 47) (.bin 47 .eql (.t 46) (.c (S [41]))),
      .pick 48 (.t 34) (.t 47) (.c (B false))])
   (.keep [0,2,48]
    (.cond (.t 48)
     (.seq
      (.reg [.mv 49 (.t 0),
       .mv 50 (.t 0),
       .nilc 51 (.t 50),
       .fa 52 (.t 51) 1,
       .ld 53 false 1 (.t 52),
       .bin 54 .add (.t 53) (.c (I 2)),
       .nilc 55 (.t 49),
       .fa 56 (.t 55) 1,
       .st 1 (.t 56) (.t 54)])
     (.keep [0,2]
      (.seq
       (.dreg [⟨0,[]⟩,⟨0,[]⟩,⟨0,[]⟩,⟨0,[(0,0),(0,1),(0,2),(0,3),(53,0)]⟩,⟨0,[]⟩,⟨0,[]⟩,⟨0,[]⟩,⟨0,[(0,0),(0,1),(0,2),(0,3),(53,0)]⟩,⟨0,[]⟩,⟨0,[(0,0),(0,1),(0,2),(0,3),(53,0),(60,0),(64,0)]⟩,⟨0,[]⟩,⟨0,[(0,0),(0,1),(0,2),(0,3),(53,0),(60,0),(64,0)]⟩,⟨2,[(0,0),(0,1),(0,2),(0,3),(53,0),(60,0),(64,0),(68,0)]⟩,⟨1,[(2,0)]⟩]
        [.mv 57 (.t 0),
         .nilc 58 (.t 57),
         .fa 59 (.t 58) 0,
         .ldq 60 false 1 (.t 59),
         .mv 61 (.t 0),
         .nilc 62 (.t 61),
         .fa 63 (.t 62) 1,
         .ldq 64 false 1 (.t 63),
         .bin 65 .sub (.t 64) (.c (I 2)),
         .ia 66 5 (.t 60) (.t 65),
         .fa 67 (.t 66) 1,
         .ldq 68 false 1 (.t 67),
         .call (some 69) (.c (Fc F.spec_l03Atom)) [(.t 68)] (.ro false),
         .st 4 (.t 2) (.t 69)])
      (.keep [0,2]
       .ret))))
     .skip)))
  (.keep [0,2]
   (.seq
    (.reg [.mv 70 (.t 0),
     .call (some 71) (.c (Fc F.spec_l06Read_term)) [(.t 70),(.c (I 1200))] (.io false),
     .new 3 (.c (.a [(I 0),(S []),(I 0),(.n 4)])),
     .st 4 (.t 3) (.t 71)])
   (.keep [0,2,3]
    (.seq
     (.reg [.mv 72 (.t 0),
      .call (some 73) (.c (Fc F.spec_l06Read_wants)) [(.t 72),(.c (S [41]))] (.io true)])
    (.seq
     (.reg [.ld 74 true 4 (.t 3),
      .st 4 (.t 2) (.t 74)])
    (.keep [0,2]
     .ret))))))))
def LB.spec_l06Read_row_0:AC:=
 (.seq
  (.seq
   (.reg [.mv 34 (.t 5),
    .bin 35 .geq (.t 34) (.c (I 0))])
  (.cond (.t 35)
   .skip
   (.keep [0,2,4]
    (.exit 2))))
 (.keep [0,2,3,4,5]
  (.seq
   (.block 3
    (.opd [(500000,3,some 5)] (.dreg [⟨0,[]⟩,⟨0,[]⟩,⟨0,[(0,0),(0,1),(0,2),(0,3),(9,0),(18,0),(18,1),(18,2),(18,3),(19,0),(20,0),(100000,0),(100000,1),(100000,2),(100000,3),(100000,4),(100000,5)]⟩,⟨0,[(0,0),(0,1),(0,2),(0,3),(9,0),(18,0),(18,1),(18,2),(18,3),(19,0),(20,0),(100000,0),(100000,1),(100000,2),(100000,3),(100000,4),(100000,5)]⟩,⟨0,[(4,0),(100000,0),(100000,1),(100000,2),(100000,3),(100000,4),(100000,5)]⟩,⟨1,[(0,0),(0,1),(0,2),(0,3),(9,0),(10,0),(10,1),(10,2),(10,3),(18,0),(18,1),(18,2),(18,3),(19,0),(20,0),(26,0),(26,1),(26,2),(26,3),(41,0),(42,0),(100000,0),(100000,1),(100000,2),(100000,3),(100000,4),(100000,5),(500000,0)]⟩,⟨1,[(4,0),(100000,0),(100000,1),(100000,2),(100000,3),(100000,4),(100000,5)]⟩]
     [.mv 38 (.t 3),
      .mv 39 (.t 5),
      .ia 40 4 (.t 38) (.t 39),
      .ldq 41 true 4 (.t 40),
      .ldq 42 true 4 (.t 4),
      .call (some 43) (.c (Fc F.spec_l03Two)) [(.c (S [46])),(.t 41),(.t 42)] (.io false),
      .st 4 (.t 4) (.t 43)])))
  (.keep [0,2,3,4,5]
   (.reg [.mv 36 (.t 5),
    .bin 37 .sub (.t 36) (.c (I 1)),
    .mv 5 (.t 37)])))))
def L.spec_l06Read_row_0:Lp:=⟨[0,2,3,4,5],[(1,0)],LB.spec_l06Read_row_0⟩
@[go_sem] theorem L.spec_l06Read_row_0_ls:L.spec_l06Read_row_0.ls=[0,2,3,4,5]:=rfl
@[go_sem] theorem L.spec_l06Read_row_0_ks:L.spec_l06Read_row_0.ks=[(1,0)]:=rfl
@[go_sem] theorem L.spec_l06Read_row_0_b:L.spec_l06Read_row_0.body=LB.spec_l06Read_row_0:=rfl
def LB.spec_l06Read_row_1:AC:=
 (.seq
  (.seq
   (.reg [.mv 11 (.t 0),
    .nilc 12 (.t 11),
    .fa 13 (.t 12) 2,
    .ld 14 false 1 (.t 13),
    .un 15 .not (.t 14)])
  (.keep [0,2,3,4,15]
   (.cond (.t 15)
    .skip
    (.keep [0,2,3,4]
     (.exit 0)))))
 (.keep [0,2,3,4]
  (.block 1
   (.seq
    (.reg [.mv 16 (.t 3),
     .mv 17 (.t 0),
     .call (some 18) (.c (Fc F.spec_l06Read_term)) [(.t 17),(.c (I 999))] (.io false),
     .mks 19 4 [(.t 18)],
     .app 20 4 56 (.t 16) (.t 19),
     .mv 3 (.t 20)])
   (.keep [0,2,3,4]
    (.seq
     (.seq
      (.reg [.mv 21 (.t 0),
       .call (some 22) (.c (Fc F.spec_l06Read_mark)) [(.t 21),(.c (S [93]))] (.io true)])
     (.cond (.t 22)
      (.keep [0,2,3,4]
       (.exit 0))
      .skip))
    (.keep [0,2,3,4]
     (.seq
      (.seq
       (.reg [.mv 23 (.t 0),
        .call (some 24) (.c (Fc F.spec_l06Read_mark)) [(.t 23),(.c (S [124]))] (.io true)])
      (.cond (.t 24)
       (.seq
        (.reg [.mv 25 (.t 0),
         .call (some 26) (.c (Fc F.spec_l06Read_term)) [(.t 25),(.c (I 999))] (.io false),
         .st 4 (.t 4) (.t 26)])
       (.seq
        (.reg [.mv 27 (.t 0),
         .call (some 28) (.c (Fc F.spec_l06Read_wants)) [(.t 27),(.c (S [93]))] (.io true)])
       (.keep [0,2,3,4]
        (.exit 0))))
       .skip))
     (.keep [0,2,3,4]
      (.reg [.mv 29 (.t 0),
       .call (some 30) (.c (Fc F.spec_l06Read_wants)) [(.t 29),(.c (S [44]))] (.io true)]))))))))))
def L.spec_l06Read_row_1:Lp:=⟨[0,2,3,4],[(1,0)],LB.spec_l06Read_row_1⟩
@[go_sem] theorem L.spec_l06Read_row_1_ls:L.spec_l06Read_row_1.ls=[0,2,3,4]:=rfl
@[go_sem] theorem L.spec_l06Read_row_1_ks:L.spec_l06Read_row_1.ks=[(1,0)]:=rfl
@[go_sem] theorem L.spec_l06Read_row_1_b:L.spec_l06Read_row_1.body=LB.spec_l06Read_row_1:=rfl
def A.spec_l06Read_row:AF where
 nargs:=1
 ntmps:=45
 res:=[.cell 2 true 4]
 body:=
  (.seq
   (.reg [.new 2 (.c (.a [(I 0),(S []),(I 0),(.n 4)]))])
  (.seq
   (.seq
    (.reg [.mv 6 (.t 0),
     .call (some 7) (.c (Fc F.spec_l06Read_mark)) [(.t 6),(.c (S [93]))] (.io true)])
   (.cond (.t 7)
    (.seq
     (.reg [.call (some 8) (.c (Fc F.spec_l03Atom)) [(.c (S [91,93]))] (.ro false),
      .st 4 (.t 2) (.t 8)])
    (.keep [0,2]
     .ret))
    .skip))
  (.keep [0,2]
   (.seq
    (.reg [.mks 9 4 [],
     .mv 3 (.t 9)])
   (.seq
    (.reg [.call (some 10) (.c (Fc F.spec_l03Atom)) [(.c (S [91,93]))] (.ro false),
     .new 4 (.c (.a [(I 0),(S []),(I 0),(.n 4)])),
     .st 4 (.t 4) (.t 10)])
   (.seq
    (.block 0
     (lpC L.spec_l06Read_row_1))
   (.keep [0,2,3,4]
    (.seq
     (.seq
      (.reg [.mv 31 (.t 3),
       .len 32 (.t 31),
       .bin 33 .sub (.t 32) (.c (I 1)),
       .mv 5 (.t 33)])
     (.keep [0,2,3,4,5]
      (.block 2
       (lpC L.spec_l06Read_row_0))))
    (.keep [0,2,4]
     (.seq
      (.reg [.ld 44 true 4 (.t 4),
       .st 4 (.t 2) (.t 44)])
     (.keep [0,2]
      .ret)))))))))))
def A.spec_l03Num:AF where
 nargs:=1
 ntmps:=5
 res:=[.cell 2 true 4]
 body:=
  (.seq
   (.reg [.new 2 (.c (.a [(I 0),(S []),(I 0),(.n 4)]))])
  (.seq
   (.reg [.mv 3 (.t 0),
    .build 4 (.a [(I 0),(S []),(I 0),(.n 4)]) [(0,1,(.c (I 3))),(2,1,(.t 3))],
    .st 4 (.t 2) (.t 4)])
  (.keep [2]
   .ret)))
def LB.spec_l06Read_variable_0:AC:=
 (.seq
  (.seq
   (.reg [.mv 8 (.t 5),
    .mv 9 (.t 0),
    .nilc 10 (.t 9),
    .fa 11 (.t 10) 4,
    .ld 12 false 1 (.t 11),
    .len 13 (.t 12),
    .bin 14 .lss (.t 8) (.t 13)])
  (.keep [0,1,4,5,14]
   (.cond (.t 14)
    .skip
    (.keep [0,1,4]
     (.exit 0)))))
 (.keep [0,1,4,5]
  (.seq
   (.block 1
    (.seq
     (.reg [.mv 17 (.t 0),
      .nilc 18 (.t 17),
      .fa 19 (.t 18) 4,
      .ld 20 false 1 (.t 19),
      .mv 21 (.t 5),
      .ia 22 1 (.t 20) (.t 21),
      .ld 23 false 1 (.t 22),
      .mv 24 (.t 1),
      .bin 25 .eql (.t 23) (.t 24)])
    (.keep [0,1,4,5,25]
     (.cond (.t 25)
      (.seq
       (.reg [.mv 26 (.t 5),
        .call (some 27) (.c (Fc F.spec_l03Var)) [(.t 26)] (.ro false),
        .st 4 (.t 4) (.t 27)])
      (.keep [0,4]
       .ret))
      .skip))))
  (.keep [0,1,4,5]
   (.reg [.mv 15 (.t 5),
    .bin 16 .add (.t 15) (.c (I 1)),
    .mv 5 (.t 16)])))))
def L.spec_l06Read_variable_0:Lp:=⟨[0,1,4,5],[(2,0)],LB.spec_l06Read_variable_0⟩
@[go_sem] theorem L.spec_l06Read_variable_0_ls:L.spec_l06Read_variable_0.ls=[0,1,4,5]:=rfl
@[go_sem] theorem L.spec_l06Read_variable_0_ks:L.spec_l06Read_variable_0.ks=[(2,0)]:=rfl
@[go_sem] theorem L.spec_l06Read_variable_0_b:L.spec_l06Read_variable_0.body=LB.spec_l06Read_variable_0:=rfl
def A.spec_l06Read_variable:AF where
 nargs:=2
 ntmps:=45
 res:=[.cell 4 true 4]
 body:=
  (.seq
   (.reg [.new 4 (.c (.a [(I 0),(S []),(I 0),(.n 4)]))])
  (.seq
   (.seq
    (.reg [.mv 6 (.t 1),
     .bin 7 .neq (.t 6) (.c (S [95]))])
   (.cond (.t 7)
    (.seq
     (.reg [.mv 5 (.c (I 0))])
    (.block 0
     (lpC L.spec_l06Read_variable_0)))
    .skip))
  (.keep [0,1,4]
   (.seq
    (.reg [.mv 28 (.t 0),
     .mv 29 (.t 0),
     .nilc 30 (.t 29),
     .fa 31 (.t 30) 4,
     .ld 32 false 1 (.t 31),
     .mv 33 (.t 1),
     .mks 34 1 [(.t 33)],
     .app 35 1 16 (.t 32) (.t 34),
     .nilc 36 (.t 28),
     .fa 37 (.t 36) 4,
     .st 1 (.t 37) (.t 35)])
   (.keep [0,4]
    (.seq
     (.reg [.mv 38 (.t 0),
      .nilc 39 (.t 38),
      .fa 40 (.t 39) 4,
      .ld 41 false 1 (.t 40),
      .len 42 (.t 41),
      .bin 43 .sub (.t 42) (.c (I 1)),
      .call (some 44) (.c (Fc F.spec_l03Var)) [(.t 43)] (.ro false),
      .st 4 (.t 4) (.t 44)])
    (.keep [0,4]
     .ret)))))))
def A.spec_InfixOf:AF where
 nargs:=1
 ntmps:=42
 res:=[.cell 2 true 4,.tmp 3]
 body:=
  (.seq
   (.reg [.new 2 (.c (.a [(S []),(I 0),(I 0),(I 0)])),
    .mv 3 (.c (B false))])
  (.seq
   (.seq
    (.reg [.mv 4 (.t 0)])
   (.block 0
    (.seq
     (.seq
      (.reg [.bin 6 .eql (.t 4) (.c (S [58,45])),
       .mv 5 (.t 6)])
     (.cond (.t 5)
      .skip
      (.reg [.bin 7 .eql (.t 4) (.c (S [45,45,62])),
       .mv 5 (.t 7)])))
    (.keep [0,2,4,5]
     (.cond (.t 5)
      (.seq
       (.reg [.mv 8 (.t 0),
        .build 9 (.a [(S []),(I 0),(I 0),(I 0)]) [(0,1,(.t 8)),(1,1,(.c (I 1200))),(2,1,(.c (I 1199))),(3,1,(.c (I 1199)))],
        .st 4 (.t 2) (.t 9),
        .mv 3 (.c (B true))])
      (.keep [2,3]
       .ret))
      (.seq
       (.reg [.bin 11 .eql (.t 4) (.c (S [59])),
        .mv 10 (.t 11)])
      (.cond (.t 10)
       (.seq
        (.reg [.mv 12 (.t 0),
         .build 13 (.a [(S []),(I 0),(I 0),(I 0)]) [(0,1,(.t 12)),(1,1,(.c (I 1100))),(2,1,(.c (I 1099))),(3,1,(.c (I 1100)))],
         .st 4 (.t 2) (.t 13),
         .mv 3 (.c (B true))])
       (.keep [2,3]
        .ret))
       (.seq
        (.reg [.bin 15 .eql (.t 4) (.c (S [45,62])),
         .mv 14 (.t 15)])
       (.cond (.t 14)
        (.seq
         (.reg [.mv 16 (.t 0),
          .build 17 (.a [(S []),(I 0),(I 0),(I 0)]) [(0,1,(.t 16)),(1,1,(.c (I 1050))),(2,1,(.c (I 1049))),(3,1,(.c (I 1050)))],
          .st 4 (.t 2) (.t 17),
          .mv 3 (.c (B true))])
        (.keep [2,3]
         .ret))
        (.seq
         (.reg [.bin 19 .eql (.t 4) (.c (S [44])),
          .mv 18 (.t 19)])
        (.cond (.t 18)
         (.seq
          (.reg [.mv 20 (.t 0),
           .build 21 (.a [(S []),(I 0),(I 0),(I 0)]) [(0,1,(.t 20)),(1,1,(.c (I 1000))),(2,1,(.c (I 999))),(3,1,(.c (I 1000)))],
           .st 4 (.t 2) (.t 21),
           .mv 3 (.c (B true))])
         (.keep [2,3]
          .ret))
         (.seq
          (.seq
           (.reg [.bin 23 .eql (.t 4) (.c (S [61])),
            .mv 22 (.t 23)])
          (.cond (.t 22)
           .skip
           (.seq
            (.reg [.bin 24 .eql (.t 4) (.c (S [92,61])),
             .mv 22 (.t 24)])
           (.cond (.t 22)
            .skip
            (.seq
             (.reg [.bin 25 .eql (.t 4) (.c (S [61,61])),
              .mv 22 (.t 25)])
            (.cond (.t 22)
             .skip
             (.seq
              (.reg [.bin 26 .eql (.t 4) (.c (S [105,115])),
               .mv 22 (.t 26)])
             (.cond (.t 22)
              .skip
              (.seq
               (.reg [.bin 27 .eql (.t 4) (.c (S [60])),
                .mv 22 (.t 27)])
              (.cond (.t 22)
               .skip
               (.reg [.bin 28 .eql (.t 4) (.c (S [61,58,61])),
                .mv 22 (.t 28)])))))))))))
         (.keep [0,2,4,22]
          (.cond (.t 22)
           (.seq
            (.reg [.mv 29 (.t 0),
             .build 30 (.a [(S []),(I 0),(I 0),(I 0)]) [(0,1,(.t 29)),(1,1,(.c (I 700))),(2,1,(.c (I 699))),(3,1,(.c (I 699)))],
             .st 4 (.t 2) (.t 30),
             .mv 3 (.c (B true))])
           (.keep [2,3]
            .ret))
           (.seq
            (.seq
             (.reg [.bin 32 .eql (.t 4) (.c (S [43])),
              .mv 31 (.t 32)])
            (.cond (.t 31)
             .skip
             (.reg [.bin 33 .eql (.t 4) (.c (S [45])),
              .mv 31 (.t 33)])))
           (.keep [0,2,4,31]
            (.cond (.t 31)
             (.seq
              (.reg [.mv 34 (.t 0),
               .build 35 (.a [(S []),(I 0),(I 0),(I 0)]) [(0,1,(.t 34)),(1,1,(.c (I 500))),(2,1,(.c (I 500))),(3,1,(.c (I 499)))],
               .st 4 (.t 2) (.t 35),
               .mv 3 (.c (B true))])
             (.keep [2,3]
              .ret))
             (.seq
              (.seq
               (.reg [.bin 37 .eql (.t 4) (.c (S [42])),
                .mv 36 (.t 37)])
              (.cond (.t 36)
               .skip
               (.reg [.bin 38 .eql (.t 4) (.c (S [47,47])),
                .mv 36 (.t 38)])))
             (.keep [0,2,36]
              (.cond (.t 36)
               (.seq
                (.reg [.mv 39 (.t 0),
                 .build 40 (.a [(S []),(I 0),(I 0),(I 0)]) [(0,1,(.t 39)),(1,1,(.c (I 400))),(2,1,(.c (I 400))),(3,1,(.c (I 399)))],
                 .st 4 (.t 2) (.t 40),
                 .mv 3 (.c (B true))])
               (.keep [2,3]
                .ret))
               .skip))))))))))))))))))))
  (.keep [2]
   (.seq
    (.reg [.build 41 (.a [(S []),(I 0),(I 0),(I 0)]) [],
     .st 4 (.t 2) (.t 41),
     .mv 3 (.c (B false))])
   (.keep [2,3]
    .ret)))))
def A.spec_l03One:AF where
 nargs:=1
 ntmps:=69
 res:=[.tmp 2]
 body:=
  (.seq
   (.reg [.new 1 (.t 0),
    .mv 2 (.c (B false))])
  (.seq
   (.seq
    (.reg [.fa 3 (.t 1) 0,
     .ld 4 false 1 (.t 3)])
   (.block 0
    (.seq
     (.reg [.bin 6 .eql (.t 4) (.c (I 1)),
      .mv 5 (.t 6)])
    (.cond (.t 5)
     (.seq
      (.reg [.fa 7 (.t 1) 2,
       .ld 8 false 1 (.t 7),
       .call (some 9) (.c (Fc F.spec_l01In)) [(.t 8),(.c (I 0)),(.c (I 99999))] (.ro false),
       .mv 10 (.t 9),
       .gd 10 true (some 11) (.fa 11 (.t 1) 1),
       .gd 10 true (some 12) (.ld 12 false 1 (.t 11)),
       .gd 10 true (some 13) (.bin 13 .eql (.t 12) (.c (S []))),
       .pick 14 (.t 10) (.t 13) (.c (B false)),
       .mv 15 (.t 14),
       .gd 15 true (some 16) (.fa 16 (.t 1) 3),
       .gd 15 true (some 17) (.ld 17 false 1 (.t 16)),
       .gd 15 true (some 18) (.len 18 (.t 17)),
       .gd 15 true (some 19) (.bin 19 .eql (.t 18) (.c (I 0))),
       .pick 20 (.t 15) (.t 19) (.c (B false)),
       .mv 2 (.t 20)])
     (.keep [2]
      .ret))
     (.seq
      (.reg [.bin 22 .eql (.t 4) (.c (I 2)),
       .mv 21 (.t 22)])
     (.cond (.t 21)
      (.seq
       (.reg [.fa 23 (.t 1) 1,
        .ld 24 false 1 (.t 23),
        .call (some 25) (.c (Fc F.spec_l03Name)) [(.t 24)] (.ro false),
        .mv 26 (.t 25),
        .gd 26 true (some 27) (.fa 27 (.t 1) 2),
        .gd 26 true (some 28) (.ld 28 false 1 (.t 27)),
        .gd 26 true (some 29) (.bin 29 .eql (.t 28) (.c (I 0))),
        .pick 30 (.t 26) (.t 29) (.c (B false)),
        .mv 31 (.t 30),
        .gd 31 true (some 32) (.fa 32 (.t 1) 3),
        .gd 31 true (some 33) (.ld 33 false 1 (.t 32)),
        .gd 31 true (some 34) (.len 34 (.t 33)),
        .gd 31 true (some 35) (.bin 35 .eql (.t 34) (.c (I 0))),
        .pick 36 (.t 31) (.t 35) (.c (B false)),
        .mv 2 (.t 36)])
      (.keep [2]
       .ret))
      (.seq
       (.reg [.bin 38 .eql (.t 4) (.c (I 3)),
        .mv 37 (.t 38)])
      (.cond (.t 37)
       (.seq
        (.reg [.fa 39 (.t 1) 2,
         .ld 40 false 1 (.t 39),
         .call (some 41) (.c (Fc F.spec_l01In)) [(.t 40),(.c (I (-999999999))),(.c (I 999999999))] (.ro false),
         .mv 42 (.t 41),
         .gd 42 true (some 43) (.fa 43 (.t 1) 1),
         .gd 42 true (some 44) (.ld 44 false 1 (.t 43)),
         .gd 42 true (some 45) (.bin 45 .eql (.t 44) (.c (S []))),
         .pick 46 (.t 42) (.t 45) (.c (B false)),
         .mv 47 (.t 46),
         .gd 47 true (some 48) (.fa 48 (.t 1) 3),
         .gd 47 true (some 49) (.ld 49 false 1 (.t 48)),
         .gd 47 true (some 50) (.len 50 (.t 49)),
         .gd 47 true (some 51) (.bin 51 .eql (.t 50) (.c (I 0))),
         .pick 52 (.t 47) (.t 51) (.c (B false)),
         .mv 2 (.t 52)])
       (.keep [2]
        .ret))
       (.seq
        (.reg [.bin 54 .eql (.t 4) (.c (I 4)),
         .mv 53 (.t 54)])
       (.cond (.t 53)
        (.seq
         (.reg [.fa 55 (.t 1) 1,
          .ld 56 false 1 (.t 55),
          .call (some 57) (.c (Fc F.spec_l03Name)) [(.t 56)] (.ro false),
          .mv 58 (.t 57),
          .gd 58 true (some 59) (.fa 59 (.t 1) 2),
          .gd 58 true (some 60) (.ld 60 false 1 (.t 59)),
          .gd 58 true (some 61) (.bin 61 .eql (.t 60) (.c (I 0))),
          .pick 62 (.t 58) (.t 61) (.c (B false)),
          .mv 63 (.t 62),
          .gd 63 true (some 64) (.fa 64 (.t 1) 3),
          .gd 63 true (some 65) (.ld 65 false 1 (.t 64)),
          .gd 63 true (some 66) (.len 66 (.t 65)),
          .gd 63 true (some 67) (.call (some 67) (.c (Fc F.spec_l01In)) [(.t 66),(.c (I 1)),(.c (I 5))] (.ro false)),
          .pick 68 (.t 63) (.t 67) (.c (B false)),
          .mv 2 (.t 68)])
        (.keep [2]
         .ret))
        .skip))))))))))
  (.keep []
   (.seq
    (.reg [.mv 2 (.c (B false))])
   (.keep [2]
    .ret)))))
def A.impl_variable:AF where
 nargs:=1
 ntmps:=5
 res:=[.cell 2 true 4]
 body:=
  (.seq
   (.reg [.new 2 (.c (.a [(I 0),(S []),(I 0),(.n 4)]))])
  (.seq
   (.reg [.mv 3 (.t 0),
    .build 4 (.a [(I 0),(S []),(I 0),(.n 4)]) [(0,1,(.c (I 1))),(2,1,(.t 3))],
    .st 4 (.t 2) (.t 4)])
  (.keep [2]
   .ret)))
def LB.spec_l06Read_some_0:AC:=
 (.seq
  (.seq
   (.reg [.mv 9 (.t 0),
    .nilc 10 (.t 9),
    .fa 11 (.t 10) 2,
    .ld 12 false 1 (.t 11),
    .un 13 .not (.t 12)])
  (.keep [0,4,5,13]
   (.cond (.t 13)
    .skip
    (.keep [0,4,5]
     (.exit 0)))))
 (.keep [0,4,5]
  (.block 1
   (.seq
    (.reg [.mv 14 (.t 0),
     .call (some 15) (.c (Fc F.spec_l06Read_term)) [(.t 14),(.c (I 999))] (.io false),
     .new 6 (.c (.a [(I 0),(S []),(I 0),(.n 4)])),
     .st 4 (.t 6) (.t 15)])
   (.keep [0,4,5,6]
    (.seq
     (.seq
      (.reg [.fa 16 (.t 5) 3,
       .ld 17 false 1 (.t 16),
       .len 18 (.t 17),
       .bin 19 .geq (.t 18) (.c (I 5))])
     (.keep [0,4,5,6,19]
      (.cond (.t 19)
       (.seq
        (.reg [.mv 20 (.t 0),
         .nilc 21 (.t 20),
         .fa 22 (.t 21) 2,
         .st 1 (.t 22) (.c (B true))])
       (.keep [0,4,5]
        (.exit 0)))
       .skip)))
    (.keep [0,4,5,6]
     (.seq
      (.reg [.fa 23 (.t 5) 3,
       .ld 24 false 1 (.t 23),
       .ld 25 true 4 (.t 6),
       .mks 26 4 [(.t 25)],
       .app 27 4 56 (.t 24) (.t 26),
       .fa 28 (.t 5) 3,
       .st 1 (.t 28) (.t 27)])
     (.keep [0,4,5]
      (.seq
       (.seq
        (.reg [.mv 29 (.t 0),
         .call (some 30) (.c (Fc F.spec_l06Read_mark)) [(.t 29),(.c (S [41]))] (.io true)])
       (.cond (.t 30)
        (.keep [0,4,5]
         (.exit 0))
        .skip))
      (.keep [0,4,5]
       (.reg [.mv 31 (.t 0),
        .call (some 32) (.c (Fc F.spec_l06Read_wants)) [(.t 31),(.c (S [44]))] (.io true)]))))))))))))
def L.spec_l06Read_some_0:Lp:=⟨[0,4,5],[(2,0)],LB.spec_l06Read_some_0⟩
@[go_sem] theorem L.spec_l06Read_some_0_ls:L.spec_l06Read_some_0.ls=[0,4,5]:=rfl
@[go_sem] theorem L.spec_l06Read_some_0_ks:L.spec_l06Read_some_0.ks=[(2,0)]:=rfl
@[go_sem] theorem L.spec_l06Read_some_0_b:L.spec_l06Read_some_0.body=LB.spec_l06Read_some_0:=rfl
def A.spec_l06Read_some:AF where
 nargs:=2
 ntmps:=34
 res:=[.cell 4 true 4]
 body:=
  (.seq
   (.reg [.new 4 (.c (.a [(I 0),(S []),(I 0),(.n 4)]))])
  (.seq
   (.reg [.mv 7 (.t 1),
    .build 8 (.a [(I 0),(S []),(I 0),(.n 4)]) [(0,1,(.c (I 4))),(1,1,(.t 7))],
    .new 5 (.c (.a [(I 0),(S []),(I 0),(.n 4)])),
    .st 4 (.t 5) (.t 8)])
  (.keep [0,4,5]
   (.seq
    (.block 0
     (lpC L.spec_l06Read_some_0))
   (.keep [0,4,5]
    (.seq
     (.reg [.ld 33 true 4 (.t 5),
      .st 4 (.t 4) (.t 33)])
    (.keep [0,4]
     .ret)))))))
def A.spec_l06Read_near:AF where
 nargs:=1
 ntmps:=56
 res:=[.tmp 2]
 body:=
  (.seq
   (.reg [.mv 2 (.c (B false))])
  (.seq
   (.dreg [⟨0,[]⟩,⟨0,[]⟩,⟨0,[]⟩,⟨0,[(0,0),(0,1),(0,2),(0,3)]⟩,⟨0,[]⟩,⟨0,[]⟩,⟨0,[]⟩,⟨0,[]⟩,⟨0,[(0,0),(0,1),(0,2),(0,3)]⟩,⟨0,[(0,0),(0,1),(0,2),(0,3),(11,0)]⟩,⟨0,[]⟩,⟨0,[]⟩,⟨0,[]⟩,⟨0,[]⟩,⟨0,[]⟩,⟨0,[(0,0),(0,1),(0,2),(0,3)]⟩,⟨0,[]⟩,⟨0,[]⟩,⟨0,[]⟩,⟨0,[(0,0),(0,1),(0,2),(0,3)]⟩,⟨0,[]⟩,⟨0,[(0,0),(0,1),(0,2),(0,3),(18,0),(22,0)]⟩,⟨0,[]⟩,⟨0,[(0,0),(0,1),(0,2),(0,3),(18,0),(22,0)]⟩,⟨0,[]⟩,⟨0,[]⟩,⟨0,[]⟩,⟨0,[]⟩,⟨0,[]⟩,⟨0,[]⟩,⟨0,[(0,0),(0,1),(0,2),(0,3)]⟩,⟨0,[]⟩,⟨0,[]⟩,⟨0,[]⟩,⟨0,[(0,0),(0,1),(0,2),(0,3)]⟩,⟨0,[]⟩,⟨0,[(0,0),(0,1),(0,2),(0,3),(33,0),(37,0)]⟩,⟨0,[]⟩,⟨0,[(0,0),(0,1),(0,2),(0,3),(33,0),(37,0)]⟩,⟨0,[]⟩,⟨0,[]⟩,⟨0,[]⟩,⟨0,[(0,0),(0,1),(0,2),(0,3)]⟩,⟨0,[]⟩,⟨0,[]⟩,⟨0,[]⟩,⟨0,[(0,0),(0,1),(0,2),(0,3)]⟩,⟨0,[(0,0),(0,1),(0,2),(0,3),(45,0),(49,0)]⟩,⟨0,[]⟩,⟨0,[(0,0),(0,1),(0,2),(0,3),(45,0),(49,0)]⟩,⟨0,[]⟩,⟨0,[]⟩,⟨0,[]⟩,⟨0,[]⟩]
    [.mv 3 (.t 0),
     .nilc 4 (.t 3),
     .fa 5 (.t 4) 1,
     .ldq 6 false 1 (.t 5),
     .bin 7 .add (.t 6) (.c (I 1)),
     .mv 8 (.t 0),
     .nilc 9 (.t 8),
     .fa 10 (.t 9) 0,
     .ldq 11 false 1 (.t 10),
     .len 12 (.t 11),
     .bin 13 .lss (.t 7) (.t 12),
     .mv 14 (.t 13),
     .gd 14 true (some 15) (.mv 15 (.t 0)),
     .gd 14 true (some 16) (.nilc 16 (.t 15)),
     .gd 14 true (some 17) (.fa 17 (.t 16) 0),
     .gd 14 true (some 18) (.ldq 18 false 1 (.t 17)),
     .gd 14 true (some 19) (.mv 19 (.t 0)),
     .gd 14 true (some 20) (.nilc 20 (.t 19)),
     .gd 14 true (some 21) (.fa 21 (.t 20) 1),
     .gd 14 true (some 22) (.ldq 22 false 1 (.t 21)),
     .gd 14 true (some 23) (.bin 23 .add (.t 22) (.c (I 1))),
     .gd 14 true (some 24) (.ia 24 5 (.t 18) (.t 23)),
     .gd 14 true (some 25) (.fa 25 (.t 24) 0),
     .gd 14 true (some 26) (.ldq 26 false 1 (.t 25)),
     .gd 14 true (some 27) (.bin 27 .eql (.t 26) (.c (I 3))),
     .pick 28 (.t 14) (.t 27) (.c (B false)),
     .mv 29 (.t 28),
     .gd 29 true (some 30) (.mv 30 (.t 0)),
     .gd 29 true (some 31) (.nilc 31 (.t 30)),
     .gd 29 true (some 32) (.fa 32 (.t 31) 0),
     .gd 29 true (some 33) (.ldq 33 false 1 (.t 32)),
     .gd 29 true (some 34) (.mv 34 (.t 0)),
     .gd 29 true (some 35) (.nilc 35 (.t 34)),
     .gd 29 true (some 36) (.fa 36 (.t 35) 1),
     .gd 29 true (some 37) (.ldq 37 false 1 (.t 36)),
     .gd 29 true (some 38) (.bin 38 .add (.t 37) (.c (I 1))),
     .gd 29 true (some 39) (.ia 39 5 (.t 33) (.t 38)),
     .gd 29 true (some 40) (.fa 40 (.t 39) 3),
     .gd 29 true (some 41) (.ldq 41 false 1 (.t 40)),
     .gd 29 true (some 42) (.mv 42 (.t 0)),
     .gd 29 true (some 43) (.nilc 43 (.t 42)),
     .gd 29 true (some 44) (.fa 44 (.t 43) 0),
     .gd 29 true (some 45) (.ldq 45 false 1 (.t 44)),
     .gd 29 true (some 46) (.mv 46 (.t 0)),
     .gd 29 true (some 47) (.nilc 47 (.t 46)),
     .gd 29 true (some 48) (.fa 48 (.t 47) 1),
     .gd 29 true (some 49) (.ldq 49 false 1 (.t 48)),
     .gd 29 true (some 50) (.ia 50 5 (.t 45) (.t 49)),
     .gd 29 true (some 51) (.fa 51 (.t 50) 3),
     .gd 29 true (some 52) (.ldq 52 false 1 (.t 51)),
     .gd 29 true (some 53) (.bin 53 .add (.t 52) (.c (I 1))),
     .gd 29 true (some 54) (.bin 54 .eql (.t 41) (.t 53)),
     .pick 55 (.t 29) (.t 54) (.c (B false)),
     .mv 2 (.t 55)])
  (.keep [2]
   .ret)))
def A.spec_PrefixOf:AF where
 nargs:=1
 ntmps:=18
 res:=[.cell 2 true 4,.tmp 3]
 body:=
  (.seq
   (.reg [.new 2 (.c (.a [(S []),(I 0),(I 0),(I 0)])),
    .mv 3 (.c (B false))])
  (.seq
   (.seq
    (.reg [.mv 4 (.t 0)])
   (.block 0
    (.seq
     (.reg [.bin 6 .eql (.t 4) (.c (S [58,45])),
      .mv 5 (.t 6)])
    (.cond (.t 5)
     (.seq
      (.reg [.mv 7 (.t 0),
       .build 8 (.a [(S []),(I 0),(I 0),(I 0)]) [(0,1,(.t 7)),(1,1,(.c (I 1200))),(3,1,(.c (I 1199)))],
       .st 4 (.t 2) (.t 8),
       .mv 3 (.c (B true))])
     (.keep [2,3]
      .ret))
     (.seq
      (.reg [.bin 10 .eql (.t 4) (.c (S [92,43])),
       .mv 9 (.t 10)])
     (.cond (.t 9)
      (.seq
       (.reg [.mv 11 (.t 0),
        .build 12 (.a [(S []),(I 0),(I 0),(I 0)]) [(0,1,(.t 11)),(1,1,(.c (I 900))),(3,1,(.c (I 900)))],
        .st 4 (.t 2) (.t 12),
        .mv 3 (.c (B true))])
      (.keep [2,3]
       .ret))
      (.seq
       (.reg [.bin 14 .eql (.t 4) (.c (S [45])),
        .mv 13 (.t 14)])
      (.cond (.t 13)
       (.seq
        (.reg [.mv 15 (.t 0),
         .build 16 (.a [(S []),(I 0),(I 0),(I 0)]) [(0,1,(.t 15)),(1,1,(.c (I 200))),(3,1,(.c (I 200)))],
         .st 4 (.t 2) (.t 16),
         .mv 3 (.c (B true))])
       (.keep [2,3]
        .ret))
       .skip))))))))
  (.keep [2]
   (.seq
    (.reg [.build 17 (.a [(S []),(I 0),(I 0),(I 0)]) [],
     .st 4 (.t 2) (.t 17),
     .mv 3 (.c (B false))])
   (.keep [2,3]
    .ret)))))
def A.spec_l03Atom:AF where
 nargs:=1
 ntmps:=5
 res:=[.cell 2 true 4]
 body:=
  (.seq
   (.reg [.new 2 (.c (.a [(I 0),(S []),(I 0),(.n 4)]))])
  (.seq
   (.reg [.mv 3 (.t 0),
    .build 4 (.a [(I 0),(S []),(I 0),(.n 4)]) [(0,1,(.c (I 2))),(1,1,(.t 3))],
    .st 4 (.t 2) (.t 4)])
  (.keep [2]
   .ret)))
def A.spec_l06Read_wants:AF where
 nargs:=2
 ntmps:=11
 res:=[]
 body:=
  (.seq
   (.reg [.mv 4 (.t 0),
    .mv 5 (.t 1),
    .call (some 6) (.c (Fc F.spec_l06Read_mark)) [(.t 4),(.t 5)] (.io true),
    .un 7 .not (.t 6)])
  (.keep [0,7]
   (.cond (.t 7)
    (.reg [.mv 8 (.t 0),
     .nilc 9 (.t 8),
     .fa 10 (.t 9) 2,
     .st 1 (.t 10) (.c (B true))])
    .skip)))
def A.spec_l03Var:AF where
 nargs:=1
 ntmps:=5
 res:=[.cell 2 true 4]
 body:=
  (.seq
   (.reg [.new 2 (.c (.a [(I 0),(S []),(I 0),(.n 4)]))])
  (.seq
   (.reg [.mv 3 (.t 0),
    .build 4 (.a [(I 0),(S []),(I 0),(.n 4)]) [(0,1,(.c (I 1))),(2,1,(.t 3))],
    .st 4 (.t 2) (.t 4)])
  (.keep [2]
   .ret)))
def progA_0:Nat→Option AE
 |4=>some (.fn A.laws_FnExactIncludesIn)
 |13=>some (.fn A.impl_IncludesIn)
 |15=>some (.fn A.spec_IncludesIn)
 |16=>some (.fn A.laws_eqStringS)
 |17=>some (.fn A.laws_markStringS)
 |18=>some (.fn A.laws_heldStringS)
 |19=>some (.fn A.laws_szFileS)
 |21=>some (.fn A.laws_toFileS)
 |22=>some (.fn A.laws_eqFileS)
 |27=>some (.fn A.slices_Contains_string_string)
 |33=>some (.fn A.impl_ReadAll)
 |34=>some (.fn A.impl_isStruct)
 |35=>some (.fn A.impl_once)
 |36=>some (.fn A.spec_ReadAll)
 |37=>some (.fn A.spec_l03Is)
 |38=>some (.fn A.spec_l23Add)
 |39=>some (.fn A.laws_markText)
 |40=>some (.fn A.laws_szFile)
 |42=>some (.fn A.spec_l23Has)
 |43=>some (.fn A.laws_toFile)
 |44=>some (.fn A.laws_eqFile)
 |50=>some (.fn A.slices_Index_string_string)
 |52=>some (.fn A.impl_SignsOf)
 |_=>none
def progA_1:Nat→Option AE
 |53=>some (.fn A.impl_ReadSigns)
 |54=>some (.fn A.spec_SignsOf)
 |55=>some (.fn A.spec_ReadSigns)
 |61=>some (.fn A.impl_run)
 |62=>some (.fn A.impl_SignsOf_1)
 |63=>some (.fn A.impl_nextSign)
 |64=>some (.fn A.impl_within)
 |65=>some (.fn A.impl_parser_term)
 |66=>some (.fn A.impl_parser_sign)
 |67=>some (.fn A.impl_TermOk)
 |68=>some (.fn A.spec_l05Blank)
 |69=>some (.fn A.spec_l05Sign)
 |70=>some (.fn A.spec_l06Behind)
 |71=>some (.fn A.spec_l01In)
 |72=>some (.fn A.spec_l06Read_term)
 |73=>some (.fn A.spec_l06Read_is)
 |74=>some (.fn A.spec_TermOk)
 |78=>some (.fn A.impl_endsHere)
 |79=>some (.fn A.impl_lower)
 |80=>some (.fn A.impl_upper)
 |81=>some (.fn A.impl_wordByte)
 |82=>some (.fn A.impl_figure)
 |83=>some (.fn A.impl_SymbolByte)
 |84=>some (.prim ixbP)
 |85=>some (.fn A.impl_nextSign_1)
 |86=>some (.fn A.impl_parser_primary)
 |87=>some (.fn A.impl_InfixOf)
 |88=>some (.fn A.impl_structure)
 |89=>some (.fn A.impl_sized)
 |90=>some (.fn A.spec_l05Small)
 |91=>some (.fn A.spec_l05Great)
 |92=>some (.fn A.spec_l05Run)
 |93=>some (.fn A.spec_l05Figure)
 |94=>some (.fn A.spec_l05Quoted)
 |95=>some (.fn A.spec_l05End)
 |96=>some (.fn A.spec_SymbolByte)
 |97=>some (.fn A.spec_l06Read_primary)
 |98=>some (.fn A.spec_l06Read_infix)
 |99=>some (.fn A.spec_l03Two)
 |100=>some (.fn A.spec_l03Count)
 |101=>some (.fn A.spec_l03Right)
 |_=>none
def progA_2:Nat→Option AE
 |105=>some (.fn A.impl_PrefixOf)
 |106=>some (.fn A.impl_parser_mark)
 |107=>some (.fn A.impl_parser_terms)
 |108=>some (.fn A.impl_parser_isMark)
 |109=>some (.fn A.impl_atom)
 |110=>some (.fn A.impl_parser_listTerm)
 |111=>some (.fn A.impl_number)
 |112=>some (.fn A.impl_parser_variable)
 |113=>some (.fn A.impl_nameOk)
 |114=>some (.fn A.spec_l05Word)
 |115=>some (.fn A.spec_l03Name)
 |116=>some (.fn A.spec_l06Read_atom)
 |117=>some (.fn A.spec_l06Read_mark)
 |118=>some (.fn A.spec_l06Read_round)
 |119=>some (.fn A.spec_l06Read_row)
 |120=>some (.fn A.spec_l03Num)
 |121=>some (.fn A.spec_l06Read_variable)
 |122=>some (.fn A.spec_InfixOf)
 |123=>some (.fn A.spec_l03One)
 |125=>some (.fn A.impl_variable)
 |126=>some (.fn A.spec_l06Read_some)
 |127=>some (.fn A.spec_l06Read_near)
 |128=>some (.fn A.spec_PrefixOf)
 |129=>some (.fn A.spec_l03Atom)
 |130=>some (.fn A.spec_l06Read_wants)
 |131=>some (.fn A.spec_l03Var)
 |_=>none
def progA(n:Nat):Option AE:=
 match progA_0 n with
 |some e=>some e
 |none=>
 match progA_1 n with
 |some e=>some e
 |none=>
 progA_2 n
theorem pA_laws_FnExactIncludesIn:progA F.laws_FnExactIncludesIn=some (.fn A.laws_FnExactIncludesIn):=rfl
theorem pA_impl_IncludesIn:progA F.impl_IncludesIn=some (.fn A.impl_IncludesIn):=rfl
theorem pA_spec_IncludesIn:progA F.spec_IncludesIn=some (.fn A.spec_IncludesIn):=rfl
theorem pA_laws_eqStringS:progA F.laws_eqStringS=some (.fn A.laws_eqStringS):=rfl
theorem pA_laws_markStringS:progA F.laws_markStringS=some (.fn A.laws_markStringS):=rfl
theorem pA_laws_heldStringS:progA F.laws_heldStringS=some (.fn A.laws_heldStringS):=rfl
theorem pA_laws_szFileS:progA F.laws_szFileS=some (.fn A.laws_szFileS):=rfl
theorem pA_laws_toFileS:progA F.laws_toFileS=some (.fn A.laws_toFileS):=rfl
theorem pA_laws_eqFileS:progA F.laws_eqFileS=some (.fn A.laws_eqFileS):=rfl
theorem pA_slices_Contains_string_string:progA F.slices_Contains_string_string=some (.fn A.slices_Contains_string_string):=rfl
theorem pA_impl_ReadAll:progA F.impl_ReadAll=some (.fn A.impl_ReadAll):=rfl
theorem pA_impl_isStruct:progA F.impl_isStruct=some (.fn A.impl_isStruct):=rfl
theorem pA_impl_once:progA F.impl_once=some (.fn A.impl_once):=rfl
theorem pA_spec_ReadAll:progA F.spec_ReadAll=some (.fn A.spec_ReadAll):=rfl
theorem pA_spec_l03Is:progA F.spec_l03Is=some (.fn A.spec_l03Is):=rfl
theorem pA_spec_l23Add:progA F.spec_l23Add=some (.fn A.spec_l23Add):=rfl
theorem pA_laws_markText:progA F.laws_markText=some (.fn A.laws_markText):=rfl
theorem pA_laws_szFile:progA F.laws_szFile=some (.fn A.laws_szFile):=rfl
theorem pA_spec_l23Has:progA F.spec_l23Has=some (.fn A.spec_l23Has):=rfl
theorem pA_laws_toFile:progA F.laws_toFile=some (.fn A.laws_toFile):=rfl
theorem pA_laws_eqFile:progA F.laws_eqFile=some (.fn A.laws_eqFile):=rfl
theorem pA_slices_Index_string_string:progA F.slices_Index_string_string=some (.fn A.slices_Index_string_string):=rfl
theorem pA_impl_SignsOf:progA F.impl_SignsOf=some (.fn A.impl_SignsOf):=rfl
theorem pA_impl_ReadSigns:progA F.impl_ReadSigns=some (.fn A.impl_ReadSigns):=rfl
theorem pA_spec_SignsOf:progA F.spec_SignsOf=some (.fn A.spec_SignsOf):=rfl
theorem pA_spec_ReadSigns:progA F.spec_ReadSigns=some (.fn A.spec_ReadSigns):=rfl
theorem pA_impl_run:progA F.impl_run=some (.fn A.impl_run):=rfl
theorem pA_impl_SignsOf_1:progA F.impl_SignsOf_1=some (.fn A.impl_SignsOf_1):=rfl
theorem pA_impl_nextSign:progA F.impl_nextSign=some (.fn A.impl_nextSign):=rfl
theorem pA_impl_within:progA F.impl_within=some (.fn A.impl_within):=rfl
theorem pA_impl_parser_term:progA F.impl_parser_term=some (.fn A.impl_parser_term):=rfl
theorem pA_impl_parser_sign:progA F.impl_parser_sign=some (.fn A.impl_parser_sign):=rfl
theorem pA_impl_TermOk:progA F.impl_TermOk=some (.fn A.impl_TermOk):=rfl
theorem pA_spec_l05Blank:progA F.spec_l05Blank=some (.fn A.spec_l05Blank):=rfl
theorem pA_spec_l05Sign:progA F.spec_l05Sign=some (.fn A.spec_l05Sign):=rfl
theorem pA_spec_l06Behind:progA F.spec_l06Behind=some (.fn A.spec_l06Behind):=rfl
theorem pA_spec_l01In:progA F.spec_l01In=some (.fn A.spec_l01In):=rfl
theorem pA_spec_l06Read_term:progA F.spec_l06Read_term=some (.fn A.spec_l06Read_term):=rfl
theorem pA_spec_l06Read_is:progA F.spec_l06Read_is=some (.fn A.spec_l06Read_is):=rfl
theorem pA_spec_TermOk:progA F.spec_TermOk=some (.fn A.spec_TermOk):=rfl
theorem pA_impl_endsHere:progA F.impl_endsHere=some (.fn A.impl_endsHere):=rfl
theorem pA_impl_lower:progA F.impl_lower=some (.fn A.impl_lower):=rfl
theorem pA_impl_upper:progA F.impl_upper=some (.fn A.impl_upper):=rfl
theorem pA_impl_wordByte:progA F.impl_wordByte=some (.fn A.impl_wordByte):=rfl
theorem pA_impl_figure:progA F.impl_figure=some (.fn A.impl_figure):=rfl
theorem pA_impl_SymbolByte:progA F.impl_SymbolByte=some (.fn A.impl_SymbolByte):=rfl
theorem pA_impl_nextSign_1:progA F.impl_nextSign_1=some (.fn A.impl_nextSign_1):=rfl
theorem pA_impl_parser_primary:progA F.impl_parser_primary=some (.fn A.impl_parser_primary):=rfl
theorem pA_impl_InfixOf:progA F.impl_InfixOf=some (.fn A.impl_InfixOf):=rfl
theorem pA_impl_structure:progA F.impl_structure=some (.fn A.impl_structure):=rfl
theorem pA_impl_sized:progA F.impl_sized=some (.fn A.impl_sized):=rfl
theorem pA_spec_l05Small:progA F.spec_l05Small=some (.fn A.spec_l05Small):=rfl
theorem pA_spec_l05Great:progA F.spec_l05Great=some (.fn A.spec_l05Great):=rfl
theorem pA_spec_l05Run:progA F.spec_l05Run=some (.fn A.spec_l05Run):=rfl
theorem pA_spec_l05Figure:progA F.spec_l05Figure=some (.fn A.spec_l05Figure):=rfl
theorem pA_spec_l05Quoted:progA F.spec_l05Quoted=some (.fn A.spec_l05Quoted):=rfl
theorem pA_spec_l05End:progA F.spec_l05End=some (.fn A.spec_l05End):=rfl
theorem pA_spec_SymbolByte:progA F.spec_SymbolByte=some (.fn A.spec_SymbolByte):=rfl
theorem pA_spec_l06Read_primary:progA F.spec_l06Read_primary=some (.fn A.spec_l06Read_primary):=rfl
theorem pA_spec_l06Read_infix:progA F.spec_l06Read_infix=some (.fn A.spec_l06Read_infix):=rfl
theorem pA_spec_l03Two:progA F.spec_l03Two=some (.fn A.spec_l03Two):=rfl
theorem pA_spec_l03Count:progA F.spec_l03Count=some (.fn A.spec_l03Count):=rfl
theorem pA_spec_l03Right:progA F.spec_l03Right=some (.fn A.spec_l03Right):=rfl
theorem pA_impl_PrefixOf:progA F.impl_PrefixOf=some (.fn A.impl_PrefixOf):=rfl
theorem pA_impl_parser_mark:progA F.impl_parser_mark=some (.fn A.impl_parser_mark):=rfl
theorem pA_impl_parser_terms:progA F.impl_parser_terms=some (.fn A.impl_parser_terms):=rfl
theorem pA_impl_parser_isMark:progA F.impl_parser_isMark=some (.fn A.impl_parser_isMark):=rfl
theorem pA_impl_atom:progA F.impl_atom=some (.fn A.impl_atom):=rfl
theorem pA_impl_parser_listTerm:progA F.impl_parser_listTerm=some (.fn A.impl_parser_listTerm):=rfl
theorem pA_impl_number:progA F.impl_number=some (.fn A.impl_number):=rfl
theorem pA_impl_parser_variable:progA F.impl_parser_variable=some (.fn A.impl_parser_variable):=rfl
theorem pA_impl_nameOk:progA F.impl_nameOk=some (.fn A.impl_nameOk):=rfl
theorem pA_spec_l05Word:progA F.spec_l05Word=some (.fn A.spec_l05Word):=rfl
theorem pA_spec_l03Name:progA F.spec_l03Name=some (.fn A.spec_l03Name):=rfl
theorem pA_spec_l06Read_atom:progA F.spec_l06Read_atom=some (.fn A.spec_l06Read_atom):=rfl
theorem pA_spec_l06Read_mark:progA F.spec_l06Read_mark=some (.fn A.spec_l06Read_mark):=rfl
theorem pA_spec_l06Read_round:progA F.spec_l06Read_round=some (.fn A.spec_l06Read_round):=rfl
theorem pA_spec_l06Read_row:progA F.spec_l06Read_row=some (.fn A.spec_l06Read_row):=rfl
theorem pA_spec_l03Num:progA F.spec_l03Num=some (.fn A.spec_l03Num):=rfl
theorem pA_spec_l06Read_variable:progA F.spec_l06Read_variable=some (.fn A.spec_l06Read_variable):=rfl
theorem pA_spec_InfixOf:progA F.spec_InfixOf=some (.fn A.spec_InfixOf):=rfl
theorem pA_spec_l03One:progA F.spec_l03One=some (.fn A.spec_l03One):=rfl
theorem pA_impl_variable:progA F.impl_variable=some (.fn A.impl_variable):=rfl
theorem pA_spec_l06Read_some:progA F.spec_l06Read_some=some (.fn A.spec_l06Read_some):=rfl
theorem pA_spec_l06Read_near:progA F.spec_l06Read_near=some (.fn A.spec_l06Read_near):=rfl
theorem pA_spec_PrefixOf:progA F.spec_PrefixOf=some (.fn A.spec_PrefixOf):=rfl
theorem pA_spec_l03Atom:progA F.spec_l03Atom=some (.fn A.spec_l03Atom):=rfl
theorem pA_spec_l06Read_wants:progA F.spec_l06Read_wants=some (.fn A.spec_l06Read_wants):=rfl
theorem pA_spec_l03Var:progA F.spec_l03Var=some (.fn A.spec_l03Var):=rfl
theorem pA_strings_IndexByte:progA F.strings_IndexByte=some (.prim ixbP):=rfl
end Go.Vm
