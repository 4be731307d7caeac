import Derived.Test.YtbbcakmmbnikjaaGreatDoorT03

set_option autoImplicit false
set_option maxRecDepth 100000
namespace Go.Vm
abbrev F.main_main : Nat := 0
abbrev F.gosem_cut : Nat := 1
abbrev F.gosem_cut_init : Nat := 2
abbrev F.laws_FnExactShowDb : Nat := 3
abbrev F.laws_FnExactPlainClause : Nat := 4
abbrev F.laws_FnExactShowOutcome : Nat := 5
abbrev F.laws_FnExactPlainText : Nat := 6
abbrev F.laws_FnExactUnfoldsIn : Nat := 7
abbrev F.laws_FnExactUnfoldAt : Nat := 8
abbrev F.laws_szDb : Nat := 9
abbrev F.spec_ShowDb : Nat := 10
abbrev F.laws_toDb : Nat := 11
abbrev F.impl_ShowDb : Nat := 12
abbrev F.laws_eqDb : Nat := 13
abbrev F.laws_szClause : Nat := 14
abbrev F.spec_PlainClause : Nat := 15
abbrev F.laws_toClause : Nat := 16
abbrev F.impl_PlainClause : Nat := 17
abbrev F.laws_eqClause : Nat := 18
abbrev F.laws_szOutcome : Nat := 19
abbrev F.spec_ShowOutcome : Nat := 20
abbrev F.laws_toOutcome : Nat := 21
abbrev F.impl_ShowOutcome : Nat := 22
abbrev F.laws_eqOutcome : Nat := 23
abbrev F.spec_PlainText : Nat := 24
abbrev F.impl_PlainText : Nat := 25
abbrev F.spec_UnfoldsIn : Nat := 26
abbrev F.impl_UnfoldsIn : Nat := 27
abbrev F.spec_UnfoldAt : Nat := 28
abbrev F.impl_UnfoldAt : Nat := 29
abbrev F.laws_markDb : Nat := 30
abbrev F.laws_heldDb : Nat := 31
abbrev F.laws_szClauseS : Nat := 32
abbrev F.laws_szStringS : Nat := 33
abbrev F.spec_ShowClause : Nat := 34
abbrev F.laws_toClauseS : Nat := 35
abbrev F.laws_toStringS : Nat := 36
abbrev F.impl_ShowClause : Nat := 37
abbrev F.laws_eqClauseS : Nat := 38
abbrev F.laws_eqStringS : Nat := 39
abbrev F.laws_szTerm : Nat := 40
abbrev F.spec_TermOk : Nat := 41
abbrev F.spec_PrioOf : Nat := 42
abbrev F.spec_WritePlain : Nat := 43
abbrev F.spec_ClauseTerm : Nat := 44
abbrev F.spec_l28Write : Nat := 45
abbrev F.spec_l27True : Nat := 46
abbrev F.spec_l03Is : Nat := 47
abbrev F.spec_l28Held : Nat := 48
abbrev F.laws_toTerm : Nat := 49
abbrev F.impl_TermOk : Nat := 50
abbrev F.impl_PrioOf : Nat := 51
abbrev F.impl_WritePlain : Nat := 52
abbrev F.impl_ClauseTerm : Nat := 53
abbrev F.impl_isAtom : Nat := 54
abbrev F.impl_isStruct : Nat := 55
abbrev F.impl_bracketed : Nat := 56
abbrev F.laws_eqTerm : Nat := 57
abbrev F.laws_szTermS : Nat := 58
abbrev F.spec_l31Lines : Nat := 59
abbrev F.spec_l19Lines : Nat := 60
abbrev F.laws_toTermS : Nat := 61
abbrev F.impl_inLines : Nat := 62
abbrev F.impl_outcomeLines : Nat := 63
abbrev F.laws_eqTermS : Nat := 64
abbrev F.spec_l27UnfoldAtRaw : Nat := 65
abbrev F.spec_l34Db : Nat := 66
abbrev F.impl_PlainDb : Nat := 67
abbrev F.impl_within : Nat := 68
abbrev F.impl_copyDb : Nat := 69
abbrev F.impl_FirstGoal : Nat := 70
abbrev F.impl_PredOf : Nat := 71
abbrev F.impl_ClausesOf : Nat := 72
abbrev F.impl_ResolvedWith : Nat := 73
abbrev F.slices_Replace_impl_Clause_impl_Clause : Nat := 74
abbrev F.impl_DbOk : Nat := 75
abbrev F.laws_markClauseS : Nat := 76
abbrev F.laws_markStringS : Nat := 77
abbrev F.laws_heldClauseS : Nat := 78
abbrev F.laws_heldStringS : Nat := 79
abbrev F.spec_WriteTerm : Nat := 80
abbrev F.impl_WriteTerm : Nat := 81
abbrev F.spec_l03Count : Nat := 82
abbrev F.spec_l03Right : Nat := 83
abbrev F.spec_InfixOf : Nat := 84
abbrev F.spec_l08ClauseTermRaw : Nat := 85
abbrev F.spec_l34Term : Nat := 86
abbrev F.spec_l07Write : Nat := 87
abbrev F.spec_l28Row : Nat := 88
abbrev F.spec_AtomText : Nat := 89
abbrev F.impl_sized : Nat := 90
abbrev F.impl_isInfix : Nat := 91
abbrev F.impl_InfixOf : Nat := 92
abbrev F.impl_plain : Nat := 93
abbrev F.impl_structure : Nat := 94
abbrev F.impl_copyTerm : Nat := 95
abbrev F.spec_l08Copy : Nat := 96
abbrev F.spec_l01In : Nat := 97
abbrev F.spec_PlainDb : Nat := 98
abbrev F.spec_FirstGoal : Nat := 99
abbrev F.spec_PredOf : Nat := 100
abbrev F.spec_ClausesOf : Nat := 101
abbrev F.spec_ResolvedWith : Nat := 102
abbrev F.spec_DbOk : Nat := 103
abbrev F.spec_l34Clauses : Nat := 104
abbrev F.spec_l34Strings : Nat := 105
abbrev F.impl_GoalsIn : Nat := 106
abbrev F.impl_copyClauses : Nat := 107
abbrev F.impl_conjunction : Nat := 108
abbrev F.impl_Decimal : Nat := 109
abbrev F.impl_copyClause : Nat := 110
abbrev F.impl_varsUpTo : Nat := 111
abbrev F.impl_Unify : Nat := 112
abbrev F.impl_BindsNew : Nat := 113
abbrev F.impl_Shifted : Nat := 114
abbrev F.impl_Filled : Nat := 115
abbrev F.impl_headOk : Nat := 116
abbrev F.impl_NeatClause : Nat := 117
abbrev F.slices_Insert_impl_Clause_impl_Clause : Nat := 118
abbrev F.slices_overlaps_impl_Clause : Nat := 119
abbrev F.slices_rotateRight_impl_Clause : Nat := 120
abbrev F.slices_startIdx_impl_Clause : Nat := 121
abbrev F.laws_markText : Nat := 122
abbrev F.laws_markTermS : Nat := 123
abbrev F.laws_heldTermS : Nat := 124
abbrev F.impl_write : Nat := 125
abbrev F.spec_l03One : Nat := 126
abbrev F.spec_l03Two : Nat := 127
abbrev F.spec_l34Terms : Nat := 128
abbrev F.spec_Decimal : Nat := 129
abbrev F.spec_l07Op : Nat := 130
abbrev F.spec_l07Row : Nat := 131
abbrev F.spec_SignsOf : Nat := 132
abbrev F.impl_nameOk : Nat := 133
abbrev F.impl_writeWith : Nat := 134
abbrev F.impl_plain_1 : Nat := 135
abbrev F.impl_plain_2 : Nat := 136
abbrev F.impl_signText : Nat := 137
abbrev F.impl_renamed : Nat := 138
abbrev F.impl_copyTerm_1 : Nat := 139
abbrev F.spec_GoalsIn : Nat := 140
abbrev F.spec_l27FirstGoalRaw : Nat := 141
abbrev F.spec_l08ClausesOfRaw : Nat := 142
abbrev F.spec_l08Clause : Nat := 143
abbrev F.spec_l11Many : Nat := 144
abbrev F.spec_l04Unify : Nat := 145
abbrev F.spec_l03Shift : Nat := 146
abbrev F.spec_l04Filled : Nat := 147
abbrev F.spec_NeatClause : Nat := 148
abbrev F.spec_l34Clause : Nat := 149
abbrev F.impl_Control : Nat := 150
abbrev F.impl_atom : Nat := 151
abbrev F.strconv_Itoa : Nat := 152
abbrev F.impl_copyTerms : Nat := 153
abbrev F.impl_unifier_unify : Nat := 154
abbrev F.impl_VarsOf : Nat := 155
abbrev F.impl_Shifted_1 : Nat := 156
abbrev F.impl_filled : Nat := 157
abbrev F.impl_fresh : Nat := 158
abbrev F.slices_rotateLeft_impl_Clause : Nat := 159
abbrev F.impl_write_1 : Nat := 160
abbrev F.spec_l03Name : Nat := 161
abbrev F.spec_l01Figure : Nat := 162
abbrev F.spec_PrefixOf : Nat := 163
abbrev F.spec_l05Blank : Nat := 164
abbrev F.spec_l05Sign : Nat := 165
abbrev F.impl_isOp : Nat := 166
abbrev F.impl_AtomText : Nat := 167
abbrev F.impl_isPair : Nat := 168
abbrev F.strings_Join : Nat := 169
abbrev F.spec_l25GoalsInRaw : Nat := 170
abbrev F.spec_l25Conj : Nat := 171
abbrev F.spec_l08Head : Nat := 172
abbrev F.spec_VarsOf : Nat := 173
abbrev F.spec_l04Uni_same : Nat := 174
abbrev F.spec_l04Fill_fill : Nat := 175
abbrev F.spec_l11Named : Nat := 176
abbrev F.slices_Contains_string_string : Nat := 177
abbrev F.internal_strconv_Itoa : Nat := 178
abbrev F.impl_walked : Nat := 179
abbrev F.impl_unifier_bind : Nat := 180
abbrev F.impl_addVars : Nat := 181
abbrev F.impl_fill : Nat := 182
abbrev F.impl_fresh_1 : Nat := 183
abbrev F.slices_Index_int_int : Nat := 184
abbrev F.slices_Reverse_impl_Clause_impl_Clause : Nat := 185
abbrev F.spec_l05Small : Nat := 186
abbrev F.spec_l05Great : Nat := 187
abbrev F.spec_l05Run : Nat := 188
abbrev F.spec_l05Figure : Nat := 189
abbrev F.spec_l05Quoted : Nat := 190
abbrev F.spec_l05End : Nat := 191
abbrev F.spec_SymbolByte : Nat := 192
abbrev F.impl_PrefixOf : Nat := 193
abbrev F.impl_SignsOf : Nat := 194
abbrev F.strings_Builder_Grow : Nat := 195
abbrev F.strings_Builder_WriteString : Nat := 196
abbrev F.strings_Builder_String : Nat := 197
abbrev F.spec_l25Goals : Nat := 198
abbrev F.spec_l03Atom : Nat := 199
abbrev F.spec_Control : Nat := 200
abbrev F.spec_l03Vars : Nat := 201
abbrev F.spec_l04Walk : Nat := 202
abbrev F.spec_l04Uni_link : Nat := 203
abbrev F.spec_l04Uni_bind : Nat := 204
abbrev F.spec_l03At : Nat := 205
abbrev F.slices_Index_string_string : Nat := 206
abbrev F.internal_strconv_FormatInt : Nat := 207
abbrev F.impl_has : Nat := 208
abbrev F.slices_Contains_int_int : Nat := 209
abbrev F.spec_l05Word : Nat := 210
abbrev F.impl_run : Nat := 211
abbrev F.impl_SignsOf_1 : Nat := 212
abbrev F.impl_nextSign : Nat := 213
abbrev F.strings_Builder_copyCheck : Nat := 214
abbrev F.strings_Builder_grow : Nat := 215
abbrev F.spec_l03Has : Nat := 216
abbrev F.internal_strconv_small : Nat := 217
abbrev F.internal_strconv_numDigits : Nat := 218
abbrev F.internal_strconv_formatBase10 : Nat := 219
abbrev F.internal_strconv_formatBits : Nat := 220
abbrev F.slices_ContainsFunc_impl_Term_impl_Term : Nat := 221
abbrev F.impl_has_1 : Nat := 222
abbrev F.impl_endsHere : Nat := 223
abbrev F.impl_lower : Nat := 224
abbrev F.impl_upper : Nat := 225
abbrev F.impl_wordByte : Nat := 226
abbrev F.impl_figure : Nat := 227
abbrev F.impl_SymbolByte : Nat := 228
abbrev F.strings_IndexByte : Nat := 229
abbrev F.impl_nextSign_1 : Nat := 230
abbrev F.internal_abi_NoEscape : Nat := 231
abbrev F.internal_bytealg_MakeNoZero : Nat := 232
abbrev F.internal_strconv_log10Pow2 : Nat := 233
abbrev F.math_bits_Len64 : Nat := 234
abbrev F.internal_strconv_bool2_int : Nat := 235
abbrev F.internal_strconv_isPowerOfTwo : Nat := 236
abbrev F.math_bits_TrailingZeros : Nat := 237
abbrev F.slices_IndexFunc_impl_Term_impl_Term : Nat := 238
abbrev F.internal_stringslite_IndexByte : Nat := 239
abbrev F.math_bits_TrailingZeros32 : Nat := 240
abbrev F.math_bits_TrailingZeros64 : Nat := 241
abbrev F.internal_bytealg_IndexByteString : Nat := 242
abbrev F.runtime_boundsError_Error : Nat := 243
abbrev F.runtime_boundsError_RuntimeError : Nat := 244
abbrev F.runtime_errorString_Error : Nat := 245
abbrev F.runtime_errorString_RuntimeError : Nat := 246
abbrev F.runtime_plainError_Error : Nat := 247
abbrev F.runtime_plainError_RuntimeError : Nat := 248
abbrev F.runtime_errorAddressString_Error : Nat := 249
abbrev F.runtime_errorAddressString_RuntimeError : Nat := 250
abbrev F.runtime_TypeAssertionError_Error : Nat := 251
abbrev F.runtime_TypeAssertionError_RuntimeError : Nat := 252
abbrev F.runtime_PanicNilError_Error : Nat := 253
abbrev F.runtime_PanicNilError_RuntimeError : Nat := 254
abbrev F.internal_abi_Type_Align : Nat := 255
abbrev F.internal_runtime_maps_unhashableTypeError_Error : Nat := 256
abbrev F.internal_runtime_maps_unhashableTypeError_RuntimeError : Nat := 257
abbrev F.strings_Builder_Reset : Nat := 258
abbrev F.internal_abi_Kind_String : Nat := 259
abbrev F.var_s_door_gosem_cut_vars_holds_initialisers_alone_see_the_manifest_s_row_cutvarsword_look_11_test_files_too : Nat := 260
abbrev F.var_s_door_internal_strconv_uint64pow10_is_laid_by_its_own_initialiser_plain_data_look_11 : Nat := 261
abbrev F.var_s_door_math_bits_deBruijn32tab_is_laid_by_its_own_initialiser_plain_data_look_11 : Nat := 262
abbrev F.var_s_door_math_bits_deBruijn64tab_is_laid_by_its_own_initialiser_plain_data_look_11 : Nat := 263
abbrev F.var_s_door_the_look_of_gosem_cut_vars_went_over_the_folder_that_the_caller_named_as_the_repository_s_root_look_11 : Nat := 264
abbrev F.gosem_cut_vars : Nat := 265
def C.laws_FnExactShowDb_0 : AC :=
  (.keep []
          (.seq
           (.reg [.mv 2 (.c (B true))])
          (.keep [2]
           .ret)))
def C.laws_FnExactShowDb_1 : AC :=
  (.keep [1, 4, 5]
        (.seq
         (.reg [.ld 17 true 2 (.t 5),
           .call (some 18) (.c (Fc F.impl_ShowDb)) [(.t 17)] (.ro true),
           .mv 6 (.t 18)])
        (.seq
         (.seq
          (.reg [.mv 19 (.t 6),
            .mv 20 (.t 4),
            .bin 21 .neq (.t 19) (.t 20)])
         (.cond (.t 21)
          (.seq
           (.reg [.mv 2 (.c (B false))])
          (.keep [2]
           .ret))
          .skip))
        (.keep [1, 5]
         (.seq
          (.seq
           (.dreg [⟨0, [(0, 0), (0, 1), (0, 2), (0, 3), (1, 0), (5, 0), (15, 0), (16, 0), (16, 1), (16, 2), (16, 3)]⟩, ⟨0, [(0, 0), (0, 1), (0, 2), (0, 3), (1, 0)]⟩, ⟨2, [(0, 0), (0, 1), (0, 2), (0, 3), (1, 0), (23, 0)]⟩, ⟨2, [(0, 0), (0, 1), (0, 2), (0, 3), (1, 0), (5, 0), (15, 0), (16, 0), (16, 1), (16, 2), (16, 3), (22, 0), (23, 0), (24, 0), (24, 1), (24, 2), (24, 3)]⟩, ⟨0, []⟩]
            [.ldq 22 true 2 (.t 5),
             .ldq 23 true 2 (.t 1),
             .call (some 24) (.c (Fc F.laws_toDb)) [(.t 23)] (.ro true),
             .call (some 25) (.c (Fc F.laws_eqDb)) [(.t 22), (.t 24)] (.ro true),
             .un 26 .not (.t 25)])
          (.keep [26]
           (.cond (.t 26)
            (.seq
             (.reg [.mv 2 (.c (B false))])
            (.keep [2]
             .ret))
            .skip)))
         C.laws_FnExactShowDb_0)))))
def C.laws_FnExactShowDb_2 : AC :=
  (.keep [1, 3]
     (.seq
      (.seq
       (.reg [.mv 10 (.t 3),
         .bin 11 .lss (.t 10) (.c (I 0))])
      (.cond (.t 11)
       (.seq
        (.reg [.mv 2 (.c (B true))])
       (.keep [2]
        .ret))
       .skip))
     (.keep [1]
      (.seq
       (.reg [.ld 12 true 2 (.t 1),
         .call (some 13) (.c (Fc F.laws_toDb)) [(.t 12)] (.ro true),
         .call (some 14) (.c (Fc F.spec_ShowDb)) [(.t 13)] (.ro true),
         .mv 4 (.t 14)])
      (.keep [1, 4]
       (.seq
        (.reg [.ld 15 true 2 (.t 1),
          .call (some 16) (.c (Fc F.laws_toDb)) [(.t 15)] (.ro true),
          .new 5 (.c (.a [(.n 9), (.n 1)])),
          .st 2 (.t 5) (.t 16)])
       C.laws_FnExactShowDb_1))))))
def A.laws_FnExactShowDb : AF where
  nargs := 1
  ntmps := 27
  res := [.tmp 2]
  body :=
    (.seq
     (.reg [.new 1 (.t 0),
       .mv 2 (.c (B false))])
    (.seq
     (.reg [.mv 3 (.c (I 1048576))])
    (.seq
     (.reg [.ld 7 true 2 (.t 1),
       .mv 8 (.t 3),
       .call (some 9) (.c (Fc F.laws_szDb)) [(.t 7), (.t 8)] (.ro true),
       .mv 3 (.t 9)])
    C.laws_FnExactShowDb_2)))
def C.laws_FnExactPlainClause_0 : AC :=
  (.keep []
          (.seq
           (.reg [.mv 2 (.c (B true))])
          (.keep [2]
           .ret)))
def C.laws_FnExactPlainClause_1 : AC :=
  (.keep [1, 4, 5]
        (.seq
         (.reg [.ld 17 true 9 (.t 5),
           .call (some 18) (.c (Fc F.impl_PlainClause)) [(.t 17)] (.ro true),
           .mv 6 (.t 18)])
        (.seq
         (.seq
          (.reg [.mv 19 (.t 6),
            .mv 20 (.t 4),
            .bin 21 .neq (.t 19) (.t 20)])
         (.cond (.t 21)
          (.seq
           (.reg [.mv 2 (.c (B false))])
          (.keep [2]
           .ret))
          .skip))
        (.keep [1, 5]
         (.seq
          (.seq
           (.dreg [⟨0, [(0, 0), (0, 1), (0, 2), (0, 3), (1, 0), (5, 0), (15, 0), (16, 0), (16, 1), (16, 2), (16, 3)]⟩, ⟨0, [(0, 0), (0, 1), (0, 2), (0, 3), (1, 0)]⟩, ⟨2, [(0, 0), (0, 1), (0, 2), (0, 3), (1, 0), (23, 0)]⟩, ⟨2, [(0, 0), (0, 1), (0, 2), (0, 3), (1, 0), (5, 0), (15, 0), (16, 0), (16, 1), (16, 2), (16, 3), (22, 0), (23, 0), (24, 0), (24, 1), (24, 2), (24, 3)]⟩, ⟨0, []⟩]
            [.ldq 22 true 9 (.t 5),
             .ldq 23 true 9 (.t 1),
             .call (some 24) (.c (Fc F.laws_toClause)) [(.t 23)] (.ro true),
             .call (some 25) (.c (Fc F.laws_eqClause)) [(.t 22), (.t 24)] (.ro true),
             .un 26 .not (.t 25)])
          (.keep [26]
           (.cond (.t 26)
            (.seq
             (.reg [.mv 2 (.c (B false))])
            (.keep [2]
             .ret))
            .skip)))
         C.laws_FnExactPlainClause_0)))))
def C.laws_FnExactPlainClause_2 : AC :=
  (.keep [1, 3]
     (.seq
      (.seq
       (.reg [.mv 10 (.t 3),
         .bin 11 .lss (.t 10) (.c (I 0))])
      (.cond (.t 11)
       (.seq
        (.reg [.mv 2 (.c (B true))])
       (.keep [2]
        .ret))
       .skip))
     (.keep [1]
      (.seq
       (.reg [.ld 12 true 9 (.t 1),
         .call (some 13) (.c (Fc F.laws_toClause)) [(.t 12)] (.ro true),
         .call (some 14) (.c (Fc F.spec_PlainClause)) [(.t 13)] (.ro true),
         .mv 4 (.t 14)])
      (.keep [1, 4]
       (.seq
        (.reg [.ld 15 true 9 (.t 1),
          .call (some 16) (.c (Fc F.laws_toClause)) [(.t 15)] (.ro true),
          .new 5 (.c (.a [(I 0), (S []), (I 0), (.n 4), (I 0), (S []), (I 0), (.n 4), (S [])])),
          .st 9 (.t 5) (.t 16)])
       C.laws_FnExactPlainClause_1))))))
def A.laws_FnExactPlainClause : AF where
  nargs := 1
  ntmps := 27
  res := [.tmp 2]
  body :=
    (.seq
     (.reg [.new 1 (.t 0),
       .mv 2 (.c (B false))])
    (.seq
     (.reg [.mv 3 (.c (I 1048576))])
    (.seq
     (.reg [.ld 7 true 9 (.t 1),
       .mv 8 (.t 3),
       .call (some 9) (.c (Fc F.laws_szClause)) [(.t 7), (.t 8)] (.ro true),
       .mv 3 (.t 9)])
    C.laws_FnExactPlainClause_2)))
def C.laws_FnExactShowOutcome_0 : AC :=
  (.keep []
          (.seq
           (.reg [.mv 2 (.c (B true))])
          (.keep [2]
           .ret)))
def C.laws_FnExactShowOutcome_1 : AC :=
  (.keep [1, 4, 5]
        (.seq
         (.reg [.ld 17 true 10 (.t 5),
           .call (some 18) (.c (Fc F.impl_ShowOutcome)) [(.t 17)] (.ro true),
           .mv 6 (.t 18)])
        (.seq
         (.seq
          (.reg [.mv 19 (.t 6),
            .mv 20 (.t 4),
            .bin 21 .neq (.t 19) (.t 20)])
         (.cond (.t 21)
          (.seq
           (.reg [.mv 2 (.c (B false))])
          (.keep [2]
           .ret))
          .skip))
        (.keep [1, 5]
         (.seq
          (.seq
           (.dreg [⟨0, [(0, 0), (0, 1), (0, 2), (0, 3), (1, 0), (5, 0), (15, 0), (16, 0), (16, 1), (16, 2), (16, 3)]⟩, ⟨0, [(0, 0), (0, 1), (0, 2), (0, 3), (1, 0)]⟩, ⟨2, [(0, 0), (0, 1), (0, 2), (0, 3), (1, 0), (23, 0)]⟩, ⟨2, [(0, 0), (0, 1), (0, 2), (0, 3), (1, 0), (5, 0), (15, 0), (16, 0), (16, 1), (16, 2), (16, 3), (22, 0), (23, 0), (24, 0), (24, 1), (24, 2), (24, 3)]⟩, ⟨0, []⟩]
            [.ldq 22 true 10 (.t 5),
             .ldq 23 true 10 (.t 1),
             .call (some 24) (.c (Fc F.laws_toOutcome)) [(.t 23)] (.ro true),
             .call (some 25) (.c (Fc F.laws_eqOutcome)) [(.t 22), (.t 24)] (.ro true),
             .un 26 .not (.t 25)])
          (.keep [26]
           (.cond (.t 26)
            (.seq
             (.reg [.mv 2 (.c (B false))])
            (.keep [2]
             .ret))
            .skip)))
         C.laws_FnExactShowOutcome_0)))))
def C.laws_FnExactShowOutcome_2 : AC :=
  (.keep [1, 3]
     (.seq
      (.seq
       (.reg [.mv 10 (.t 3),
         .bin 11 .lss (.t 10) (.c (I 0))])
      (.cond (.t 11)
       (.seq
        (.reg [.mv 2 (.c (B true))])
       (.keep [2]
        .ret))
       .skip))
     (.keep [1]
      (.seq
       (.reg [.ld 12 true 10 (.t 1),
         .call (some 13) (.c (Fc F.laws_toOutcome)) [(.t 12)] (.ro true),
         .call (some 14) (.c (Fc F.spec_ShowOutcome)) [(.t 13)] (.ro true),
         .mv 4 (.t 14)])
      (.keep [1, 4]
       (.seq
        (.reg [.ld 15 true 10 (.t 1),
          .call (some 16) (.c (Fc F.laws_toOutcome)) [(.t 15)] (.ro true),
          .new 5 (.c (.a [(.n 4), (I 0), (I 0), (S []), (I 0), (.n 4), (S []), (.n 9), (.n 1), (I 0)])),
          .st 10 (.t 5) (.t 16)])
       C.laws_FnExactShowOutcome_1))))))
def A.laws_FnExactShowOutcome : AF where
  nargs := 1
  ntmps := 27
  res := [.tmp 2]
  body :=
    (.seq
     (.reg [.new 1 (.t 0),
       .mv 2 (.c (B false))])
    (.seq
     (.reg [.mv 3 (.c (I 1048576))])
    (.seq
     (.reg [.ld 7 true 10 (.t 1),
       .mv 8 (.t 3),
       .call (some 9) (.c (Fc F.laws_szOutcome)) [(.t 7), (.t 8)] (.ro true),
       .mv 3 (.t 9)])
    C.laws_FnExactShowOutcome_2)))
def C.laws_FnExactPlainText_0 : AC :=
  (.keep []
          (.seq
           (.reg [.mv 2 (.c (B true))])
          (.keep [2]
           .ret)))
def C.laws_FnExactPlainText_1 : AC :=
  (.keep [1, 4, 5]
        (.seq
         (.reg [.ld 17 true 2 (.t 5),
           .call (some 18) (.c (Fc F.impl_PlainText)) [(.t 17)] (.ro true),
           .mv 6 (.t 18)])
        (.seq
         (.seq
          (.reg [.mv 19 (.t 6),
            .mv 20 (.t 4),
            .bin 21 .neq (.t 19) (.t 20)])
         (.cond (.t 21)
          (.seq
           (.reg [.mv 2 (.c (B false))])
          (.keep [2]
           .ret))
          .skip))
        (.keep [1, 5]
         (.seq
          (.seq
           (.dreg [⟨0, [(0, 0), (0, 1), (0, 2), (0, 3), (1, 0), (5, 0), (15, 0), (16, 0), (16, 1), (16, 2), (16, 3)]⟩, ⟨0, [(0, 0), (0, 1), (0, 2), (0, 3), (1, 0)]⟩, ⟨2, [(0, 0), (0, 1), (0, 2), (0, 3), (1, 0), (23, 0)]⟩, ⟨2, [(0, 0), (0, 1), (0, 2), (0, 3), (1, 0), (5, 0), (15, 0), (16, 0), (16, 1), (16, 2), (16, 3), (22, 0), (23, 0), (24, 0), (24, 1), (24, 2), (24, 3)]⟩, ⟨0, []⟩]
            [.ldq 22 true 2 (.t 5),
             .ldq 23 true 2 (.t 1),
             .call (some 24) (.c (Fc F.laws_toDb)) [(.t 23)] (.ro true),
             .call (some 25) (.c (Fc F.laws_eqDb)) [(.t 22), (.t 24)] (.ro true),
             .un 26 .not (.t 25)])
          (.keep [26]
           (.cond (.t 26)
            (.seq
             (.reg [.mv 2 (.c (B false))])
            (.keep [2]
             .ret))
            .skip)))
         C.laws_FnExactPlainText_0)))))
def C.laws_FnExactPlainText_2 : AC :=
  (.keep [1, 3]
     (.seq
      (.seq
       (.reg [.mv 10 (.t 3),
         .bin 11 .lss (.t 10) (.c (I 0))])
      (.cond (.t 11)
       (.seq
        (.reg [.mv 2 (.c (B true))])
       (.keep [2]
        .ret))
       .skip))
     (.keep [1]
      (.seq
       (.reg [.ld 12 true 2 (.t 1),
         .call (some 13) (.c (Fc F.laws_toDb)) [(.t 12)] (.ro true),
         .call (some 14) (.c (Fc F.spec_PlainText)) [(.t 13)] (.ro true),
         .mv 4 (.t 14)])
      (.keep [1, 4]
       (.seq
        (.reg [.ld 15 true 2 (.t 1),
          .call (some 16) (.c (Fc F.laws_toDb)) [(.t 15)] (.ro true),
          .new 5 (.c (.a [(.n 9), (.n 1)])),
          .st 2 (.t 5) (.t 16)])
       C.laws_FnExactPlainText_1))))))
def A.laws_FnExactPlainText : AF where
  nargs := 1
  ntmps := 27
  res := [.tmp 2]
  body :=
    (.seq
     (.reg [.new 1 (.t 0),
       .mv 2 (.c (B false))])
    (.seq
     (.reg [.mv 3 (.c (I 1048576))])
    (.seq
     (.reg [.ld 7 true 2 (.t 1),
       .mv 8 (.t 3),
       .call (some 9) (.c (Fc F.laws_szDb)) [(.t 7), (.t 8)] (.ro true),
       .mv 3 (.t 9)])
    C.laws_FnExactPlainText_2)))
def A.laws_szDb : AF where
  nargs := 2
  ntmps := 18
  res := [.tmp 4]
  body :=
    (.seq
     (.reg [.new 2 (.t 0),
       .mv 4 (.c (I 0))])
    (.seq
     (.reg [.fa 5 (.t 2) 0,
       .ld 6 false 1 (.t 5),
       .mv 7 (.t 1),
       .call (some 8) (.c (Fc F.laws_szClauseS)) [(.t 6), (.t 7)] (.ro false),
       .mv 1 (.t 8)])
    (.keep [1, 2]
     (.seq
      (.seq
       (.reg [.mv 9 (.t 1),
         .bin 10 .lss (.t 9) (.c (I 0))])
      (.cond (.t 10)
       (.seq
        (.reg [.mv 4 (.c (I (-1)))])
       (.keep [4]
        .ret))
       .skip))
     (.keep [1, 2]
      (.seq
       (.reg [.fa 11 (.t 2) 1,
         .ld 12 false 1 (.t 11),
         .mv 13 (.t 1),
         .call (some 14) (.c (Fc F.laws_szStringS)) [(.t 12), (.t 13)] (.ro false),
         .mv 1 (.t 14)])
      (.keep [1]
       (.seq
        (.seq
         (.reg [.mv 15 (.t 1),
           .bin 16 .lss (.t 15) (.c (I 0))])
        (.cond (.t 16)
         (.seq
          (.reg [.mv 4 (.c (I (-1)))])
         (.keep [4]
          .ret))
         .skip))
       (.keep [1]
        (.seq
         (.reg [.mv 17 (.t 1),
           .mv 4 (.t 17)])
        (.keep [4]
         .ret)))))))))))
def LB.spec_ShowDb_0 : AC :=
       (.seq
        (.seq
         (.reg [.mv 5 (.t 4),
           .fa 6 (.t 1) 0,
           .ld 7 false 1 (.t 6),
           .len 8 (.t 7),
           .bin 9 .lss (.t 5) (.t 8)])
        (.keep [1, 3, 4, 9]
         (.cond (.t 9)
          .skip
          (.keep [3]
           (.exit 0)))))
       (.keep [1, 3, 4]
        (.seq
         (.block 1
          (.reg [.mv 12 (.t 3),
            .fa 13 (.t 1) 0,
            .ld 14 false 1 (.t 13),
            .mv 15 (.t 4),
            .ia 16 9 (.t 14) (.t 15),
            .ld 17 true 9 (.t 16),
            .call (some 18) (.c (Fc F.spec_ShowClause)) [(.t 17)] (.ro false),
            .bin 19 .add (.t 12) (.t 18),
            .mv 3 (.t 19)]))
        (.keep [1, 3, 4]
         (.reg [.mv 10 (.t 4),
           .bin 11 .add (.t 10) (.c (I 1)),
           .mv 4 (.t 11)])))))
def L.spec_ShowDb_0 : Lp := ⟨[1, 3, 4], [(1, 0)], LB.spec_ShowDb_0⟩
@[go_sem] theorem L.spec_ShowDb_0_ls : L.spec_ShowDb_0.ls = [1, 3, 4] := rfl
@[go_sem] theorem L.spec_ShowDb_0_ks : L.spec_ShowDb_0.ks = [(1, 0)] := rfl
@[go_sem] theorem L.spec_ShowDb_0_b : L.spec_ShowDb_0.body = LB.spec_ShowDb_0 := rfl
def A.spec_ShowDb : AF where
  nargs := 1
  ntmps := 21
  res := [.tmp 2]
  body :=
    (.seq
     (.reg [.new 1 (.t 0),
       .mv 2 (.c (S []))])
    (.seq
     (.reg [.mv 3 (.c (S []))])
    (.seq
     (.seq
      (.reg [.mv 4 (.c (I 0))])
     (.block 0
      (lpC L.spec_ShowDb_0)))
    (.keep [3]
     (.seq
      (.reg [.mv 20 (.t 3),
        .mv 2 (.t 20)])
     (.keep [2]
      .ret))))))
def A.laws_toDb : AF where
  nargs := 1
  ntmps := 13
  res := [.cell 2 true 2]
  body :=
    (.seq
     (.reg [.new 1 (.t 0),
       .new 2 (.c (.a [(.n 9), (.n 1)]))])
    (.seq
     (.reg [.new 3 (.c (.a [(.n 9), (.n 1)]))])
    (.seq
     (.reg [.fa 4 (.t 1) 0,
       .ld 5 false 1 (.t 4),
       .call (some 6) (.c (Fc F.laws_toClauseS)) [(.t 5)] (.ro false),
       .fa 7 (.t 3) 0,
       .st 1 (.t 7) (.t 6)])
    (.keep [1, 2, 3]
     (.seq
      (.reg [.fa 8 (.t 1) 1,
        .ld 9 false 1 (.t 8),
        .call (some 10) (.c (Fc F.laws_toStringS)) [(.t 9)] (.ro false),
        .fa 11 (.t 3) 1,
        .st 1 (.t 11) (.t 10)])
     (.keep [2, 3]
      (.seq
       (.reg [.ld 12 true 2 (.t 3),
         .st 2 (.t 2) (.t 12)])
      (.keep [2]
       .ret))))))))
def LB.impl_ShowDb_0 : AC :=
        (.seq
         (.reg [.bin 10 .lss (.t 9) (.t 8)])
        (.seq
         (.cond (.t 10)
          .skip
          (.keep [3]
           (.exit 0)))
        (.keep [3, 7, 8, 9]
         (.seq
          (.block 1
           (.seq
            (.reg [.ia 11 9 (.t 7) (.t 9),
              .ld 12 true 9 (.t 11),
              .new 5 (.c (.a [(I 0), (S []), (I 0), (.n 4), (I 0), (S []), (I 0), (.n 4), (S [])])),
              .st 9 (.t 5) (.t 12)])
           (.keep [3, 5, 7, 8, 9]
            (.reg [.mv 13 (.t 3),
              .ld 14 true 9 (.t 5),
              .call (some 15) (.c (Fc F.impl_ShowClause)) [(.t 14)] (.ro false),
              .bin 16 .add (.t 13) (.t 15),
              .mv 3 (.t 16)]))))
         (.keep [3, 7, 8, 9]
          (.reg [.bin 17 .add (.t 9) (.c (I 1)),
            .mv 9 (.t 17)]))))))
def L.impl_ShowDb_0 : Lp := ⟨[3, 7, 8, 9], [(1, 0)], LB.impl_ShowDb_0⟩
@[go_sem] theorem L.impl_ShowDb_0_ls : L.impl_ShowDb_0.ls = [3, 7, 8, 9] := rfl
@[go_sem] theorem L.impl_ShowDb_0_ks : L.impl_ShowDb_0.ks = [(1, 0)] := rfl
@[go_sem] theorem L.impl_ShowDb_0_b : L.impl_ShowDb_0.body = LB.impl_ShowDb_0 := rfl
def A.impl_ShowDb : AF where
  nargs := 1
  ntmps := 19
  res := [.tmp 2]
  body :=
    (.seq
     (.reg [.new 1 (.t 0),
       .mv 2 (.c (S []))])
    (.seq
     (.reg [.mv 3 (.c (S []))])
    (.seq
     (.seq
      (.reg [.fa 6 (.t 1) 0,
        .ld 7 false 1 (.t 6),
        .len 8 (.t 7),
        .mv 9 (.c (I 0))])
     (.keep [3, 7, 8, 9]
      (.block 0
       (lpC L.impl_ShowDb_0))))
    (.keep [3]
     (.seq
      (.reg [.mv 18 (.t 3),
        .mv 2 (.t 18)])
     (.keep [2]
      .ret))))))
def A.laws_eqDb : AF where
  nargs := 2
  ntmps := 17
  res := [.tmp 4]
  body :=
    (.seq
     (.reg [.new 2 (.t 0),
       .new 3 (.t 1),
       .mv 4 (.c (B false))])
    (.seq
     (.seq
      (.reg [.fa 5 (.t 2) 0,
        .ld 6 false 1 (.t 5),
        .fa 7 (.t 3) 0,
        .ld 8 false 1 (.t 7),
        .call (some 9) (.c (Fc F.laws_eqClauseS)) [(.t 6), (.t 8)] (.ro true),
        .un 10 .not (.t 9)])
     (.keep [2, 3, 10]
      (.cond (.t 10)
       (.seq
        (.reg [.mv 4 (.c (B false))])
       (.keep [4]
        .ret))
       .skip)))
    (.keep [2, 3]
     (.seq
      (.seq
       (.reg [.fa 11 (.t 2) 1,
         .ld 12 false 1 (.t 11),
         .fa 13 (.t 3) 1,
         .ld 14 false 1 (.t 13),
         .call (some 15) (.c (Fc F.laws_eqStringS)) [(.t 12), (.t 14)] (.ro true),
         .un 16 .not (.t 15)])
      (.keep [16]
       (.cond (.t 16)
        (.seq
         (.reg [.mv 4 (.c (B false))])
        (.keep [4]
         .ret))
        .skip)))
     (.keep []
      (.seq
       (.reg [.mv 4 (.c (B true))])
      (.keep [4]
       .ret)))))))
def A.laws_szClause : AF where
  nargs := 2
  ntmps := 25
  res := [.tmp 4]
  body :=
    (.seq
     (.reg [.new 2 (.t 0),
       .mv 4 (.c (I 0))])
    (.seq
     (.reg [.fa 5 (.t 2) 0,
       .ld 6 true 4 (.t 5),
       .mv 7 (.t 1),
       .call (some 8) (.c (Fc F.laws_szTerm)) [(.t 6), (.t 7)] (.ro false),
       .mv 1 (.t 8)])
    (.keep [1, 2]
     (.seq
      (.seq
       (.reg [.mv 9 (.t 1),
         .bin 10 .lss (.t 9) (.c (I 0))])
      (.cond (.t 10)
       (.seq
        (.reg [.mv 4 (.c (I (-1)))])
       (.keep [4]
        .ret))
       .skip))
     (.keep [1, 2]
      (.seq
       (.reg [.fa 11 (.t 2) 4,
         .ld 12 true 4 (.t 11),
         .mv 13 (.t 1),
         .call (some 14) (.c (Fc F.laws_szTerm)) [(.t 12), (.t 13)] (.ro false),
         .mv 1 (.t 14)])
      (.keep [1, 2]
       (.seq
        (.seq
         (.reg [.mv 15 (.t 1),
           .bin 16 .lss (.t 15) (.c (I 0))])
        (.cond (.t 16)
         (.seq
          (.reg [.mv 4 (.c (I (-1)))])
         (.keep [4]
          .ret))
         .skip))
       (.keep [1, 2]
        (.seq
         (.reg [.mv 17 (.t 1),
           .fa 18 (.t 2) 8,
           .ld 19 false 1 (.t 18),
           .slen 20 (.t 19),
           .bin 21 .sub (.t 17) (.t 20),
           .mv 1 (.t 21)])
        (.keep [1]
         (.seq
          (.seq
           (.reg [.mv 22 (.t 1),
             .bin 23 .lss (.t 22) (.c (I 0))])
          (.cond (.t 23)
           (.seq
            (.reg [.mv 4 (.c (I (-1)))])
           (.keep [4]
            .ret))
           .skip))
         (.keep [1]
          (.seq
           (.reg [.mv 24 (.t 1),
             .mv 4 (.t 24)])
          (.keep [4]
           .ret)))))))))))))))
def LB.spec_PlainClause_0 : AC :=
           (.seq
            (.seq
             (.reg [.ld 37 true 4 (.t 4),
               .call (some 38) (.c (Fc F.spec_l03Is)) [(.t 37), (.c (S [44])), (.c (I 2))] (.ro true)])
            (.cond (.t 38)
             .skip
             (.keep [3, 4]
              (.exit 0))))
           (.keep [3, 4]
            (.block 1
             (.seq
              (.reg [.mv 39 (.t 3),
                .bin 40 .add (.t 39) (.c (S [10, 32, 32, 32, 32])),
                .fa 41 (.t 4) 3,
                .ld 42 false 1 (.t 41),
                .ia 43 4 (.t 42) (.c (I 0)),
                .ld 44 true 4 (.t 43),
                .call (some 45) (.c (Fc F.spec_l28Held)) [(.t 44), (.c (I 999))] (.ro false),
                .bin 46 .add (.t 40) (.t 45),
                .bin 47 .add (.t 46) (.c (S [44])),
                .mv 3 (.t 47)])
             (.keep [3, 4]
              (.reg [.fa 48 (.t 4) 3,
                .ld 49 false 1 (.t 48),
                .ia 50 4 (.t 49) (.c (I 1)),
                .ld 51 true 4 (.t 50),
                .st 4 (.t 4) (.t 51)]))))))
def L.spec_PlainClause_0 : Lp := ⟨[3, 4], [(1, 0)], LB.spec_PlainClause_0⟩
@[go_sem] theorem L.spec_PlainClause_0_ls : L.spec_PlainClause_0.ls = [3, 4] := rfl
@[go_sem] theorem L.spec_PlainClause_0_ks : L.spec_PlainClause_0.ks = [(1, 0)] := rfl
@[go_sem] theorem L.spec_PlainClause_0_b : L.spec_PlainClause_0.body = LB.spec_PlainClause_0 := rfl
def A.spec_PlainClause : AF where
  nargs := 1
  ntmps := 58
  res := [.tmp 2]
  body :=
    (.seq
     (.reg [.new 1 (.t 0),
       .mv 2 (.c (S []))])
    (.seq
     (.seq
      (.reg [.fa 5 (.t 1) 0,
        .ld 6 true 4 (.t 5),
        .call (some 7) (.c (Fc F.spec_TermOk)) [(.t 6)] (.ro true),
        .un 8 .not (.t 7),
        .mv 9 (.t 8),
        .gd 9 false (some 10) (.fa 10 (.t 1) 4),
        .gd 9 false (some 11) (.ld 11 true 4 (.t 10)),
        .gd 9 false (some 12) (.call (some 12) (.c (Fc F.spec_TermOk)) [(.t 11)] (.ro true)),
        .gd 9 false (some 13) (.un 13 .not (.t 12)),
        .pick 14 (.t 9) (.c (B true)) (.t 13),
        .mv 15 (.t 14),
        .gd 15 false (some 16) (.fa 16 (.t 1) 0),
        .gd 15 false (some 17) (.ld 17 true 4 (.t 16)),
        .gd 15 false (some 18) (.call (some 18) (.c (Fc F.spec_PrioOf)) [(.t 17)] (.ro true)),
        .gd 15 false (some 19) (.bin 19 .gtr (.t 18) (.c (I 1199))),
        .pick 20 (.t 15) (.c (B true)) (.t 19)])
     (.keep [1, 20]
      (.cond (.t 20)
       (.seq
        (.reg [.ld 21 true 9 (.t 1),
          .call (some 22) (.c (Fc F.spec_ClauseTerm)) [(.t 21)] (.ro false),
          .call (some 23) (.c (Fc F.spec_WritePlain)) [(.t 22)] (.ro false),
          .bin 24 .add (.t 23) (.c (S [32, 46, 10])),
          .mv 2 (.t 24)])
       (.keep [2]
        .ret))
       .skip)))
    (.keep [1]
     (.seq
      (.reg [.fa 25 (.t 1) 0,
        .ld 26 true 4 (.t 25),
        .call (some 27) (.c (Fc F.spec_l28Write)) [(.t 26)] (.ro false),
        .mv 3 (.t 27)])
     (.keep [1, 3]
      (.seq
       (.seq
        (.reg [.fa 28 (.t 1) 4,
          .ld 29 true 4 (.t 28),
          .call (some 30) (.c (Fc F.spec_l27True)) [(.t 29)] (.ro true)])
       (.cond (.t 30)
        (.seq
         (.reg [.mv 31 (.t 3),
           .bin 32 .add (.t 31) (.c (S [46, 10])),
           .mv 2 (.t 32)])
        (.keep [2]
         .ret))
        .skip))
      (.keep [1, 3]
       (.seq
        (.reg [.mv 33 (.t 3),
          .bin 34 .add (.t 33) (.c (S [32, 58, 45])),
          .mv 3 (.t 34)])
       (.seq
        (.reg [.fa 35 (.t 1) 4,
          .ld 36 true 4 (.t 35),
          .new 4 (.c (.a [(I 0), (S []), (I 0), (.n 4)])),
          .st 4 (.t 4) (.t 36)])
       (.keep [3, 4]
        (.seq
         (.block 0
          (lpC L.spec_PlainClause_0))
        (.keep [3, 4]
         (.seq
          (.reg [.mv 52 (.t 3),
            .bin 53 .add (.t 52) (.c (S [10, 32, 32, 32, 32])),
            .ld 54 true 4 (.t 4),
            .call (some 55) (.c (Fc F.spec_l28Held)) [(.t 54), (.c (I 999))] (.ro false),
            .bin 56 .add (.t 53) (.t 55),
            .bin 57 .add (.t 56) (.c (S [46, 10])),
            .mv 2 (.t 57)])
         (.keep [2]
          .ret))))))))))))))
def A.laws_toClause : AF where
  nargs := 1
  ntmps := 16
  res := [.cell 2 true 9]
  body :=
    (.seq
     (.reg [.new 1 (.t 0),
       .new 2 (.c (.a [(I 0), (S []), (I 0), (.n 4), (I 0), (S []), (I 0), (.n 4), (S [])]))])
    (.seq
     (.reg [.new 3 (.c (.a [(I 0), (S []), (I 0), (.n 4), (I 0), (S []), (I 0), (.n 4), (S [])]))])
    (.seq
     (.reg [.fa 4 (.t 1) 0,
       .ld 5 true 4 (.t 4),
       .call (some 6) (.c (Fc F.laws_toTerm)) [(.t 5)] (.ro false),
       .fa 7 (.t 3) 0,
       .st 4 (.t 7) (.t 6)])
    (.keep [1, 2, 3]
     (.seq
      (.reg [.fa 8 (.t 1) 4,
        .ld 9 true 4 (.t 8),
        .call (some 10) (.c (Fc F.laws_toTerm)) [(.t 9)] (.ro false),
        .fa 11 (.t 3) 4,
        .st 4 (.t 11) (.t 10)])
     (.keep [1, 2, 3]
      (.seq
       (.reg [.fa 12 (.t 1) 8,
         .ld 13 false 1 (.t 12),
         .fa 14 (.t 3) 8,
         .st 1 (.t 14) (.t 13)])
      (.keep [2, 3]
       (.seq
        (.reg [.ld 15 true 9 (.t 3),
          .st 9 (.t 2) (.t 15)])
       (.keep [2]
        .ret))))))))))
def LB.impl_PlainClause_0 : AC :=
           (.seq
            (.seq
             (.reg [.ld 37 true 4 (.t 4),
               .call (some 38) (.c (Fc F.impl_isStruct)) [(.t 37), (.c (S [44])), (.c (I 2))] (.ro true)])
            (.cond (.t 38)
             .skip
             (.keep [3, 4]
              (.exit 0))))
           (.keep [3, 4]
            (.seq
             (.block 1
              (.reg [.mv 43 (.t 3),
                .fa 44 (.t 4) 3,
                .ld 45 false 1 (.t 44),
                .ia 46 4 (.t 45) (.c (I 0)),
                .ld 47 true 4 (.t 46),
                .call (some 48) (.c (Fc F.impl_bracketed)) [(.t 47), (.c (I 999))] (.ro false),
                .bin 49 .add (.c (S [10, 32, 32, 32, 32])) (.t 48),
                .bin 50 .add (.t 49) (.c (S [44])),
                .bin 51 .add (.t 43) (.t 50),
                .mv 3 (.t 51)]))
            (.keep [3, 4]
             (.reg [.fa 39 (.t 4) 3,
               .ld 40 false 1 (.t 39),
               .ia 41 4 (.t 40) (.c (I 1)),
               .ld 42 true 4 (.t 41),
               .st 4 (.t 4) (.t 42)])))))
def L.impl_PlainClause_0 : Lp := ⟨[3, 4], [(1, 0)], LB.impl_PlainClause_0⟩
@[go_sem] theorem L.impl_PlainClause_0_ls : L.impl_PlainClause_0.ls = [3, 4] := rfl
@[go_sem] theorem L.impl_PlainClause_0_ks : L.impl_PlainClause_0.ks = [(1, 0)] := rfl
@[go_sem] theorem L.impl_PlainClause_0_b : L.impl_PlainClause_0.body = LB.impl_PlainClause_0 := rfl
def A.impl_PlainClause : AF where
  nargs := 1
  ntmps := 58
  res := [.tmp 2]
  body :=
    (.seq
     (.reg [.new 1 (.t 0),
       .mv 2 (.c (S []))])
    (.seq
     (.seq
      (.reg [.fa 5 (.t 1) 0,
        .ld 6 true 4 (.t 5),
        .call (some 7) (.c (Fc F.impl_TermOk)) [(.t 6)] (.ro true),
        .un 8 .not (.t 7),
        .mv 9 (.t 8),
        .gd 9 false (some 10) (.fa 10 (.t 1) 4),
        .gd 9 false (some 11) (.ld 11 true 4 (.t 10)),
        .gd 9 false (some 12) (.call (some 12) (.c (Fc F.impl_TermOk)) [(.t 11)] (.ro true)),
        .gd 9 false (some 13) (.un 13 .not (.t 12)),
        .pick 14 (.t 9) (.c (B true)) (.t 13),
        .mv 15 (.t 14),
        .gd 15 false (some 16) (.fa 16 (.t 1) 0),
        .gd 15 false (some 17) (.ld 17 true 4 (.t 16)),
        .gd 15 false (some 18) (.call (some 18) (.c (Fc F.impl_PrioOf)) [(.t 17)] (.ro true)),
        .gd 15 false (some 19) (.bin 19 .gtr (.t 18) (.c (I 1199))),
        .pick 20 (.t 15) (.c (B true)) (.t 19)])
     (.keep [1, 20]
      (.cond (.t 20)
       (.seq
        (.reg [.ld 21 true 9 (.t 1),
          .call (some 22) (.c (Fc F.impl_ClauseTerm)) [(.t 21)] (.ro false),
          .call (some 23) (.c (Fc F.impl_WritePlain)) [(.t 22)] (.ro false),
          .bin 24 .add (.t 23) (.c (S [32, 46, 10])),
          .mv 2 (.t 24)])
       (.keep [2]
        .ret))
       .skip)))
    (.keep [1]
     (.seq
      (.reg [.fa 25 (.t 1) 0,
        .ld 26 true 4 (.t 25),
        .call (some 27) (.c (Fc F.impl_WritePlain)) [(.t 26)] (.ro false),
        .mv 3 (.t 27)])
     (.keep [1, 3]
      (.seq
       (.seq
        (.reg [.fa 28 (.t 1) 4,
          .ld 29 true 4 (.t 28),
          .call (some 30) (.c (Fc F.impl_isAtom)) [(.t 29), (.c (S [116, 114, 117, 101]))] (.ro true)])
       (.cond (.t 30)
        (.seq
         (.reg [.mv 31 (.t 3),
           .bin 32 .add (.t 31) (.c (S [46, 10])),
           .mv 2 (.t 32)])
        (.keep [2]
         .ret))
        .skip))
      (.keep [1, 3]
       (.seq
        (.reg [.mv 33 (.t 3),
          .bin 34 .add (.t 33) (.c (S [32, 58, 45])),
          .mv 3 (.t 34)])
       (.seq
        (.reg [.fa 35 (.t 1) 4,
          .ld 36 true 4 (.t 35),
          .new 4 (.c (.a [(I 0), (S []), (I 0), (.n 4)])),
          .st 4 (.t 4) (.t 36)])
       (.keep [3, 4]
        (.seq
         (.block 0
          (lpC L.impl_PlainClause_0))
        (.keep [3, 4]
         (.seq
          (.reg [.mv 52 (.t 3),
            .bin 53 .add (.t 52) (.c (S [10, 32, 32, 32, 32])),
            .ld 54 true 4 (.t 4),
            .call (some 55) (.c (Fc F.impl_bracketed)) [(.t 54), (.c (I 999))] (.ro false),
            .bin 56 .add (.t 53) (.t 55),
            .bin 57 .add (.t 56) (.c (S [46, 10])),
            .mv 2 (.t 57)])
         (.keep [2]
          .ret))))))))))))))
def A.laws_eqClause : AF where
  nargs := 2
  ntmps := 22
  res := [.tmp 4]
  body :=
    (.seq
     (.reg [.new 2 (.t 0),
       .new 3 (.t 1),
       .mv 4 (.c (B false))])
    (.seq
     (.seq
      (.reg [.fa 5 (.t 2) 0,
        .ld 6 true 4 (.t 5),
        .fa 7 (.t 3) 0,
        .ld 8 true 4 (.t 7),
        .call (some 9) (.c (Fc F.laws_eqTerm)) [(.t 6), (.t 8)] (.ro true),
        .un 10 .not (.t 9)])
     (.keep [2, 3, 10]
      (.cond (.t 10)
       (.seq
        (.reg [.mv 4 (.c (B false))])
       (.keep [4]
        .ret))
       .skip)))
    (.keep [2, 3]
     (.seq
      (.seq
       (.reg [.fa 11 (.t 2) 4,
         .ld 12 true 4 (.t 11),
         .fa 13 (.t 3) 4,
         .ld 14 true 4 (.t 13),
         .call (some 15) (.c (Fc F.laws_eqTerm)) [(.t 12), (.t 14)] (.ro true),
         .un 16 .not (.t 15)])
      (.keep [2, 3, 16]
       (.cond (.t 16)
        (.seq
         (.reg [.mv 4 (.c (B false))])
        (.keep [4]
         .ret))
        .skip)))
     (.keep [2, 3]
      (.seq
       (.seq
        (.reg [.fa 17 (.t 2) 8,
          .ld 18 false 1 (.t 17),
          .fa 19 (.t 3) 8,
          .ld 20 false 1 (.t 19),
          .bin 21 .neq (.t 18) (.t 20)])
       (.keep [21]
        (.cond (.t 21)
         (.seq
          (.reg [.mv 4 (.c (B false))])
         (.keep [4]
          .ret))
         .skip)))
      (.keep []
       (.seq
        (.reg [.mv 4 (.c (B true))])
       (.keep [4]
        .ret)))))))))
def A.laws_szOutcome : AF where
  nargs := 2
  ntmps := 31
  res := [.tmp 4]
  body :=
    (.seq
     (.reg [.new 2 (.t 0),
       .mv 4 (.c (I 0))])
    (.seq
     (.reg [.fa 5 (.t 2) 0,
       .ld 6 false 1 (.t 5),
       .mv 7 (.t 1),
       .call (some 8) (.c (Fc F.laws_szTermS)) [(.t 6), (.t 7)] (.ro false),
       .mv 1 (.t 8)])
    (.keep [1, 2]
     (.seq
      (.seq
       (.reg [.mv 9 (.t 1),
         .bin 10 .lss (.t 9) (.c (I 0))])
      (.cond (.t 10)
       (.seq
        (.reg [.mv 4 (.c (I (-1)))])
       (.keep [4]
        .ret))
       .skip))
     (.keep [1, 2]
      (.seq
       (.reg [.fa 11 (.t 2) 2,
         .ld 12 true 4 (.t 11),
         .mv 13 (.t 1),
         .call (some 14) (.c (Fc F.laws_szTerm)) [(.t 12), (.t 13)] (.ro false),
         .mv 1 (.t 14)])
      (.keep [1, 2]
       (.seq
        (.seq
         (.reg [.mv 15 (.t 1),
           .bin 16 .lss (.t 15) (.c (I 0))])
        (.cond (.t 16)
         (.seq
          (.reg [.mv 4 (.c (I (-1)))])
         (.keep [4]
          .ret))
         .skip))
       (.keep [1, 2]
        (.seq
         (.reg [.mv 17 (.t 1),
           .fa 18 (.t 2) 6,
           .ld 19 false 1 (.t 18),
           .slen 20 (.t 19),
           .bin 21 .sub (.t 17) (.t 20),
           .mv 1 (.t 21)])
        (.keep [1, 2]
         (.seq
          (.seq
           (.reg [.mv 22 (.t 1),
             .bin 23 .lss (.t 22) (.c (I 0))])
          (.cond (.t 23)
           (.seq
            (.reg [.mv 4 (.c (I (-1)))])
           (.keep [4]
            .ret))
           .skip))
         (.keep [1, 2]
          (.seq
           (.reg [.fa 24 (.t 2) 7,
             .ld 25 true 2 (.t 24),
             .mv 26 (.t 1),
             .call (some 27) (.c (Fc F.laws_szDb)) [(.t 25), (.t 26)] (.ro false),
             .mv 1 (.t 27)])
          (.keep [1]
           (.seq
            (.seq
             (.reg [.mv 28 (.t 1),
               .bin 29 .lss (.t 28) (.c (I 0))])
            (.cond (.t 29)
             (.seq
              (.reg [.mv 4 (.c (I (-1)))])
             (.keep [4]
              .ret))
             .skip))
           (.keep [1]
            (.seq
             (.reg [.mv 30 (.t 1),
               .mv 4 (.t 30)])
            (.keep [4]
             .ret)))))))))))))))))))
def A.spec_ShowOutcome : AF where
  nargs := 1
  ntmps := 6
  res := [.tmp 2]
  body :=
    (.seq
     (.reg [.new 1 (.t 0),
       .mv 2 (.c (S []))])
    (.seq
     (.reg [.ld 3 true 10 (.t 1),
       .call (some 4) (.c (Fc F.spec_l19Lines)) [(.t 3)] (.ro false),
       .call (some 5) (.c (Fc F.spec_l31Lines)) [(.t 4)] (.ro false),
       .mv 2 (.t 5)])
    (.keep [2]
     .ret)))
def A.laws_toOutcome : AF where
  nargs := 1
  ntmps := 26
  res := [.cell 2 true 10]
  body :=
    (.seq
     (.reg [.new 1 (.t 0),
       .new 2 (.c (.a [(.n 4), (I 0), (I 0), (S []), (I 0), (.n 4), (S []), (.n 9), (.n 1), (I 0)]))])
    (.seq
     (.reg [.new 3 (.c (.a [(.n 4), (I 0), (I 0), (S []), (I 0), (.n 4), (S []), (.n 9), (.n 1), (I 0)]))])
    (.seq
     (.reg [.fa 4 (.t 1) 0,
       .ld 5 false 1 (.t 4),
       .call (some 6) (.c (Fc F.laws_toTermS)) [(.t 5)] (.ro false),
       .fa 7 (.t 3) 0,
       .st 1 (.t 7) (.t 6)])
    (.keep [1, 2, 3]
     (.seq
      (.reg [.fa 8 (.t 1) 1,
        .ld 9 false 1 (.t 8),
        .fa 10 (.t 3) 1,
        .st 1 (.t 10) (.t 9)])
     (.keep [1, 2, 3]
      (.seq
       (.reg [.fa 11 (.t 1) 2,
         .ld 12 true 4 (.t 11),
         .call (some 13) (.c (Fc F.laws_toTerm)) [(.t 12)] (.ro false),
         .fa 14 (.t 3) 2,
         .st 4 (.t 14) (.t 13)])
      (.keep [1, 2, 3]
       (.seq
        (.reg [.fa 15 (.t 1) 6,
          .ld 16 false 1 (.t 15),
          .fa 17 (.t 3) 6,
          .st 1 (.t 17) (.t 16)])
       (.keep [1, 2, 3]
        (.seq
         (.reg [.fa 18 (.t 1) 7,
           .ld 19 true 2 (.t 18),
           .call (some 20) (.c (Fc F.laws_toDb)) [(.t 19)] (.ro false),
           .fa 21 (.t 3) 7,
           .st 2 (.t 21) (.t 20)])
        (.keep [1, 2, 3]
         (.seq
          (.reg [.fa 22 (.t 1) 9,
            .ld 23 false 1 (.t 22),
            .fa 24 (.t 3) 9,
            .st 1 (.t 24) (.t 23)])
         (.keep [2, 3]
          (.seq
           (.reg [.ld 25 true 10 (.t 3),
             .st 10 (.t 2) (.t 25)])
          (.keep [2]
           .ret))))))))))))))))
def A.impl_ShowOutcome : AF where
  nargs := 1
  ntmps := 6
  res := [.tmp 2]
  body :=
    (.seq
     (.reg [.new 1 (.t 0),
       .mv 2 (.c (S []))])
    (.seq
     (.reg [.ld 3 true 10 (.t 1),
       .call (some 4) (.c (Fc F.impl_outcomeLines)) [(.t 3)] (.ro false),
       .call (some 5) (.c (Fc F.impl_inLines)) [(.t 4)] (.ro false),
       .mv 2 (.t 5)])
    (.keep [2]
     .ret)))
def A.laws_eqOutcome : AF where
  nargs := 2
  ntmps := 38
  res := [.tmp 4]
  body :=
    (.seq
     (.reg [.new 2 (.t 0),
       .new 3 (.t 1),
       .mv 4 (.c (B false))])
    (.seq
     (.seq
      (.reg [.fa 5 (.t 2) 0,
        .ld 6 false 1 (.t 5),
        .fa 7 (.t 3) 0,
        .ld 8 false 1 (.t 7),
        .call (some 9) (.c (Fc F.laws_eqTermS)) [(.t 6), (.t 8)] (.ro true),
        .un 10 .not (.t 9)])
     (.keep [2, 3, 10]
      (.cond (.t 10)
       (.seq
        (.reg [.mv 4 (.c (B false))])
       (.keep [4]
        .ret))
       .skip)))
    (.keep [2, 3]
     (.seq
      (.seq
       (.reg [.fa 11 (.t 2) 1,
         .ld 12 false 1 (.t 11),
         .fa 13 (.t 3) 1,
         .ld 14 false 1 (.t 13),
         .bin 15 .neq (.t 12) (.t 14)])
      (.keep [2, 3, 15]
       (.cond (.t 15)
        (.seq
         (.reg [.mv 4 (.c (B false))])
        (.keep [4]
         .ret))
        .skip)))
     (.keep [2, 3]
      (.seq
       (.seq
        (.reg [.fa 16 (.t 2) 2,
          .ld 17 true 4 (.t 16),
          .fa 18 (.t 3) 2,
          .ld 19 true 4 (.t 18),
          .call (some 20) (.c (Fc F.laws_eqTerm)) [(.t 17), (.t 19)] (.ro true),
          .un 21 .not (.t 20)])
       (.keep [2, 3, 21]
        (.cond (.t 21)
         (.seq
          (.reg [.mv 4 (.c (B false))])
         (.keep [4]
          .ret))
         .skip)))
      (.keep [2, 3]
       (.seq
        (.seq
         (.reg [.fa 22 (.t 2) 6,
           .ld 23 false 1 (.t 22),
           .fa 24 (.t 3) 6,
           .ld 25 false 1 (.t 24),
           .bin 26 .neq (.t 23) (.t 25)])
        (.keep [2, 3, 26]
         (.cond (.t 26)
          (.seq
           (.reg [.mv 4 (.c (B false))])
          (.keep [4]
           .ret))
          .skip)))
       (.keep [2, 3]
        (.seq
         (.seq
          (.reg [.fa 27 (.t 2) 7,
            .ld 28 true 2 (.t 27),
            .fa 29 (.t 3) 7,
            .ld 30 true 2 (.t 29),
            .call (some 31) (.c (Fc F.laws_eqDb)) [(.t 28), (.t 30)] (.ro true),
            .un 32 .not (.t 31)])
         (.keep [2, 3, 32]
          (.cond (.t 32)
           (.seq
            (.reg [.mv 4 (.c (B false))])
           (.keep [4]
            .ret))
           .skip)))
        (.keep [2, 3]
         (.seq
          (.seq
           (.reg [.fa 33 (.t 2) 9,
             .ld 34 false 1 (.t 33),
             .fa 35 (.t 3) 9,
             .ld 36 false 1 (.t 35),
             .bin 37 .neq (.t 34) (.t 36)])
          (.keep [37]
           (.cond (.t 37)
            (.seq
             (.reg [.mv 4 (.c (B false))])
            (.keep [4]
             .ret))
            .skip)))
         (.keep []
          (.seq
           (.reg [.mv 4 (.c (B true))])
          (.keep [4]
           .ret)))))))))))))))
def LB.spec_PlainText_0 : AC :=
       (.seq
        (.seq
         (.reg [.mv 5 (.t 4),
           .fa 6 (.t 1) 0,
           .ld 7 false 1 (.t 6),
           .len 8 (.t 7),
           .bin 9 .lss (.t 5) (.t 8)])
        (.keep [1, 3, 4, 9]
         (.cond (.t 9)
          .skip
          (.keep [3]
           (.exit 0)))))
       (.keep [1, 3, 4]
        (.seq
         (.block 1
          (.reg [.mv 12 (.t 3),
            .fa 13 (.t 1) 0,
            .ld 14 false 1 (.t 13),
            .mv 15 (.t 4),
            .ia 16 9 (.t 14) (.t 15),
            .ld 17 true 9 (.t 16),
            .call (some 18) (.c (Fc F.spec_PlainClause)) [(.t 17)] (.ro false),
            .bin 19 .add (.t 12) (.t 18),
            .mv 3 (.t 19)]))
        (.keep [1, 3, 4]
         (.reg [.mv 10 (.t 4),
           .bin 11 .add (.t 10) (.c (I 1)),
           .mv 4 (.t 11)])))))
def L.spec_PlainText_0 : Lp := ⟨[1, 3, 4], [(1, 0)], LB.spec_PlainText_0⟩
@[go_sem] theorem L.spec_PlainText_0_ls : L.spec_PlainText_0.ls = [1, 3, 4] := rfl
@[go_sem] theorem L.spec_PlainText_0_ks : L.spec_PlainText_0.ks = [(1, 0)] := rfl
@[go_sem] theorem L.spec_PlainText_0_b : L.spec_PlainText_0.body = LB.spec_PlainText_0 := rfl
def A.spec_PlainText : AF where
  nargs := 1
  ntmps := 21
  res := [.tmp 2]
  body :=
    (.seq
     (.reg [.new 1 (.t 0),
       .mv 2 (.c (S []))])
    (.seq
     (.reg [.mv 3 (.c (S []))])
    (.seq
     (.seq
      (.reg [.mv 4 (.c (I 0))])
     (.block 0
      (lpC L.spec_PlainText_0)))
    (.keep [3]
     (.seq
      (.reg [.mv 20 (.t 3),
        .mv 2 (.t 20)])
     (.keep [2]
      .ret))))))
def LB.impl_PlainText_0 : AC :=
        (.seq
         (.reg [.bin 10 .lss (.t 9) (.t 8)])
        (.seq
         (.cond (.t 10)
          .skip
          (.keep [3]
           (.exit 0)))
        (.keep [3, 7, 8, 9]
         (.seq
          (.block 1
           (.seq
            (.reg [.ia 11 9 (.t 7) (.t 9),
              .ld 12 true 9 (.t 11),
              .new 5 (.c (.a [(I 0), (S []), (I 0), (.n 4), (I 0), (S []), (I 0), (.n 4), (S [])])),
              .st 9 (.t 5) (.t 12)])
           (.keep [3, 5, 7, 8, 9]
            (.reg [.mv 13 (.t 3),
              .ld 14 true 9 (.t 5),
              .call (some 15) (.c (Fc F.impl_PlainClause)) [(.t 14)] (.ro false),
              .bin 16 .add (.t 13) (.t 15),
              .mv 3 (.t 16)]))))
         (.keep [3, 7, 8, 9]
          (.reg [.bin 17 .add (.t 9) (.c (I 1)),
            .mv 9 (.t 17)]))))))
def L.impl_PlainText_0 : Lp := ⟨[3, 7, 8, 9], [(1, 0)], LB.impl_PlainText_0⟩
@[go_sem] theorem L.impl_PlainText_0_ls : L.impl_PlainText_0.ls = [3, 7, 8, 9] := rfl
@[go_sem] theorem L.impl_PlainText_0_ks : L.impl_PlainText_0.ks = [(1, 0)] := rfl
@[go_sem] theorem L.impl_PlainText_0_b : L.impl_PlainText_0.body = LB.impl_PlainText_0 := rfl
def A.impl_PlainText : AF where
  nargs := 1
  ntmps := 19
  res := [.tmp 2]
  body :=
    (.seq
     (.reg [.new 1 (.t 0),
       .mv 2 (.c (S []))])
    (.seq
     (.reg [.mv 3 (.c (S []))])
    (.seq
     (.seq
      (.reg [.fa 6 (.t 1) 0,
        .ld 7 false 1 (.t 6),
        .len 8 (.t 7),
        .mv 9 (.c (I 0))])
     (.keep [3, 7, 8, 9]
      (.block 0
       (lpC L.impl_PlainText_0))))
    (.keep [3]
     (.seq
      (.reg [.mv 18 (.t 3),
        .mv 2 (.t 18)])
     (.keep [2]
      .ret))))))
def LB.laws_szClauseS_0 : AC :=
         (.seq
          (.seq
           (.reg [.mv 12 (.t 5),
             .mv 13 (.t 0),
             .len 14 (.t 13),
             .bin 15 .lss (.t 12) (.t 14)])
          (.keep [0, 1, 5, 15]
           (.cond (.t 15)
            .skip
            (.keep [1]
             (.exit 0)))))
         (.keep [0, 1, 5]
          (.seq
           (.block 1
            (.seq
             (.reg [.mv 18 (.t 0),
               .mv 19 (.t 5),
               .ia 20 9 (.t 18) (.t 19),
               .ld 21 true 9 (.t 20),
               .mv 22 (.t 1),
               .call (some 23) (.c (Fc F.laws_szClause)) [(.t 21), (.t 22)] (.ro false),
               .mv 1 (.t 23)])
            (.keep [0, 1, 5]
             (.seq
              (.reg [.mv 24 (.t 1),
                .bin 25 .lss (.t 24) (.c (I 0))])
             (.cond (.t 25)
              (.seq
               (.reg [.mv 4 (.c (I (-1)))])
              (.keep [4]
               .ret))
              .skip)))))
          (.keep [0, 1, 5]
           (.reg [.mv 16 (.t 5),
             .bin 17 .add (.t 16) (.c (I 1)),
             .mv 5 (.t 17)])))))
def L.laws_szClauseS_0 : Lp := ⟨[0, 1, 5], [(2, 0)], LB.laws_szClauseS_0⟩
@[go_sem] theorem L.laws_szClauseS_0_ls : L.laws_szClauseS_0.ls = [0, 1, 5] := rfl
@[go_sem] theorem L.laws_szClauseS_0_ks : L.laws_szClauseS_0.ks = [(2, 0)] := rfl
@[go_sem] theorem L.laws_szClauseS_0_b : L.laws_szClauseS_0.body = LB.laws_szClauseS_0 := rfl
def A.laws_szClauseS : AF where
  nargs := 2
  ntmps := 27
  res := [.tmp 4]
  body :=
    (.seq
     (.reg [.mv 4 (.c (I 0))])
    (.seq
     (.reg [.mv 6 (.t 1),
       .mv 7 (.t 0),
       .len 8 (.t 7),
       .bin 9 .sub (.t 6) (.t 8),
       .mv 1 (.t 9)])
    (.keep [0, 1]
     (.seq
      (.seq
       (.reg [.mv 10 (.t 1),
         .bin 11 .lss (.t 10) (.c (I 0))])
      (.cond (.t 11)
       (.seq
        (.reg [.mv 4 (.c (I (-1)))])
       (.keep [4]
        .ret))
       .skip))
     (.keep [0, 1]
      (.seq
       (.seq
        (.reg [.mv 5 (.c (I 0))])
       (.block 0
        (lpC L.laws_szClauseS_0)))
      (.keep [1]
       (.seq
        (.reg [.mv 26 (.t 1),
          .mv 4 (.t 26)])
       (.keep [4]
        .ret)))))))))
def LB.laws_szStringS_0 : AC :=
         (.seq
          (.seq
           (.reg [.mv 12 (.t 5),
             .mv 13 (.t 0),
             .len 14 (.t 13),
             .bin 15 .lss (.t 12) (.t 14)])
          (.keep [0, 1, 5, 15]
           (.cond (.t 15)
            .skip
            (.keep [1]
             (.exit 0)))))
         (.keep [0, 1, 5]
          (.seq
           (.block 1
            (.seq
             (.reg [.mv 18 (.t 1),
               .mv 19 (.t 0),
               .mv 20 (.t 5),
               .ia 21 1 (.t 19) (.t 20),
               .ld 22 false 1 (.t 21),
               .slen 23 (.t 22),
               .bin 24 .sub (.t 18) (.t 23),
               .mv 1 (.t 24)])
            (.keep [0, 1, 5]
             (.seq
              (.reg [.mv 25 (.t 1),
                .bin 26 .lss (.t 25) (.c (I 0))])
             (.cond (.t 26)
              (.seq
               (.reg [.mv 4 (.c (I (-1)))])
              (.keep [4]
               .ret))
              .skip)))))
          (.keep [0, 1, 5]
           (.reg [.mv 16 (.t 5),
             .bin 17 .add (.t 16) (.c (I 1)),
             .mv 5 (.t 17)])))))
def L.laws_szStringS_0 : Lp := ⟨[0, 1, 5], [(2, 0)], LB.laws_szStringS_0⟩
@[go_sem] theorem L.laws_szStringS_0_ls : L.laws_szStringS_0.ls = [0, 1, 5] := rfl
@[go_sem] theorem L.laws_szStringS_0_ks : L.laws_szStringS_0.ks = [(2, 0)] := rfl
@[go_sem] theorem L.laws_szStringS_0_b : L.laws_szStringS_0.body = LB.laws_szStringS_0 := rfl
def A.laws_szStringS : AF where
  nargs := 2
  ntmps := 28
  res := [.tmp 4]
  body :=
    (.seq
     (.reg [.mv 4 (.c (I 0))])
    (.seq
     (.reg [.mv 6 (.t 1),
       .mv 7 (.t 0),
       .len 8 (.t 7),
       .bin 9 .sub (.t 6) (.t 8),
       .mv 1 (.t 9)])
    (.keep [0, 1]
     (.seq
      (.seq
       (.reg [.mv 10 (.t 1),
         .bin 11 .lss (.t 10) (.c (I 0))])
      (.cond (.t 11)
       (.seq
        (.reg [.mv 4 (.c (I (-1)))])
       (.keep [4]
        .ret))
       .skip))
     (.keep [0, 1]
      (.seq
       (.seq
        (.reg [.mv 5 (.c (I 0))])
       (.block 0
        (lpC L.laws_szStringS_0)))
      (.keep [1]
       (.seq
        (.reg [.mv 27 (.t 1),
          .mv 4 (.t 27)])
       (.keep [4]
        .ret)))))))))
def A.spec_ShowClause : AF where
  nargs := 1
  ntmps := 25
  res := [.tmp 2]
  body :=
    (.seq
     (.reg [.new 1 (.t 0),
       .mv 2 (.c (S []))])
    (.seq
     (.reg [.fa 4 (.t 1) 0,
       .ld 5 true 4 (.t 4),
       .call (some 6) (.c (Fc F.spec_WriteTerm)) [(.t 5)] (.ro false),
       .mv 3 (.t 6)])
    (.keep [1, 3]
     (.seq
      (.seq
       (.reg [.fa 7 (.t 1) 4,
         .fa 8 (.t 7) 0,
         .ld 9 false 1 (.t 8),
         .bin 10 .neq (.t 9) (.c (I 2)),
         .mv 11 (.t 10),
         .gd 11 false (some 12) (.fa 12 (.t 1) 4),
         .gd 11 false (some 13) (.fa 13 (.t 12) 1),
         .gd 11 false (some 14) (.ld 14 false 1 (.t 13)),
         .gd 11 false (some 15) (.bin 15 .neq (.t 14) (.c (S [116, 114, 117, 101]))),
         .pick 16 (.t 11) (.c (B true)) (.t 15)])
      (.keep [1, 3, 16]
       (.cond (.t 16)
        (.reg [.mv 17 (.t 3),
          .bin 18 .add (.t 17) (.c (S [32, 58, 45, 32])),
          .fa 19 (.t 1) 4,
          .ld 20 true 4 (.t 19),
          .call (some 21) (.c (Fc F.spec_WriteTerm)) [(.t 20)] (.ro false),
          .bin 22 .add (.t 18) (.t 21),
          .mv 3 (.t 22)])
        .skip)))
     (.keep [3]
      (.seq
       (.reg [.mv 23 (.t 3),
         .bin 24 .add (.t 23) (.c (S [46, 10])),
         .mv 2 (.t 24)])
      (.keep [2]
       .ret)))))))
def LB.laws_toClauseS_0 : AC :=
        (.seq
         (.seq
          (.reg [.mv 8 (.t 4),
            .mv 9 (.t 0),
            .len 10 (.t 9),
            .bin 11 .lss (.t 8) (.t 10)])
         (.keep [0, 3, 4, 11]
          (.cond (.t 11)
           .skip
           (.keep [3]
            (.exit 0)))))
        (.keep [0, 3, 4]
         (.seq
          (.block 1
           (.reg [.mv 14 (.t 3),
             .mv 15 (.t 4),
             .mv 16 (.t 0),
             .mv 17 (.t 4),
             .ia 18 9 (.t 16) (.t 17),
             .ld 19 true 9 (.t 18),
             .call (some 20) (.c (Fc F.laws_toClause)) [(.t 19)] (.ro false),
             .ia 21 9 (.t 14) (.t 15),
             .st 9 (.t 21) (.t 20)]))
         (.keep [0, 3, 4]
          (.reg [.mv 12 (.t 4),
            .bin 13 .add (.t 12) (.c (I 1)),
            .mv 4 (.t 13)])))))
def L.laws_toClauseS_0 : Lp := ⟨[0, 3, 4], [(1, 0)], LB.laws_toClauseS_0⟩
@[go_sem] theorem L.laws_toClauseS_0_ls : L.laws_toClauseS_0.ls = [0, 3, 4] := rfl
@[go_sem] theorem L.laws_toClauseS_0_ks : L.laws_toClauseS_0.ks = [(1, 0)] := rfl
@[go_sem] theorem L.laws_toClauseS_0_b : L.laws_toClauseS_0.body = LB.laws_toClauseS_0 := rfl
def A.laws_toClauseS : AF where
  nargs := 1
  ntmps := 23
  res := [.tmp 2]
  body :=
    (.seq
     (.reg [.mv 2 (.c (.n 9))])
    (.seq
     (.reg [.mv 5 (.t 0),
       .len 6 (.t 5),
       .mk 7 9 (.a [(I 0), (S []), (I 0), (.n 4), (I 0), (S []), (I 0), (.n 4), (S [])]) 128 (.t 6) (.t 6),
       .mv 3 (.t 7)])
    (.keep [0, 3]
     (.seq
      (.seq
       (.reg [.mv 4 (.c (I 0))])
      (.block 0
       (lpC L.laws_toClauseS_0)))
     (.keep [3]
      (.seq
       (.reg [.mv 22 (.t 3),
         .mv 2 (.t 22)])
      (.keep [2]
       .ret)))))))
def LB.laws_toStringS_0 : AC :=
        (.seq
         (.seq
          (.reg [.mv 8 (.t 4),
            .mv 9 (.t 0),
            .len 10 (.t 9),
            .bin 11 .lss (.t 8) (.t 10)])
         (.keep [0, 3, 4, 11]
          (.cond (.t 11)
           .skip
           (.keep [3]
            (.exit 0)))))
        (.keep [0, 3, 4]
         (.seq
          (.block 1
           (.reg [.mv 14 (.t 3),
             .mv 15 (.t 4),
             .mv 16 (.t 0),
             .mv 17 (.t 4),
             .ia 18 1 (.t 16) (.t 17),
             .ld 19 false 1 (.t 18),
             .ia 20 1 (.t 14) (.t 15),
             .st 1 (.t 20) (.t 19)]))
         (.keep [0, 3, 4]
          (.reg [.mv 12 (.t 4),
            .bin 13 .add (.t 12) (.c (I 1)),
            .mv 4 (.t 13)])))))
def L.laws_toStringS_0 : Lp := ⟨[0, 3, 4], [(1, 0)], LB.laws_toStringS_0⟩
@[go_sem] theorem L.laws_toStringS_0_ls : L.laws_toStringS_0.ls = [0, 3, 4] := rfl
@[go_sem] theorem L.laws_toStringS_0_ks : L.laws_toStringS_0.ks = [(1, 0)] := rfl
@[go_sem] theorem L.laws_toStringS_0_b : L.laws_toStringS_0.body = LB.laws_toStringS_0 := rfl
def A.laws_toStringS : AF where
  nargs := 1
  ntmps := 22
  res := [.tmp 2]
  body :=
    (.seq
     (.reg [.mv 2 (.c (.n 1))])
    (.seq
     (.reg [.mv 5 (.t 0),
       .len 6 (.t 5),
       .mk 7 1 (S []) 16 (.t 6) (.t 6),
       .mv 3 (.t 7)])
    (.keep [0, 3]
     (.seq
      (.seq
       (.reg [.mv 4 (.c (I 0))])
      (.block 0
       (lpC L.laws_toStringS_0)))
     (.keep [3]
      (.seq
       (.reg [.mv 21 (.t 3),
         .mv 2 (.t 21)])
      (.keep [2]
       .ret)))))))
def A.impl_ShowClause : AF where
  nargs := 1
  ntmps := 19
  res := [.tmp 2]
  body :=
    (.seq
     (.reg [.new 1 (.t 0),
       .mv 2 (.c (S []))])
    (.seq
     (.reg [.fa 4 (.t 1) 0,
       .ld 5 true 4 (.t 4),
       .call (some 6) (.c (Fc F.impl_WriteTerm)) [(.t 5)] (.ro false),
       .mv 3 (.t 6)])
    (.keep [1, 3]
     (.seq
      (.seq
       (.reg [.fa 7 (.t 1) 4,
         .ld 8 true 4 (.t 7),
         .call (some 9) (.c (Fc F.impl_isAtom)) [(.t 8), (.c (S [116, 114, 117, 101]))] (.ro true),
         .un 10 .not (.t 9)])
      (.keep [1, 3, 10]
       (.cond (.t 10)
        (.reg [.mv 11 (.t 3),
          .fa 12 (.t 1) 4,
          .ld 13 true 4 (.t 12),
          .call (some 14) (.c (Fc F.impl_WriteTerm)) [(.t 13)] (.ro false),
          .bin 15 .add (.c (S [32, 58, 45, 32])) (.t 14),
          .bin 16 .add (.t 11) (.t 15),
          .mv 3 (.t 16)])
        .skip)))
     (.keep [3]
      (.seq
       (.reg [.mv 17 (.t 3),
         .bin 18 .add (.t 17) (.c (S [46, 10])),
         .mv 2 (.t 18)])
      (.keep [2]
       .ret)))))))
def LB.laws_eqClauseS_0 : AC :=
        (.seq
         (.seq
          (.reg [.mv 11 (.t 5),
            .mv 12 (.t 0),
            .len 13 (.t 12),
            .bin 14 .lss (.t 11) (.t 13)])
         (.keep [0, 1, 5, 14]
          (.cond (.t 14)
           .skip
           (.keep []
            (.exit 0)))))
        (.keep [0, 1, 5]
         (.seq
          (.block 1
           (.seq
            (.dreg [⟨0, []⟩, ⟨0, []⟩, ⟨0, [(0, 0), (0, 1), (0, 2), (0, 3), (100000, 0), (100000, 1), (100000, 2), (100000, 3), (100000, 4), (100000, 5)]⟩, ⟨0, [(0, 0), (0, 1), (0, 2), (0, 3), (100000, 0), (100000, 1), (100000, 2), (100000, 3), (100000, 4), (100000, 5)]⟩, ⟨0, []⟩, ⟨0, []⟩, ⟨0, [(1, 0), (1, 1), (1, 2), (1, 3), (100000, 0), (100000, 1), (100000, 2), (100000, 3), (100000, 4), (100000, 5)]⟩, ⟨0, [(1, 0), (1, 1), (1, 2), (1, 3), (100000, 0), (100000, 1), (100000, 2), (100000, 3), (100000, 4), (100000, 5)]⟩, ⟨2, [(0, 0), (0, 1), (0, 2), (0, 3), (1, 0), (1, 1), (1, 2), (1, 3), (20, 0), (24, 0), (100000, 0), (100000, 1), (100000, 2), (100000, 3), (100000, 4), (100000, 5)]⟩, ⟨0, []⟩]
             [.mv 17 (.t 0),
              .mv 18 (.t 5),
              .ia 19 9 (.t 17) (.t 18),
              .ldq 20 true 9 (.t 19),
              .mv 21 (.t 1),
              .mv 22 (.t 5),
              .ia 23 9 (.t 21) (.t 22),
              .ldq 24 true 9 (.t 23),
              .call (some 25) (.c (Fc F.laws_eqClause)) [(.t 20), (.t 24)] (.ro true),
              .un 26 .not (.t 25)])
           (.keep [0, 1, 5, 26]
            (.cond (.t 26)
             (.seq
              (.reg [.mv 4 (.c (B false))])
             (.keep [4]
              .ret))
             .skip))))
         (.keep [0, 1, 5]
          (.reg [.mv 15 (.t 5),
            .bin 16 .add (.t 15) (.c (I 1)),
            .mv 5 (.t 16)])))))
def L.laws_eqClauseS_0 : Lp := ⟨[0, 1, 5], [(2, 0)], LB.laws_eqClauseS_0⟩
@[go_sem] theorem L.laws_eqClauseS_0_ls : L.laws_eqClauseS_0.ls = [0, 1, 5] := rfl
@[go_sem] theorem L.laws_eqClauseS_0_ks : L.laws_eqClauseS_0.ks = [(2, 0)] := rfl
@[go_sem] theorem L.laws_eqClauseS_0_b : L.laws_eqClauseS_0.body = LB.laws_eqClauseS_0 := rfl
def A.laws_eqClauseS : AF where
  nargs := 2
  ntmps := 27
  res := [.tmp 4]
  body :=
    (.seq
     (.reg [.mv 4 (.c (B false))])
    (.seq
     (.seq
      (.reg [.mv 6 (.t 0),
        .len 7 (.t 6),
        .mv 8 (.t 1),
        .len 9 (.t 8),
        .bin 10 .neq (.t 7) (.t 9)])
     (.keep [0, 1, 10]
      (.cond (.t 10)
       (.seq
        (.reg [.mv 4 (.c (B false))])
       (.keep [4]
        .ret))
       .skip)))
    (.keep [0, 1]
     (.seq
      (.seq
       (.reg [.mv 5 (.c (I 0))])
      (.block 0
       (lpC L.laws_eqClauseS_0)))
     (.keep []
      (.seq
       (.reg [.mv 4 (.c (B true))])
      (.keep [4]
       .ret)))))))
def LB.laws_eqStringS_0 : AC :=
        (.seq
         (.seq
          (.reg [.mv 11 (.t 5),
            .mv 12 (.t 0),
            .len 13 (.t 12),
            .bin 14 .lss (.t 11) (.t 13)])
         (.keep [0, 1, 5, 14]
          (.cond (.t 14)
           .skip
           (.keep []
            (.exit 0)))))
        (.keep [0, 1, 5]
         (.seq
          (.block 1
           (.seq
            (.dreg [⟨0, []⟩, ⟨0, []⟩, ⟨0, [(0, 0), (0, 1), (0, 2), (0, 3), (100000, 0), (100000, 1), (100000, 2), (100000, 3), (100000, 4), (100000, 5)]⟩, ⟨0, [(0, 0), (0, 1), (0, 2), (0, 3), (100000, 0), (100000, 1), (100000, 2), (100000, 3), (100000, 4), (100000, 5)]⟩, ⟨0, []⟩, ⟨0, []⟩, ⟨0, [(1, 0), (1, 1), (1, 2), (1, 3), (100000, 0), (100000, 1), (100000, 2), (100000, 3), (100000, 4), (100000, 5)]⟩, ⟨0, [(1, 0), (1, 1), (1, 2), (1, 3), (100000, 0), (100000, 1), (100000, 2), (100000, 3), (100000, 4), (100000, 5)]⟩, ⟨0, []⟩]
             [.mv 17 (.t 0),
              .mv 18 (.t 5),
              .ia 19 1 (.t 17) (.t 18),
              .ldq 20 false 1 (.t 19),
              .mv 21 (.t 1),
              .mv 22 (.t 5),
              .ia 23 1 (.t 21) (.t 22),
              .ldq 24 false 1 (.t 23),
              .bin 25 .neq (.t 20) (.t 24)])
           (.keep [0, 1, 5, 25]
            (.cond (.t 25)
             (.seq
              (.reg [.mv 4 (.c (B false))])
             (.keep [4]
              .ret))
             .skip))))
         (.keep [0, 1, 5]
          (.reg [.mv 15 (.t 5),
            .bin 16 .add (.t 15) (.c (I 1)),
            .mv 5 (.t 16)])))))
def L.laws_eqStringS_0 : Lp := ⟨[0, 1, 5], [(2, 0)], LB.laws_eqStringS_0⟩
@[go_sem] theorem L.laws_eqStringS_0_ls : L.laws_eqStringS_0.ls = [0, 1, 5] := rfl
@[go_sem] theorem L.laws_eqStringS_0_ks : L.laws_eqStringS_0.ks = [(2, 0)] := rfl
@[go_sem] theorem L.laws_eqStringS_0_b : L.laws_eqStringS_0.body = LB.laws_eqStringS_0 := rfl
def A.laws_eqStringS : AF where
  nargs := 2
  ntmps := 26
  res := [.tmp 4]
  body :=
    (.seq
     (.reg [.mv 4 (.c (B false))])
    (.seq
     (.seq
      (.reg [.mv 6 (.t 0),
        .len 7 (.t 6),
        .mv 8 (.t 1),
        .len 9 (.t 8),
        .bin 10 .neq (.t 7) (.t 9)])
     (.keep [0, 1, 10]
      (.cond (.t 10)
       (.seq
        (.reg [.mv 4 (.c (B false))])
       (.keep [4]
        .ret))
       .skip)))
    (.keep [0, 1]
     (.seq
      (.seq
       (.reg [.mv 5 (.c (I 0))])
      (.block 0
       (lpC L.laws_eqStringS_0)))
     (.keep []
      (.seq
       (.reg [.mv 4 (.c (B true))])
      (.keep [4]
       .ret)))))))
def A.laws_szTerm : AF where
  nargs := 2
  ntmps := 19
  res := [.tmp 4]
  body :=
    (.seq
     (.reg [.new 2 (.t 0),
       .mv 4 (.c (I 0))])
    (.seq
     (.reg [.mv 5 (.t 1),
       .fa 6 (.t 2) 1,
       .ld 7 false 1 (.t 6),
       .slen 8 (.t 7),
       .bin 9 .sub (.t 5) (.t 8),
       .mv 1 (.t 9)])
    (.keep [1, 2]
     (.seq
      (.seq
       (.reg [.mv 10 (.t 1),
         .bin 11 .lss (.t 10) (.c (I 0))])
      (.cond (.t 11)
       (.seq
        (.reg [.mv 4 (.c (I (-1)))])
       (.keep [4]
        .ret))
       .skip))
     (.keep [1, 2]
      (.seq
       (.reg [.fa 12 (.t 2) 3,
         .ld 13 false 1 (.t 12),
         .mv 14 (.t 1),
         .call (some 15) (.c (Fc F.laws_szTermS)) [(.t 13), (.t 14)] (.ro false),
         .mv 1 (.t 15)])
      (.keep [1]
       (.seq
        (.seq
         (.reg [.mv 16 (.t 1),
           .bin 17 .lss (.t 16) (.c (I 0))])
        (.cond (.t 17)
         (.seq
          (.reg [.mv 4 (.c (I (-1)))])
         (.keep [4]
          .ret))
         .skip))
       (.keep [1]
        (.seq
         (.reg [.mv 18 (.t 1),
           .mv 4 (.t 18)])
        (.keep [4]
         .ret)))))))))))
def A.spec_TermOk : AF where
  nargs := 1
  ntmps := 10
  res := [.tmp 2]
  body :=
    (.seq
     (.reg [.new 1 (.t 0),
       .mv 2 (.c (B false))])
    (.seq
     (.reg [.ld 3 true 4 (.t 1),
       .call (some 4) (.c (Fc F.spec_l03Count)) [(.t 3), (.c (I 400))] (.ro false),
       .bin 5 .geq (.t 4) (.c (I 0)),
       .mv 6 (.t 5),
       .gd 6 true (some 7) (.ld 7 true 4 (.t 1)),
       .gd 6 true (some 8) (.call (some 8) (.c (Fc F.spec_l03Right)) [(.t 7), (.c (I 1))] (.ro false)),
       .pick 9 (.t 6) (.t 8) (.c (B false)),
       .mv 2 (.t 9)])
    (.keep [2]
     .ret)))
def A.spec_PrioOf : AF where
  nargs := 1
  ntmps := 24
  res := [.tmp 2]
  body :=
    (.seq
     (.reg [.new 1 (.t 0),
       .mv 2 (.c (I 0))])
    (.seq
     (.seq
      (.reg [.fa 5 (.t 1) 0,
        .ld 6 false 1 (.t 5),
        .bin 7 .neq (.t 6) (.c (I 4)),
        .mv 8 (.t 7),
        .gd 8 false (some 9) (.fa 9 (.t 1) 3),
        .gd 8 false (some 10) (.ld 10 false 1 (.t 9)),
        .gd 8 false (some 11) (.len 11 (.t 10)),
        .gd 8 false (some 12) (.bin 12 .neq (.t 11) (.c (I 2))),
        .pick 13 (.t 8) (.c (B true)) (.t 12)])
     (.keep [1, 13]
      (.cond (.t 13)
       (.seq
        (.reg [.mv 2 (.c (I 0))])
       (.keep [2]
        .ret))
       .skip)))
    (.keep [1]
     (.seq
      (.reg [.fa 15 (.t 1) 1,
        .ld 16 false 1 (.t 15),
        .call (some 17) (.c (Fc F.spec_InfixOf)) [(.t 16)] (.ro false),
        .mv 14 (.t 17),
        .ext 18 (.t 14) 0,
        .ext 19 (.t 14) 1,
        .new 3 (.c (.a [(S []), (I 0), (I 0), (I 0)])),
        .st 4 (.t 3) (.t 18),
        .mv 4 (.t 19)])
     (.keep [3, 4]
      (.seq
       (.seq
        (.reg [.mv 20 (.t 4),
          .un 21 .not (.t 20)])
       (.cond (.t 21)
        (.seq
         (.reg [.mv 2 (.c (I 0))])
        (.keep [2]
         .ret))
        .skip))
      (.keep [3]
       (.seq
        (.reg [.fa 22 (.t 3) 1,
          .ld 23 false 1 (.t 22),
          .mv 2 (.t 23)])
       (.keep [2]
        .ret)))))))))
def A.spec_WritePlain : AF where
  nargs := 1
  ntmps := 8
  res := [.tmp 2]
  body :=
    (.seq
     (.reg [.new 1 (.t 0),
       .mv 2 (.c (S []))])
    (.seq
     (.seq
      (.reg [.ld 3 true 4 (.t 1),
        .call (some 4) (.c (Fc F.spec_TermOk)) [(.t 3)] (.ro true),
        .un 5 .not (.t 4)])
     (.cond (.t 5)
      (.seq
       (.reg [.mv 2 (.c (S []))])
      (.keep [2]
       .ret))
      .skip))
    (.keep [1]
     (.seq
      (.reg [.ld 6 true 4 (.t 1),
        .call (some 7) (.c (Fc F.spec_l28Write)) [(.t 6)] (.ro false),
        .mv 2 (.t 7)])
     (.keep [2]
      .ret)))))
def A.spec_ClauseTerm : AF where
  nargs := 1
  ntmps := 8
  res := [.cell 2 true 4]
  body :=
    (.seq
     (.reg [.new 1 (.t 0),
       .new 2 (.c (.a [(I 0), (S []), (I 0), (.n 4)]))])
    (.seq
     (.reg [.ld 4 true 9 (.t 1),
       .call (some 5) (.c (Fc F.spec_l08ClauseTermRaw)) [(.t 4)] (.ro false),
       .new 3 (.c (.a [(I 0), (S []), (I 0), (.n 4)])),
       .st 4 (.t 3) (.t 5)])
    (.keep [2, 3]
     (.seq
      (.reg [.ld 6 true 4 (.t 3),
        .call (some 7) (.c (Fc F.spec_l34Term)) [(.t 6)] (.ro false),
        .st 4 (.t 2) (.t 7)])
     (.keep [2]
      .ret)))))
def LB.spec_l28Write_0 : AC :=
            (.seq
             (.seq
              (.reg [.mv 59 (.t 7),
                .fa 60 (.t 1) 3,
                .ld 61 false 1 (.t 60),
                .len 62 (.t 61),
                .bin 63 .lss (.t 59) (.t 62)])
             (.keep [1, 6, 7, 63]
              (.cond (.t 63)
               .skip
               (.keep [6]
                (.exit 0)))))
            (.keep [1, 6, 7]
             (.seq
              (.block 1
               (.seq
                (.seq
                 (.reg [.mv 66 (.t 7),
                   .bin 67 .gtr (.t 66) (.c (I 0))])
                (.cond (.t 67)
                 (.reg [.mv 68 (.t 6),
                   .bin 69 .add (.t 68) (.c (S [44])),
                   .mv 6 (.t 69)])
                 .skip))
               (.keep [1, 6, 7]
                (.reg [.mv 70 (.t 6),
                  .fa 71 (.t 1) 3,
                  .ld 72 false 1 (.t 71),
                  .mv 73 (.t 7),
                  .ia 74 4 (.t 72) (.t 73),
                  .ld 75 true 4 (.t 74),
                  .call (some 76) (.c (Fc F.spec_l28Held)) [(.t 75), (.c (I 999))] (.ro false),
                  .bin 77 .add (.t 70) (.t 76),
                  .mv 6 (.t 77)]))))
             (.keep [1, 6, 7]
              (.reg [.mv 64 (.t 7),
                .bin 65 .add (.t 64) (.c (I 1)),
                .mv 7 (.t 65)])))))
def L.spec_l28Write_0 : Lp := ⟨[1, 6, 7], [(1, 0)], LB.spec_l28Write_0⟩
@[go_sem] theorem L.spec_l28Write_0_ls : L.spec_l28Write_0.ls = [1, 6, 7] := rfl
@[go_sem] theorem L.spec_l28Write_0_ks : L.spec_l28Write_0.ks = [(1, 0)] := rfl
@[go_sem] theorem L.spec_l28Write_0_b : L.spec_l28Write_0.body = LB.spec_l28Write_0 := rfl
def A.spec_l28Write : AF where
  nargs := 1
  ntmps := 80
  res := [.tmp 2]
  body :=
    (.seq
     (.reg [.new 1 (.t 0),
       .mv 2 (.c (S []))])
    (.seq
     (.seq
      (.reg [.fa 8 (.t 1) 0,
        .ld 9 false 1 (.t 8),
        .bin 10 .neq (.t 9) (.c (I 4))])
     (.cond (.t 10)
      (.seq
       (.reg [.ld 11 true 4 (.t 1),
         .call (some 12) (.c (Fc F.spec_l07Write)) [(.t 11)] (.ro false),
         .mv 2 (.t 12)])
      (.keep [2]
       .ret))
      .skip))
    (.keep [1]
     (.seq
      (.seq
       (.reg [.ld 13 true 4 (.t 1),
         .call (some 14) (.c (Fc F.spec_l03Is)) [(.t 13), (.c (S [46])), (.c (I 2))] (.ro true)])
      (.cond (.t 14)
       (.seq
        (.reg [.ld 15 true 4 (.t 1),
          .call (some 16) (.c (Fc F.spec_l28Row)) [(.t 15)] (.ro false),
          .mv 2 (.t 16)])
       (.keep [2]
        .ret))
       .skip))
     (.keep [1]
      (.seq
       (.reg [.fa 18 (.t 1) 1,
         .ld 19 false 1 (.t 18),
         .call (some 20) (.c (Fc F.spec_InfixOf)) [(.t 19)] (.ro false),
         .mv 17 (.t 20),
         .ext 21 (.t 17) 0,
         .ext 22 (.t 17) 1,
         .new 3 (.c (.a [(S []), (I 0), (I 0), (I 0)])),
         .st 4 (.t 3) (.t 21),
         .mv 4 (.t 22)])
      (.keep [1, 3, 4]
       (.seq
        (.seq
         (.reg [.mv 23 (.t 4),
           .mv 24 (.t 23),
           .gd 24 true (some 25) (.fa 25 (.t 1) 3),
           .gd 24 true (some 26) (.ld 26 false 1 (.t 25)),
           .gd 24 true (some 27) (.len 27 (.t 26)),
           .gd 24 true (some 28) (.bin 28 .eql (.t 27) (.c (I 2))),
           .pick 29 (.t 24) (.t 28) (.c (B false))])
        (.keep [1, 3, 29]
         (.cond (.t 29)
          (.seq
           (.reg [.fa 30 (.t 1) 1,
             .ld 31 false 1 (.t 30),
             .call (some 32) (.c (Fc F.spec_AtomText)) [(.t 31)] (.ro false),
             .mv 5 (.t 32)])
          (.keep [1, 3, 5]
           (.seq
            (.seq
             (.reg [.fa 33 (.t 1) 1,
               .ld 34 false 1 (.t 33),
               .bin 35 .eql (.t 34) (.c (S [44]))])
            (.cond (.t 35)
             (.reg [.mv 5 (.c (S [44]))])
             .skip))
           (.keep [1, 3, 5]
            (.seq
             (.dreg [⟨0, []⟩, ⟨0, [(0, 0), (0, 1), (0, 2), (0, 3), (1, 0), (100000, 0), (100000, 1), (100000, 2), (100000, 3), (100000, 4), (100000, 5)]⟩, ⟨0, [(0, 0), (0, 1), (0, 2), (0, 3), (1, 0), (37, 0), (100000, 0), (100000, 1), (100000, 2), (100000, 3), (100000, 4), (100000, 5)]⟩, ⟨0, [(0, 0), (0, 1), (0, 2), (0, 3), (1, 0), (37, 0), (100000, 0), (100000, 1), (100000, 2), (100000, 3), (100000, 4), (100000, 5)]⟩, ⟨0, []⟩, ⟨0, [(0, 0), (0, 1), (0, 2), (0, 3), (1, 0), (3, 0), (19, 0), (20, 0), (20, 1), (20, 2), (20, 3), (100000, 0), (100000, 1), (100000, 2), (100000, 3), (100000, 4), (100000, 5)]⟩, ⟨2, [(0, 0), (0, 1), (0, 2), (0, 3), (1, 0), (3, 0), (19, 0), (20, 0), (20, 1), (20, 2), (20, 3), (37, 0), (39, 0), (41, 0), (100000, 0), (100000, 1), (100000, 2), (100000, 3), (100000, 4), (100000, 5)]⟩, ⟨0, []⟩, ⟨0, []⟩, ⟨0, []⟩, ⟨0, []⟩, ⟨0, []⟩, ⟨0, [(0, 0), (0, 1), (0, 2), (0, 3), (1, 0), (100000, 0), (100000, 1), (100000, 2), (100000, 3), (100000, 4), (100000, 5)]⟩, ⟨0, [(0, 0), (0, 1), (0, 2), (0, 3), (1, 0), (48, 0), (100000, 0), (100000, 1), (100000, 2), (100000, 3), (100000, 4), (100000, 5)]⟩, ⟨0, [(0, 0), (0, 1), (0, 2), (0, 3), (1, 0), (48, 0), (100000, 0), (100000, 1), (100000, 2), (100000, 3), (100000, 4), (100000, 5)]⟩, ⟨0, []⟩, ⟨0, [(0, 0), (0, 1), (0, 2), (0, 3), (1, 0), (3, 0), (19, 0), (20, 0), (20, 1), (20, 2), (20, 3), (100000, 0), (100000, 1), (100000, 2), (100000, 3), (100000, 4), (100000, 5)]⟩, ⟨2, [(0, 0), (0, 1), (0, 2), (0, 3), (1, 0), (3, 0), (19, 0), (20, 0), (20, 1), (20, 2), (20, 3), (48, 0), (50, 0), (52, 0), (100000, 0), (100000, 1), (100000, 2), (100000, 3), (100000, 4), (100000, 5)]⟩, ⟨0, []⟩, ⟨0, []⟩]
              [.fa 36 (.t 1) 3,
               .ldq 37 false 1 (.t 36),
               .ia 38 4 (.t 37) (.c (I 0)),
               .ldq 39 true 4 (.t 38),
               .fa 40 (.t 3) 2,
               .ldq 41 false 1 (.t 40),
               .call (some 42) (.c (Fc F.spec_l28Held)) [(.t 39), (.t 41)] (.ro false),
               .bin 43 .add (.t 42) (.c (S [32])),
               .mv 44 (.t 5),
               .bin 45 .add (.t 43) (.t 44),
               .bin 46 .add (.t 45) (.c (S [32])),
               .fa 47 (.t 1) 3,
               .ldq 48 false 1 (.t 47),
               .ia 49 4 (.t 48) (.c (I 1)),
               .ldq 50 true 4 (.t 49),
               .fa 51 (.t 3) 3,
               .ldq 52 false 1 (.t 51),
               .call (some 53) (.c (Fc F.spec_l28Held)) [(.t 50), (.t 52)] (.ro false),
               .bin 54 .add (.t 46) (.t 53),
               .mv 2 (.t 54)])
            (.keep [2]
             .ret))))))
          .skip)))
       (.keep [1]
        (.seq
         (.reg [.fa 55 (.t 1) 1,
           .ld 56 false 1 (.t 55),
           .call (some 57) (.c (Fc F.spec_AtomText)) [(.t 56)] (.ro false),
           .bin 58 .add (.t 57) (.c (S [40])),
           .mv 6 (.t 58)])
        (.keep [1, 6]
         (.seq
          (.seq
           (.reg [.mv 7 (.c (I 0))])
          (.block 0
           (lpC L.spec_l28Write_0)))
         (.keep [6]
          (.seq
           (.reg [.mv 78 (.t 6),
             .bin 79 .add (.t 78) (.c (S [41])),
             .mv 2 (.t 79)])
          (.keep [2]
           .ret)))))))))))))))
def A.spec_l27True : AF where
  nargs := 1
  ntmps := 11
  res := [.tmp 2]
  body :=
    (.seq
     (.reg [.new 1 (.t 0),
       .mv 2 (.c (B false))])
    (.seq
     (.reg [.fa 3 (.t 1) 0,
       .ld 4 false 1 (.t 3),
       .bin 5 .eql (.t 4) (.c (I 2)),
       .mv 6 (.t 5),
       .gd 6 true (some 7) (.fa 7 (.t 1) 1),
       .gd 6 true (some 8) (.ld 8 false 1 (.t 7)),
       .gd 6 true (some 9) (.bin 9 .eql (.t 8) (.c (S [116, 114, 117, 101]))),
       .pick 10 (.t 6) (.t 9) (.c (B false)),
       .mv 2 (.t 10)])
    (.keep [2]
     .ret)))
def A.spec_l03Is : AF where
  nargs := 3
  ntmps := 23
  res := [.tmp 6]
  body :=
    (.seq
     (.reg [.new 3 (.t 0),
       .mv 6 (.c (B false))])
    (.seq
     (.reg [.fa 7 (.t 3) 0,
       .ld 8 false 1 (.t 7),
       .bin 9 .eql (.t 8) (.c (I 4)),
       .mv 10 (.t 9),
       .gd 10 true (some 11) (.fa 11 (.t 3) 1),
       .gd 10 true (some 12) (.ld 12 false 1 (.t 11)),
       .gd 10 true (some 13) (.mv 13 (.t 1)),
       .gd 10 true (some 14) (.bin 14 .eql (.t 12) (.t 13)),
       .pick 15 (.t 10) (.t 14) (.c (B false)),
       .mv 16 (.t 15),
       .gd 16 true (some 17) (.fa 17 (.t 3) 3),
       .gd 16 true (some 18) (.ld 18 false 1 (.t 17)),
       .gd 16 true (some 19) (.len 19 (.t 18)),
       .gd 16 true (some 20) (.mv 20 (.t 2)),
       .gd 16 true (some 21) (.bin 21 .eql (.t 19) (.t 20)),
       .pick 22 (.t 16) (.t 21) (.c (B false)),
       .mv 6 (.t 22)])
    (.keep [6]
     .ret)))
def A.spec_l28Held : AF where
  nargs := 2
  ntmps := 15
  res := [.tmp 4]
  body :=
    (.seq
     (.reg [.new 2 (.t 0),
       .mv 4 (.c (S []))])
    (.seq
     (.seq
      (.reg [.ld 5 true 4 (.t 2),
        .call (some 6) (.c (Fc F.spec_PrioOf)) [(.t 5)] (.ro true),
        .mv 7 (.t 1),
        .bin 8 .gtr (.t 6) (.t 7)])
     (.keep [2, 8]
      (.cond (.t 8)
       (.seq
        (.reg [.ld 9 true 4 (.t 2),
          .call (some 10) (.c (Fc F.spec_l28Write)) [(.t 9)] (.ro false),
          .bin 11 .add (.c (S [40])) (.t 10),
          .bin 12 .add (.t 11) (.c (S [41])),
          .mv 4 (.t 12)])
       (.keep [4]
        .ret))
       .skip)))
    (.keep [2]
     (.seq
      (.reg [.ld 13 true 4 (.t 2),
        .call (some 14) (.c (Fc F.spec_l28Write)) [(.t 13)] (.ro false),
        .mv 4 (.t 14)])
     (.keep [4]
      .ret)))))
def A.laws_toTerm : AF where
  nargs := 1
  ntmps := 18
  res := [.cell 2 true 4]
  body :=
    (.seq
     (.reg [.new 1 (.t 0),
       .new 2 (.c (.a [(I 0), (S []), (I 0), (.n 4)]))])
    (.seq
     (.reg [.new 3 (.c (.a [(I 0), (S []), (I 0), (.n 4)]))])
    (.seq
     (.reg [.fa 4 (.t 1) 0,
       .ld 5 false 1 (.t 4),
       .fa 6 (.t 3) 0,
       .st 1 (.t 6) (.t 5)])
    (.keep [1, 2, 3]
     (.seq
      (.reg [.fa 7 (.t 1) 1,
        .ld 8 false 1 (.t 7),
        .fa 9 (.t 3) 1,
        .st 1 (.t 9) (.t 8)])
     (.keep [1, 2, 3]
      (.seq
       (.reg [.fa 10 (.t 1) 2,
         .ld 11 false 1 (.t 10),
         .fa 12 (.t 3) 2,
         .st 1 (.t 12) (.t 11)])
      (.keep [1, 2, 3]
       (.seq
        (.reg [.fa 13 (.t 1) 3,
          .ld 14 false 1 (.t 13),
          .call (some 15) (.c (Fc F.laws_toTermS)) [(.t 14)] (.ro false),
          .fa 16 (.t 3) 3,
          .st 1 (.t 16) (.t 15)])
       (.keep [2, 3]
        (.seq
         (.reg [.ld 17 true 4 (.t 3),
           .st 4 (.t 2) (.t 17)])
        (.keep [2]
         .ret))))))))))))
def A.impl_TermOk : AF where
  nargs := 1
  ntmps := 6
  res := [.tmp 2]
  body :=
    (.seq
     (.reg [.new 1 (.t 0),
       .mv 2 (.c (B false))])
    (.seq
     (.reg [.ld 3 true 4 (.t 1),
       .call (some 4) (.c (Fc F.impl_sized)) [(.t 3), (.c (I 1))] (.ro false),
       .bin 5 .leq (.t 4) (.c (I 400)),
       .mv 2 (.t 5)])
    (.keep [2]
     .ret)))
def A.impl_PrioOf : AF where
  nargs := 1
  ntmps := 16
  res := [.tmp 2]
  body :=
    (.seq
     (.reg [.new 1 (.t 0),
       .mv 2 (.c (I 0))])
    (.seq
     (.seq
      (.reg [.ld 5 true 4 (.t 1),
        .call (some 6) (.c (Fc F.impl_isInfix)) [(.t 5)] (.ro true),
        .un 7 .not (.t 6)])
     (.cond (.t 7)
      (.seq
       (.reg [.mv 2 (.c (I 0))])
      (.keep [2]
       .ret))
      .skip))
    (.keep [1]
     (.seq
      (.reg [.fa 9 (.t 1) 1,
        .ld 10 false 1 (.t 9),
        .call (some 11) (.c (Fc F.impl_InfixOf)) [(.t 10)] (.ro false),
        .mv 8 (.t 11),
        .ext 12 (.t 8) 0,
        .ext 13 (.t 8) 1,
        .new 3 (.c (.a [(S []), (I 0), (I 0), (I 0)])),
        .st 4 (.t 3) (.t 12),
        .mv 4 (.t 13)])
     (.keep [3]
      (.seq
       (.reg [.fa 14 (.t 3) 1,
         .ld 15 false 1 (.t 14),
         .mv 2 (.t 15)])
      (.keep [2]
       .ret)))))))
def A.impl_WritePlain : AF where
  nargs := 1
  ntmps := 8
  res := [.tmp 2]
  body :=
    (.seq
     (.reg [.new 1 (.t 0),
       .mv 2 (.c (S []))])
    (.seq
     (.seq
      (.reg [.ld 3 true 4 (.t 1),
        .call (some 4) (.c (Fc F.impl_TermOk)) [(.t 3)] (.ro true),
        .un 5 .not (.t 4)])
     (.cond (.t 5)
      (.seq
       (.reg [.mv 2 (.c (S []))])
      (.keep [2]
       .ret))
      .skip))
    (.keep [1]
     (.seq
      (.reg [.ld 6 true 4 (.t 1),
        .call (some 7) (.c (Fc F.impl_plain)) [(.t 6)] (.ro false),
        .mv 2 (.t 7)])
     (.keep [2]
      .ret)))))
def A.impl_ClauseTerm : AF where
  nargs := 1
  ntmps := 11
  res := [.cell 2 true 4]
  body :=
    (.seq
     (.reg [.new 1 (.t 0),
       .new 2 (.c (.a [(I 0), (S []), (I 0), (.n 4)]))])
    (.seq
     (.dreg [⟨0, []⟩, ⟨0, [(0, 0), (0, 1), (0, 2), (0, 3), (1, 0)]⟩, ⟨2, [(0, 0), (0, 1), (0, 2), (0, 3), (1, 0), (4, 0)]⟩, ⟨0, []⟩, ⟨0, [(0, 0), (0, 1), (0, 2), (0, 3), (1, 0)]⟩, ⟨2, [(0, 0), (0, 1), (0, 2), (0, 3), (1, 0), (7, 0)]⟩, ⟨1, []⟩, ⟨1, [(0, 0), (0, 1), (0, 2), (0, 3), (1, 0), (4, 0), (5, 0), (5, 1), (5, 2), (5, 3), (7, 0), (8, 0), (8, 1), (8, 2), (8, 3), (9, 0)]⟩, ⟨1, [(0, 0), (0, 1), (0, 2), (0, 3), (1, 0), (2, 0), (4, 0), (5, 0), (5, 1), (5, 2), (5, 3), (7, 0), (8, 0), (8, 1), (8, 2), (8, 3), (9, 0), (10, 0), (10, 1), (10, 2), (10, 3)]⟩]
      [.fa 3 (.t 1) 0,
       .ldq 4 true 4 (.t 3),
       .call (some 5) (.c (Fc F.impl_copyTerm)) [(.t 4)] (.ro false),
       .fa 6 (.t 1) 4,
       .ldq 7 true 4 (.t 6),
       .call (some 8) (.c (Fc F.impl_copyTerm)) [(.t 7)] (.ro false),
       .mks 9 4 [(.t 5), (.t 8)],
       .call (some 10) (.c (Fc F.impl_structure)) [(.c (S [58, 45])), (.t 9)] (.io false),
       .st 4 (.t 2) (.t 10)])
    (.keep [2]
     .ret)))
def A.impl_isAtom : AF where
  nargs := 2
  ntmps := 14
  res := [.tmp 4]
  body :=
    (.seq
     (.reg [.new 2 (.t 0),
       .mv 4 (.c (B false))])
    (.seq
     (.reg [.fa 5 (.t 2) 0,
       .ld 6 false 1 (.t 5),
       .bin 7 .eql (.t 6) (.c (I 2)),
       .mv 8 (.t 7),
       .gd 8 true (some 9) (.fa 9 (.t 2) 1),
       .gd 8 true (some 10) (.ld 10 false 1 (.t 9)),
       .gd 8 true (some 11) (.mv 11 (.t 1)),
       .gd 8 true (some 12) (.bin 12 .eql (.t 10) (.t 11)),
       .pick 13 (.t 8) (.t 12) (.c (B false)),
       .mv 4 (.t 13)])
    (.keep [4]
     .ret)))
def A.impl_isStruct : AF where
  nargs := 3
  ntmps := 23
  res := [.tmp 6]
  body :=
    (.seq
     (.reg [.new 3 (.t 0),
       .mv 6 (.c (B false))])
    (.seq
     (.reg [.fa 7 (.t 3) 0,
       .ld 8 false 1 (.t 7),
       .bin 9 .eql (.t 8) (.c (I 4)),
       .mv 10 (.t 9),
       .gd 10 true (some 11) (.fa 11 (.t 3) 1),
       .gd 10 true (some 12) (.ld 12 false 1 (.t 11)),
       .gd 10 true (some 13) (.mv 13 (.t 1)),
       .gd 10 true (some 14) (.bin 14 .eql (.t 12) (.t 13)),
       .pick 15 (.t 10) (.t 14) (.c (B false)),
       .mv 16 (.t 15),
       .gd 16 true (some 17) (.fa 17 (.t 3) 3),
       .gd 16 true (some 18) (.ld 18 false 1 (.t 17)),
       .gd 16 true (some 19) (.len 19 (.t 18)),
       .gd 16 true (some 20) (.mv 20 (.t 2)),
       .gd 16 true (some 21) (.bin 21 .eql (.t 19) (.t 20)),
       .pick 22 (.t 16) (.t 21) (.c (B false)),
       .mv 6 (.t 22)])
    (.keep [6]
     .ret)))
def A.impl_bracketed : AF where
  nargs := 2
  ntmps := 15
  res := [.tmp 4]
  body :=
    (.seq
     (.reg [.new 2 (.t 0),
       .mv 4 (.c (S []))])
    (.seq
     (.seq
      (.reg [.ld 5 true 4 (.t 2),
        .call (some 6) (.c (Fc F.impl_PrioOf)) [(.t 5)] (.ro true),
        .mv 7 (.t 1),
        .bin 8 .gtr (.t 6) (.t 7)])
     (.keep [2, 8]
      (.cond (.t 8)
       (.seq
        (.reg [.ld 9 true 4 (.t 2),
          .call (some 10) (.c (Fc F.impl_plain)) [(.t 9)] (.ro false),
          .bin 11 .add (.c (S [40])) (.t 10),
          .bin 12 .add (.t 11) (.c (S [41])),
          .mv 4 (.t 12)])
       (.keep [4]
        .ret))
       .skip)))
    (.keep [2]
     (.seq
      (.reg [.ld 13 true 4 (.t 2),
        .call (some 14) (.c (Fc F.impl_plain)) [(.t 13)] (.ro false),
        .mv 4 (.t 14)])
     (.keep [4]
      .ret)))))
def A.laws_eqTerm : AF where
  nargs := 2
  ntmps := 26
  res := [.tmp 4]
  body :=
    (.seq
     (.reg [.new 2 (.t 0),
       .new 3 (.t 1),
       .mv 4 (.c (B false))])
    (.seq
     (.seq
      (.reg [.fa 5 (.t 2) 0,
        .ld 6 false 1 (.t 5),
        .fa 7 (.t 3) 0,
        .ld 8 false 1 (.t 7),
        .bin 9 .neq (.t 6) (.t 8)])
     (.keep [2, 3, 9]
      (.cond (.t 9)
       (.seq
        (.reg [.mv 4 (.c (B false))])
       (.keep [4]
        .ret))
       .skip)))
    (.keep [2, 3]
     (.seq
      (.seq
       (.reg [.fa 10 (.t 2) 1,
         .ld 11 false 1 (.t 10),
         .fa 12 (.t 3) 1,
         .ld 13 false 1 (.t 12),
         .bin 14 .neq (.t 11) (.t 13)])
      (.keep [2, 3, 14]
       (.cond (.t 14)
        (.seq
         (.reg [.mv 4 (.c (B false))])
        (.keep [4]
         .ret))
        .skip)))
     (.keep [2, 3]
      (.seq
       (.seq
        (.reg [.fa 15 (.t 2) 2,
          .ld 16 false 1 (.t 15),
          .fa 17 (.t 3) 2,
          .ld 18 false 1 (.t 17),
          .bin 19 .neq (.t 16) (.t 18)])
       (.keep [2, 3, 19]
        (.cond (.t 19)
         (.seq
          (.reg [.mv 4 (.c (B false))])
         (.keep [4]
          .ret))
         .skip)))
      (.keep [2, 3]
       (.seq
        (.seq
         (.reg [.fa 20 (.t 2) 3,
           .ld 21 false 1 (.t 20),
           .fa 22 (.t 3) 3,
           .ld 23 false 1 (.t 22),
           .call (some 24) (.c (Fc F.laws_eqTermS)) [(.t 21), (.t 23)] (.ro true),
           .un 25 .not (.t 24)])
        (.keep [25]
         (.cond (.t 25)
          (.seq
           (.reg [.mv 4 (.c (B false))])
          (.keep [4]
           .ret))
          .skip)))
       (.keep []
        (.seq
         (.reg [.mv 4 (.c (B true))])
        (.keep [4]
         .ret)))))))))))
def LB.laws_szTermS_0 : AC :=
         (.seq
          (.seq
           (.reg [.mv 12 (.t 5),
             .mv 13 (.t 0),
             .len 14 (.t 13),
             .bin 15 .lss (.t 12) (.t 14)])
          (.keep [0, 1, 5, 15]
           (.cond (.t 15)
            .skip
            (.keep [1]
             (.exit 0)))))
         (.keep [0, 1, 5]
          (.seq
           (.block 1
            (.seq
             (.reg [.mv 18 (.t 0),
               .mv 19 (.t 5),
               .ia 20 4 (.t 18) (.t 19),
               .ld 21 true 4 (.t 20),
               .mv 22 (.t 1),
               .call (some 23) (.c (Fc F.laws_szTerm)) [(.t 21), (.t 22)] (.ro false),
               .mv 1 (.t 23)])
            (.keep [0, 1, 5]
             (.seq
              (.reg [.mv 24 (.t 1),
                .bin 25 .lss (.t 24) (.c (I 0))])
             (.cond (.t 25)
              (.seq
               (.reg [.mv 4 (.c (I (-1)))])
              (.keep [4]
               .ret))
              .skip)))))
          (.keep [0, 1, 5]
           (.reg [.mv 16 (.t 5),
             .bin 17 .add (.t 16) (.c (I 1)),
             .mv 5 (.t 17)])))))
def L.laws_szTermS_0 : Lp := ⟨[0, 1, 5], [(2, 0)], LB.laws_szTermS_0⟩
@[go_sem] theorem L.laws_szTermS_0_ls : L.laws_szTermS_0.ls = [0, 1, 5] := rfl
@[go_sem] theorem L.laws_szTermS_0_ks : L.laws_szTermS_0.ks = [(2, 0)] := rfl
@[go_sem] theorem L.laws_szTermS_0_b : L.laws_szTermS_0.body = LB.laws_szTermS_0 := rfl
def A.laws_szTermS : AF where
  nargs := 2
  ntmps := 27
  res := [.tmp 4]
  body :=
    (.seq
     (.reg [.mv 4 (.c (I 0))])
    (.seq
     (.reg [.mv 6 (.t 1),
       .mv 7 (.t 0),
       .len 8 (.t 7),
       .bin 9 .sub (.t 6) (.t 8),
       .mv 1 (.t 9)])
    (.keep [0, 1]
     (.seq
      (.seq
       (.reg [.mv 10 (.t 1),
         .bin 11 .lss (.t 10) (.c (I 0))])
      (.cond (.t 11)
       (.seq
        (.reg [.mv 4 (.c (I (-1)))])
       (.keep [4]
        .ret))
       .skip))
     (.keep [0, 1]
      (.seq
       (.seq
        (.reg [.mv 5 (.c (I 0))])
       (.block 0
        (lpC L.laws_szTermS_0)))
      (.keep [1]
       (.seq
        (.reg [.mv 26 (.t 1),
          .mv 4 (.t 26)])
       (.keep [4]
        .ret)))))))))
def LB.spec_l31Lines_0 : AC :=
       (.seq
        (.seq
         (.reg [.mv 5 (.t 4),
           .mv 6 (.t 0),
           .len 7 (.t 6),
           .bin 8 .lss (.t 5) (.t 7)])
        (.keep [0, 3, 4, 8]
         (.cond (.t 8)
          .skip
          (.keep [3]
           (.exit 0)))))
       (.keep [0, 3, 4]
        (.seq
         (.block 1
          (.reg [.mv 11 (.t 3),
            .mv 12 (.t 0),
            .mv 13 (.t 4),
            .ia 14 1 (.t 12) (.t 13),
            .ld 15 false 1 (.t 14),
            .bin 16 .add (.t 11) (.t 15),
            .bin 17 .add (.t 16) (.c (S [10])),
            .mv 3 (.t 17)]))
        (.keep [0, 3, 4]
         (.reg [.mv 9 (.t 4),
           .bin 10 .add (.t 9) (.c (I 1)),
           .mv 4 (.t 10)])))))
def L.spec_l31Lines_0 : Lp := ⟨[0, 3, 4], [(1, 0)], LB.spec_l31Lines_0⟩
@[go_sem] theorem L.spec_l31Lines_0_ls : L.spec_l31Lines_0.ls = [0, 3, 4] := rfl
@[go_sem] theorem L.spec_l31Lines_0_ks : L.spec_l31Lines_0.ks = [(1, 0)] := rfl
@[go_sem] theorem L.spec_l31Lines_0_b : L.spec_l31Lines_0.body = LB.spec_l31Lines_0 := rfl
def A.spec_l31Lines : AF where
  nargs := 1
  ntmps := 19
  res := [.tmp 2]
  body :=
    (.seq
     (.reg [.mv 2 (.c (S []))])
    (.seq
     (.reg [.mv 3 (.c (S []))])
    (.seq
     (.seq
      (.reg [.mv 4 (.c (I 0))])
     (.block 0
      (lpC L.spec_l31Lines_0)))
    (.keep [3]
     (.seq
      (.reg [.mv 18 (.t 3),
        .mv 2 (.t 18)])
     (.keep [2]
      .ret))))))
def LB.spec_l19Lines_0 : AC :=
       (.seq
        (.seq
         (.reg [.mv 6 (.t 4),
           .fa 7 (.t 1) 0,
           .ld 8 false 1 (.t 7),
           .len 9 (.t 8),
           .bin 10 .lss (.t 6) (.t 9)])
        (.keep [1, 3, 4, 10]
         (.cond (.t 10)
          .skip
          (.keep [1, 3]
           (.exit 0)))))
       (.keep [1, 3, 4]
        (.seq
         (.block 1
          (.reg [.mv 13 (.t 3),
            .fa 14 (.t 1) 0,
            .ld 15 false 1 (.t 14),
            .mv 16 (.t 4),
            .ia 17 4 (.t 15) (.t 16),
            .ld 18 true 4 (.t 17),
            .call (some 19) (.c (Fc F.spec_WriteTerm)) [(.t 18)] (.ro false),
            .bin 20 .add (.c (S [121, 101, 115, 32])) (.t 19),
            .mks 21 1 [(.t 20)],
            .app 22 1 16 (.t 13) (.t 21),
            .mv 3 (.t 22)]))
        (.keep [1, 3, 4]
         (.reg [.mv 11 (.t 4),
           .bin 12 .add (.t 11) (.c (I 1)),
           .mv 4 (.t 12)])))))
def L.spec_l19Lines_0 : Lp := ⟨[1, 3, 4], [(1, 0)], LB.spec_l19Lines_0⟩
@[go_sem] theorem L.spec_l19Lines_0_ls : L.spec_l19Lines_0.ls = [1, 3, 4] := rfl
@[go_sem] theorem L.spec_l19Lines_0_ks : L.spec_l19Lines_0.ks = [(1, 0)] := rfl
@[go_sem] theorem L.spec_l19Lines_0_b : L.spec_l19Lines_0.body = LB.spec_l19Lines_0 := rfl
def A.spec_l19Lines : AF where
  nargs := 1
  ntmps := 47
  res := [.tmp 2]
  body :=
    (.seq
     (.reg [.new 1 (.t 0),
       .mv 2 (.c (.n 1))])
    (.seq
     (.reg [.mks 5 1 [],
       .mv 3 (.t 5)])
    (.seq
     (.seq
      (.reg [.mv 4 (.c (I 0))])
     (.block 0
      (lpC L.spec_l19Lines_0)))
    (.keep [1, 3]
     (.seq
      (.seq
       (.reg [.fa 23 (.t 1) 1,
         .ld 24 false 1 (.t 23)])
      (.block 2
       (.seq
        (.reg [.bin 26 .eql (.t 24) (.c (I 0)),
          .mv 25 (.t 26)])
       (.cond (.t 25)
        (.seq
         (.reg [.mv 27 (.t 3),
           .mks 28 1 [(.c (S [110, 111]))],
           .app 29 1 16 (.t 27) (.t 28),
           .mv 2 (.t 29)])
        (.keep [2]
         .ret))
        (.seq
         (.reg [.bin 31 .eql (.t 24) (.c (I 1)),
           .mv 30 (.t 31)])
        (.cond (.t 30)
         (.seq
          (.reg [.mv 32 (.t 3),
            .mks 33 1 [(.c (S [115, 116, 111, 112]))],
            .app 34 1 16 (.t 32) (.t 33),
            .mv 2 (.t 34)])
         (.keep [2]
          .ret))
         (.seq
          (.reg [.bin 36 .eql (.t 24) (.c (I 2)),
            .mv 35 (.t 36)])
         (.cond (.t 35)
          (.seq
           (.reg [.mv 37 (.t 3),
             .fa 38 (.t 1) 2,
             .ld 39 true 4 (.t 38),
             .call (some 40) (.c (Fc F.spec_WriteTerm)) [(.t 39)] (.ro false),
             .bin 41 .add (.c (S [98, 97, 108, 108, 32])) (.t 40),
             .mks 42 1 [(.t 41)],
             .app 43 1 16 (.t 37) (.t 42),
             .mv 2 (.t 43)])
          (.keep [2]
           .ret))
          .skip))))))))
     (.keep [3]
      (.seq
       (.reg [.mv 44 (.t 3),
         .mks 45 1 [(.c (S [109, 111, 114, 101]))],
         .app 46 1 16 (.t 44) (.t 45),
         .mv 2 (.t 46)])
      (.keep [2]
       .ret))))))))
def LB.laws_toTermS_0 : AC :=
        (.seq
         (.seq
          (.reg [.mv 8 (.t 4),
            .mv 9 (.t 0),
            .len 10 (.t 9),
            .bin 11 .lss (.t 8) (.t 10)])
         (.keep [0, 3, 4, 11]
          (.cond (.t 11)
           .skip
           (.keep [3]
            (.exit 0)))))
        (.keep [0, 3, 4]
         (.seq
          (.block 1
           (.reg [.mv 14 (.t 3),
             .mv 15 (.t 4),
             .mv 16 (.t 0),
             .mv 17 (.t 4),
             .ia 18 4 (.t 16) (.t 17),
             .ld 19 true 4 (.t 18),
             .call (some 20) (.c (Fc F.laws_toTerm)) [(.t 19)] (.ro false),
             .ia 21 4 (.t 14) (.t 15),
             .st 4 (.t 21) (.t 20)]))
         (.keep [0, 3, 4]
          (.reg [.mv 12 (.t 4),
            .bin 13 .add (.t 12) (.c (I 1)),
            .mv 4 (.t 13)])))))
def L.laws_toTermS_0 : Lp := ⟨[0, 3, 4], [(1, 0)], LB.laws_toTermS_0⟩
@[go_sem] theorem L.laws_toTermS_0_ls : L.laws_toTermS_0.ls = [0, 3, 4] := rfl
@[go_sem] theorem L.laws_toTermS_0_ks : L.laws_toTermS_0.ks = [(1, 0)] := rfl
@[go_sem] theorem L.laws_toTermS_0_b : L.laws_toTermS_0.body = LB.laws_toTermS_0 := rfl
def A.laws_toTermS : AF where
  nargs := 1
  ntmps := 23
  res := [.tmp 2]
  body :=
    (.seq
     (.reg [.mv 2 (.c (.n 4))])
    (.seq
     (.reg [.mv 5 (.t 0),
       .len 6 (.t 5),
       .mk 7 4 (.a [(I 0), (S []), (I 0), (.n 4)]) 56 (.t 6) (.t 6),
       .mv 3 (.t 7)])
    (.keep [0, 3]
     (.seq
      (.seq
       (.reg [.mv 4 (.c (I 0))])
      (.block 0
       (lpC L.laws_toTermS_0)))
     (.keep [3]
      (.seq
       (.reg [.mv 22 (.t 3),
         .mv 2 (.t 22)])
      (.keep [2]
       .ret)))))))
def LB.impl_inLines_0 : AC :=
       (.seq
        (.reg [.bin 9 .lss (.t 8) (.t 7)])
       (.seq
        (.cond (.t 9)
         .skip
         (.keep [3]
          (.exit 0)))
       (.keep [3, 6, 7, 8]
        (.seq
         (.block 1
          (.seq
           (.reg [.ia 10 1 (.t 6) (.t 8),
             .ld 11 false 1 (.t 10),
             .mv 5 (.t 11)])
          (.reg [.mv 12 (.t 3),
            .mv 13 (.t 5),
            .bin 14 .add (.t 13) (.c (S [10])),
            .bin 15 .add (.t 12) (.t 14),
            .mv 3 (.t 15)])))
        (.keep [3, 6, 7, 8]
         (.reg [.bin 16 .add (.t 8) (.c (I 1)),
           .mv 8 (.t 16)]))))))
def L.impl_inLines_0 : Lp := ⟨[3, 6, 7, 8], [(1, 0)], LB.impl_inLines_0⟩
@[go_sem] theorem L.impl_inLines_0_ls : L.impl_inLines_0.ls = [3, 6, 7, 8] := rfl
@[go_sem] theorem L.impl_inLines_0_ks : L.impl_inLines_0.ks = [(1, 0)] := rfl
@[go_sem] theorem L.impl_inLines_0_b : L.impl_inLines_0.body = LB.impl_inLines_0 := rfl
def A.impl_inLines : AF where
  nargs := 1
  ntmps := 18
  res := [.tmp 2]
  body :=
    (.seq
     (.reg [.mv 2 (.c (S []))])
    (.seq
     (.reg [.mv 3 (.c (S []))])
    (.seq
     (.seq
      (.reg [.mv 6 (.t 0),
        .len 7 (.t 6),
        .mv 8 (.c (I 0))])
     (.block 0
      (lpC L.impl_inLines_0)))
    (.keep [3]
     (.seq
      (.reg [.mv 17 (.t 3),
        .mv 2 (.t 17)])
     (.keep [2]
      .ret))))))
def LB.impl_outcomeLines_0 : AC :=
        (.seq
         (.reg [.bin 10 .lss (.t 9) (.t 8)])
        (.seq
         (.cond (.t 10)
          .skip
          (.keep [1, 3]
           (.exit 0)))
        (.keep [1, 3, 7, 8, 9]
         (.seq
          (.block 1
           (.seq
            (.reg [.ia 11 4 (.t 7) (.t 9),
              .ld 12 true 4 (.t 11),
              .new 5 (.c (.a [(I 0), (S []), (I 0), (.n 4)])),
              .st 4 (.t 5) (.t 12)])
           (.keep [1, 3, 5, 7, 8, 9]
            (.reg [.mv 13 (.t 3),
              .ld 14 true 4 (.t 5),
              .call (some 15) (.c (Fc F.impl_WriteTerm)) [(.t 14)] (.ro false),
              .bin 16 .add (.c (S [121, 101, 115, 32])) (.t 15),
              .mks 17 1 [(.t 16)],
              .app 18 1 16 (.t 13) (.t 17),
              .mv 3 (.t 18)]))))
         (.keep [1, 3, 7, 8, 9]
          (.reg [.bin 19 .add (.t 9) (.c (I 1)),
            .mv 9 (.t 19)]))))))
def L.impl_outcomeLines_0 : Lp := ⟨[1, 3, 7, 8, 9], [(1, 0)], LB.impl_outcomeLines_0⟩
@[go_sem] theorem L.impl_outcomeLines_0_ls : L.impl_outcomeLines_0.ls = [1, 3, 7, 8, 9] := rfl
@[go_sem] theorem L.impl_outcomeLines_0_ks : L.impl_outcomeLines_0.ks = [(1, 0)] := rfl
@[go_sem] theorem L.impl_outcomeLines_0_b : L.impl_outcomeLines_0.body = LB.impl_outcomeLines_0 := rfl
def A.impl_outcomeLines : AF where
  nargs := 1
  ntmps := 45
  res := [.tmp 2]
  body :=
    (.seq
     (.reg [.new 1 (.t 0),
       .mv 2 (.c (.n 1))])
    (.seq
     (.reg [.mv 3 (.c (.n 1))])
    (.seq
     (.seq
      (.reg [.fa 6 (.t 1) 0,
        .ld 7 false 1 (.t 6),
        .len 8 (.t 7),
        .mv 9 (.c (I 0))])
     (.keep [1, 3, 7, 8, 9]
      (.block 0
       (lpC L.impl_outcomeLines_0))))
    (.keep [1, 3]
     (.seq
      (.seq
       (.reg [.fa 20 (.t 1) 1,
         .ld 21 false 1 (.t 20)])
      (.block 2
       (.seq
        (.reg [.bin 26 .eql (.t 21) (.c (I 0)),
          .mv 25 (.t 26)])
       (.cond (.t 25)
        (.reg [.mv 27 (.t 3),
          .mks 28 1 [(.c (S [110, 111]))],
          .app 29 1 16 (.t 27) (.t 28),
          .mv 3 (.t 29)])
        (.seq
         (.reg [.bin 31 .eql (.t 21) (.c (I 1)),
           .mv 30 (.t 31)])
        (.cond (.t 30)
         (.reg [.mv 32 (.t 3),
           .mks 33 1 [(.c (S [115, 116, 111, 112]))],
           .app 34 1 16 (.t 32) (.t 33),
           .mv 3 (.t 34)])
         (.seq
          (.reg [.bin 36 .eql (.t 21) (.c (I 2)),
            .mv 35 (.t 36)])
         (.cond (.t 35)
          (.reg [.mv 37 (.t 3),
            .fa 38 (.t 1) 2,
            .ld 39 true 4 (.t 38),
            .call (some 40) (.c (Fc F.impl_WriteTerm)) [(.t 39)] (.ro false),
            .bin 41 .add (.c (S [98, 97, 108, 108, 32])) (.t 40),
            .mks 42 1 [(.t 41)],
            .app 43 1 16 (.t 37) (.t 42),
            .mv 3 (.t 43)])
          (.reg [.mv 22 (.t 3),
            .mks 23 1 [(.c (S [109, 111, 114, 101]))],
            .app 24 1 16 (.t 22) (.t 23),
            .mv 3 (.t 24)])))))))))
     (.keep [3]
      (.seq
       (.reg [.mv 44 (.t 3),
         .mv 2 (.t 44)])
      (.keep [2]
       .ret))))))))
def LB.laws_eqTermS_0 : AC :=
        (.seq
         (.seq
          (.reg [.mv 11 (.t 5),
            .mv 12 (.t 0),
            .len 13 (.t 12),
            .bin 14 .lss (.t 11) (.t 13)])
         (.keep [0, 1, 5, 14]
          (.cond (.t 14)
           .skip
           (.keep []
            (.exit 0)))))
        (.keep [0, 1, 5]
         (.seq
          (.block 1
           (.seq
            (.dreg [⟨0, []⟩, ⟨0, []⟩, ⟨0, [(0, 0), (0, 1), (0, 2), (0, 3), (100000, 0), (100000, 1), (100000, 2), (100000, 3), (100000, 4), (100000, 5)]⟩, ⟨0, [(0, 0), (0, 1), (0, 2), (0, 3), (100000, 0), (100000, 1), (100000, 2), (100000, 3), (100000, 4), (100000, 5)]⟩, ⟨0, []⟩, ⟨0, []⟩, ⟨0, [(1, 0), (1, 1), (1, 2), (1, 3), (100000, 0), (100000, 1), (100000, 2), (100000, 3), (100000, 4), (100000, 5)]⟩, ⟨0, [(1, 0), (1, 1), (1, 2), (1, 3), (100000, 0), (100000, 1), (100000, 2), (100000, 3), (100000, 4), (100000, 5)]⟩, ⟨2, [(0, 0), (0, 1), (0, 2), (0, 3), (1, 0), (1, 1), (1, 2), (1, 3), (20, 0), (24, 0), (100000, 0), (100000, 1), (100000, 2), (100000, 3), (100000, 4), (100000, 5)]⟩, ⟨0, []⟩]
             [.mv 17 (.t 0),
              .mv 18 (.t 5),
              .ia 19 4 (.t 17) (.t 18),
              .ldq 20 true 4 (.t 19),
              .mv 21 (.t 1),
              .mv 22 (.t 5),
              .ia 23 4 (.t 21) (.t 22),
              .ldq 24 true 4 (.t 23),
              .call (some 25) (.c (Fc F.laws_eqTerm)) [(.t 20), (.t 24)] (.ro true),
              .un 26 .not (.t 25)])
           (.keep [0, 1, 5, 26]
            (.cond (.t 26)
             (.seq
              (.reg [.mv 4 (.c (B false))])
             (.keep [4]
              .ret))
             .skip))))
         (.keep [0, 1, 5]
          (.reg [.mv 15 (.t 5),
            .bin 16 .add (.t 15) (.c (I 1)),
            .mv 5 (.t 16)])))))
def L.laws_eqTermS_0 : Lp := ⟨[0, 1, 5], [(2, 0)], LB.laws_eqTermS_0⟩
@[go_sem] theorem L.laws_eqTermS_0_ls : L.laws_eqTermS_0.ls = [0, 1, 5] := rfl
@[go_sem] theorem L.laws_eqTermS_0_ks : L.laws_eqTermS_0.ks = [(2, 0)] := rfl
@[go_sem] theorem L.laws_eqTermS_0_b : L.laws_eqTermS_0.body = LB.laws_eqTermS_0 := rfl
def A.laws_eqTermS : AF where
  nargs := 2
  ntmps := 27
  res := [.tmp 4]
  body :=
    (.seq
     (.reg [.mv 4 (.c (B false))])
    (.seq
     (.seq
      (.reg [.mv 6 (.t 0),
        .len 7 (.t 6),
        .mv 8 (.t 1),
        .len 9 (.t 8),
        .bin 10 .neq (.t 7) (.t 9)])
     (.keep [0, 1, 10]
      (.cond (.t 10)
       (.seq
        (.reg [.mv 4 (.c (B false))])
       (.keep [4]
        .ret))
       .skip)))
    (.keep [0, 1]
     (.seq
      (.seq
       (.reg [.mv 5 (.c (I 0))])
      (.block 0
       (lpC L.laws_eqTermS_0)))
     (.keep []
      (.seq
       (.reg [.mv 4 (.c (B true))])
      (.keep [4]
       .ret)))))))
def A.impl_within : AF where
  nargs := 3
  ntmps := 15
  res := [.tmp 6]
  body :=
    (.seq
     (.reg [.mv 6 (.c (B false))])
    (.seq
     (.reg [.mv 7 (.t 0),
       .mv 8 (.t 1),
       .bin 9 .geq (.t 7) (.t 8),
       .mv 10 (.t 9),
       .gd 10 true (some 11) (.mv 11 (.t 0)),
       .gd 10 true (some 12) (.mv 12 (.t 2)),
       .gd 10 true (some 13) (.bin 13 .leq (.t 11) (.t 12)),
       .pick 14 (.t 10) (.t 13) (.c (B false)),
       .mv 6 (.t 14)])
    (.keep [6]
     .ret)))
def A.impl_PredOf : AF where
  nargs := 1
  ntmps := 19
  res := [.tmp 2]
  body :=
    (.seq
     (.reg [.new 1 (.t 0),
       .mv 2 (.c (S []))])
    (.seq
     (.seq
      (.reg [.fa 3 (.t 1) 0,
        .ld 4 false 1 (.t 3),
        .bin 5 .neq (.t 4) (.c (I 2)),
        .mv 6 (.t 5),
        .gd 6 true (some 7) (.fa 7 (.t 1) 0),
        .gd 6 true (some 8) (.ld 8 false 1 (.t 7)),
        .gd 6 true (some 9) (.bin 9 .neq (.t 8) (.c (I 4))),
        .pick 10 (.t 6) (.t 9) (.c (B false))])
     (.keep [1, 10]
      (.cond (.t 10)
       (.seq
        (.reg [.mv 2 (.c (S []))])
       (.keep [2]
        .ret))
       .skip)))
    (.keep [1]
     (.seq
      (.dreg [⟨0, []⟩, ⟨0, [(0, 0), (0, 1), (0, 2), (0, 3), (1, 0)]⟩, ⟨0, []⟩, ⟨0, []⟩, ⟨0, [(0, 0), (0, 1), (0, 2), (0, 3), (1, 0)]⟩, ⟨0, [(0, 0), (0, 1), (0, 2), (0, 3), (1, 0), (15, 0)]⟩, ⟨2, [(0, 0), (0, 1), (0, 2), (0, 3), (1, 0), (15, 0)]⟩, ⟨0, []⟩, ⟨0, []⟩]
       [.fa 11 (.t 1) 1,
        .ldq 12 false 1 (.t 11),
        .bin 13 .add (.t 12) (.c (S [47])),
        .fa 14 (.t 1) 3,
        .ldq 15 false 1 (.t 14),
        .len 16 (.t 15),
        .call (some 17) (.c (Fc F.impl_Decimal)) [(.t 16)] (.ro false),
        .bin 18 .add (.t 13) (.t 17),
        .mv 2 (.t 18)])
     (.keep [2]
      .ret)))))
def A.spec_WriteTerm : AF where
  nargs := 1
  ntmps := 8
  res := [.tmp 2]
  body :=
    (.seq
     (.reg [.new 1 (.t 0),
       .mv 2 (.c (S []))])
    (.seq
     (.seq
      (.reg [.ld 3 true 4 (.t 1),
        .call (some 4) (.c (Fc F.spec_TermOk)) [(.t 3)] (.ro true),
        .un 5 .not (.t 4)])
     (.cond (.t 5)
      (.seq
       (.reg [.mv 2 (.c (S []))])
      (.keep [2]
       .ret))
      .skip))
    (.keep [1]
     (.seq
      (.reg [.ld 6 true 4 (.t 1),
        .call (some 7) (.c (Fc F.spec_l07Write)) [(.t 6)] (.ro false),
        .mv 2 (.t 7)])
     (.keep [2]
      .ret)))))
def A.impl_WriteTerm : AF where
  nargs := 1
  ntmps := 8
  res := [.tmp 2]
  body :=
    (.seq
     (.reg [.new 1 (.t 0),
       .mv 2 (.c (S []))])
    (.seq
     (.seq
      (.reg [.ld 3 true 4 (.t 1),
        .call (some 4) (.c (Fc F.impl_TermOk)) [(.t 3)] (.ro true),
        .un 5 .not (.t 4)])
     (.cond (.t 5)
      (.seq
       (.reg [.mv 2 (.c (S []))])
      (.keep [2]
       .ret))
      .skip))
    (.keep [1]
     (.seq
      (.reg [.ld 6 true 4 (.t 1),
        .call (some 7) (.c (Fc F.impl_write)) [(.t 6)] (.ro false),
        .mv 2 (.t 7)])
     (.keep [2]
      .ret)))))
def LB.spec_l03Count_0 : AC :=
       (.seq
        (.seq
         (.reg [.mv 8 (.t 5),
           .fa 9 (.t 2) 3,
           .ld 10 false 1 (.t 9),
           .len 11 (.t 10),
           .bin 12 .lss (.t 8) (.t 11),
           .mv 13 (.t 12),
           .gd 13 true (some 14) (.mv 14 (.t 1)),
           .gd 13 true (some 15) (.bin 15 .geq (.t 14) (.c (I 0))),
           .pick 16 (.t 13) (.t 15) (.c (B false))])
        (.keep [1, 2, 5, 16]
         (.cond (.t 16)
          .skip
          (.keep [1]
           (.exit 0)))))
       (.keep [1, 2, 5]
        (.seq
         (.block 1
          (.reg [.fa 19 (.t 2) 3,
            .ld 20 false 1 (.t 19),
            .mv 21 (.t 5),
            .ia 22 4 (.t 20) (.t 21),
            .ld 23 true 4 (.t 22),
            .mv 24 (.t 1),
            .call (some 25) (.c (Fc F.spec_l03Count)) [(.t 23), (.t 24)] (.ro false),
            .mv 1 (.t 25)]))
        (.keep [1, 2, 5]
         (.reg [.mv 17 (.t 5),
           .bin 18 .add (.t 17) (.c (I 1)),
           .mv 5 (.t 18)])))))
def L.spec_l03Count_0 : Lp := ⟨[1, 2, 5], [(2, 0)], LB.spec_l03Count_0⟩
@[go_sem] theorem L.spec_l03Count_0_ls : L.spec_l03Count_0.ls = [1, 2, 5] := rfl
@[go_sem] theorem L.spec_l03Count_0_ks : L.spec_l03Count_0.ks = [(2, 0)] := rfl
@[go_sem] theorem L.spec_l03Count_0_b : L.spec_l03Count_0.body = LB.spec_l03Count_0 := rfl
def A.spec_l03Count : AF where
  nargs := 2
  ntmps := 27
  res := [.tmp 4]
  body :=
    (.seq
     (.reg [.new 2 (.t 0),
       .mv 4 (.c (I 0))])
    (.seq
     (.reg [.mv 6 (.t 1),
       .bin 7 .sub (.t 6) (.c (I 1)),
       .mv 1 (.t 7)])
    (.seq
     (.seq
      (.reg [.mv 5 (.c (I 0))])
     (.block 0
      (lpC L.spec_l03Count_0)))
    (.keep [1]
     (.seq
      (.reg [.mv 26 (.t 1),
        .mv 4 (.t 26)])
     (.keep [4]
      .ret))))))
def LB.spec_l03Right_0 : AC :=
        (.seq
         (.seq
          (.reg [.mv 13 (.t 5),
            .fa 14 (.t 2) 3,
            .ld 15 false 1 (.t 14),
            .len 16 (.t 15),
            .bin 17 .lss (.t 13) (.t 16)])
         (.keep [1, 2, 5, 17]
          (.cond (.t 17)
           .skip
           (.keep []
            (.exit 0)))))
        (.keep [1, 2, 5]
         (.seq
          (.block 1
           (.seq
            (.reg [.fa 20 (.t 2) 3,
              .ld 21 false 1 (.t 20),
              .mv 22 (.t 5),
              .ia 23 4 (.t 21) (.t 22),
              .ld 24 true 4 (.t 23),
              .mv 25 (.t 1),
              .bin 26 .add (.t 25) (.c (I 1)),
              .call (some 27) (.c (Fc F.spec_l03Right)) [(.t 24), (.t 26)] (.ro true),
              .un 28 .not (.t 27)])
           (.keep [1, 2, 5, 28]
            (.cond (.t 28)
             (.seq
              (.reg [.mv 4 (.c (B false))])
             (.keep [4]
              .ret))
             .skip))))
         (.keep [1, 2, 5]
          (.reg [.mv 18 (.t 5),
            .bin 19 .add (.t 18) (.c (I 1)),
            .mv 5 (.t 19)])))))
def L.spec_l03Right_0 : Lp := ⟨[1, 2, 5], [(2, 0)], LB.spec_l03Right_0⟩
@[go_sem] theorem L.spec_l03Right_0_ls : L.spec_l03Right_0.ls = [1, 2, 5] := rfl
@[go_sem] theorem L.spec_l03Right_0_ks : L.spec_l03Right_0.ks = [(2, 0)] := rfl
@[go_sem] theorem L.spec_l03Right_0_b : L.spec_l03Right_0.body = LB.spec_l03Right_0 := rfl
def A.spec_l03Right : AF where
  nargs := 2
  ntmps := 29
  res := [.tmp 4]
  body :=
    (.seq
     (.reg [.new 2 (.t 0),
       .mv 4 (.c (B false))])
    (.seq
     (.seq
      (.reg [.mv 6 (.t 1),
        .bin 7 .gtr (.t 6) (.c (I 40)),
        .mv 8 (.t 7),
        .gd 8 false (some 9) (.ld 9 true 4 (.t 2)),
        .gd 8 false (some 10) (.call (some 10) (.c (Fc F.spec_l03One)) [(.t 9)] (.ro true)),
        .gd 8 false (some 11) (.un 11 .not (.t 10)),
        .pick 12 (.t 8) (.c (B true)) (.t 11)])
     (.keep [1, 2, 12]
      (.cond (.t 12)
       (.seq
        (.reg [.mv 4 (.c (B false))])
       (.keep [4]
        .ret))
       .skip)))
    (.keep [1, 2]
     (.seq
      (.seq
       (.reg [.mv 5 (.c (I 0))])
      (.block 0
       (lpC L.spec_l03Right_0)))
     (.keep []
      (.seq
       (.reg [.mv 4 (.c (B true))])
      (.keep [4]
       .ret)))))))
def A.spec_InfixOf : AF where
  nargs := 1
  ntmps := 42
  res := [.cell 2 true 4, .tmp 3]
  body :=
    (.seq
     (.reg [.new 2 (.c (.a [(S []), (I 0), (I 0), (I 0)])),
       .mv 3 (.c (B false))])
    (.seq
     (.seq
      (.reg [.mv 4 (.t 0)])
     (.block 0
      (.seq
       (.seq
        (.reg [.bin 6 .eql (.t 4) (.c (S [58, 45])),
          .mv 5 (.t 6)])
       (.cond (.t 5)
        .skip
        (.reg [.bin 7 .eql (.t 4) (.c (S [45, 45, 62])),
          .mv 5 (.t 7)])))
      (.keep [0, 2, 4, 5]
       (.cond (.t 5)
        (.seq
         (.reg [.mv 8 (.t 0),
           .build 9 (.a [(S []), (I 0), (I 0), (I 0)]) [(0, 1, (.t 8)), (1, 1, (.c (I 1200))), (2, 1, (.c (I 1199))), (3, 1, (.c (I 1199)))],
           .st 4 (.t 2) (.t 9),
           .mv 3 (.c (B true))])
        (.keep [2, 3]
         .ret))
        (.seq
         (.reg [.bin 11 .eql (.t 4) (.c (S [59])),
           .mv 10 (.t 11)])
        (.cond (.t 10)
         (.seq
          (.reg [.mv 12 (.t 0),
            .build 13 (.a [(S []), (I 0), (I 0), (I 0)]) [(0, 1, (.t 12)), (1, 1, (.c (I 1100))), (2, 1, (.c (I 1099))), (3, 1, (.c (I 1100)))],
            .st 4 (.t 2) (.t 13),
            .mv 3 (.c (B true))])
         (.keep [2, 3]
          .ret))
         (.seq
          (.reg [.bin 15 .eql (.t 4) (.c (S [45, 62])),
            .mv 14 (.t 15)])
         (.cond (.t 14)
          (.seq
           (.reg [.mv 16 (.t 0),
             .build 17 (.a [(S []), (I 0), (I 0), (I 0)]) [(0, 1, (.t 16)), (1, 1, (.c (I 1050))), (2, 1, (.c (I 1049))), (3, 1, (.c (I 1050)))],
             .st 4 (.t 2) (.t 17),
             .mv 3 (.c (B true))])
          (.keep [2, 3]
           .ret))
          (.seq
           (.reg [.bin 19 .eql (.t 4) (.c (S [44])),
             .mv 18 (.t 19)])
          (.cond (.t 18)
           (.seq
            (.reg [.mv 20 (.t 0),
              .build 21 (.a [(S []), (I 0), (I 0), (I 0)]) [(0, 1, (.t 20)), (1, 1, (.c (I 1000))), (2, 1, (.c (I 999))), (3, 1, (.c (I 1000)))],
              .st 4 (.t 2) (.t 21),
              .mv 3 (.c (B true))])
           (.keep [2, 3]
            .ret))
           (.seq
            (.seq
             (.reg [.bin 23 .eql (.t 4) (.c (S [61])),
               .mv 22 (.t 23)])
            (.cond (.t 22)
             .skip
             (.seq
              (.reg [.bin 24 .eql (.t 4) (.c (S [92, 61])),
                .mv 22 (.t 24)])
             (.cond (.t 22)
              .skip
              (.seq
               (.reg [.bin 25 .eql (.t 4) (.c (S [61, 61])),
                 .mv 22 (.t 25)])
              (.cond (.t 22)
               .skip
               (.seq
                (.reg [.bin 26 .eql (.t 4) (.c (S [105, 115])),
                  .mv 22 (.t 26)])
               (.cond (.t 22)
                .skip
                (.seq
                 (.reg [.bin 27 .eql (.t 4) (.c (S [60])),
                   .mv 22 (.t 27)])
                (.cond (.t 22)
                 .skip
                 (.reg [.bin 28 .eql (.t 4) (.c (S [61, 58, 61])),
                   .mv 22 (.t 28)])))))))))))
           (.keep [0, 2, 4, 22]
            (.cond (.t 22)
             (.seq
              (.reg [.mv 29 (.t 0),
                .build 30 (.a [(S []), (I 0), (I 0), (I 0)]) [(0, 1, (.t 29)), (1, 1, (.c (I 700))), (2, 1, (.c (I 699))), (3, 1, (.c (I 699)))],
                .st 4 (.t 2) (.t 30),
                .mv 3 (.c (B true))])
             (.keep [2, 3]
              .ret))
             (.seq
              (.seq
               (.reg [.bin 32 .eql (.t 4) (.c (S [43])),
                 .mv 31 (.t 32)])
              (.cond (.t 31)
               .skip
               (.reg [.bin 33 .eql (.t 4) (.c (S [45])),
                 .mv 31 (.t 33)])))
             (.keep [0, 2, 4, 31]
              (.cond (.t 31)
               (.seq
                (.reg [.mv 34 (.t 0),
                  .build 35 (.a [(S []), (I 0), (I 0), (I 0)]) [(0, 1, (.t 34)), (1, 1, (.c (I 500))), (2, 1, (.c (I 500))), (3, 1, (.c (I 499)))],
                  .st 4 (.t 2) (.t 35),
                  .mv 3 (.c (B true))])
               (.keep [2, 3]
                .ret))
               (.seq
                (.seq
                 (.reg [.bin 37 .eql (.t 4) (.c (S [42])),
                   .mv 36 (.t 37)])
                (.cond (.t 36)
                 .skip
                 (.reg [.bin 38 .eql (.t 4) (.c (S [47, 47])),
                   .mv 36 (.t 38)])))
               (.keep [0, 2, 36]
                (.cond (.t 36)
                 (.seq
                  (.reg [.mv 39 (.t 0),
                    .build 40 (.a [(S []), (I 0), (I 0), (I 0)]) [(0, 1, (.t 39)), (1, 1, (.c (I 400))), (2, 1, (.c (I 400))), (3, 1, (.c (I 399)))],
                    .st 4 (.t 2) (.t 40),
                    .mv 3 (.c (B true))])
                 (.keep [2, 3]
                  .ret))
                 .skip))))))))))))))))))))
    (.keep [2]
     (.seq
      (.reg [.build 41 (.a [(S []), (I 0), (I 0), (I 0)]) [],
        .st 4 (.t 2) (.t 41),
        .mv 3 (.c (B false))])
     (.keep [2, 3]
      .ret)))))
def A.spec_l08ClauseTermRaw : AF where
  nargs := 1
  ntmps := 8
  res := [.cell 2 true 4]
  body :=
    (.seq
     (.reg [.new 1 (.t 0),
       .new 2 (.c (.a [(I 0), (S []), (I 0), (.n 4)]))])
    (.seq
     (.reg [.fa 3 (.t 1) 0,
       .ld 4 true 4 (.t 3),
       .fa 5 (.t 1) 4,
       .ld 6 true 4 (.t 5),
       .call (some 7) (.c (Fc F.spec_l03Two)) [(.c (S [58, 45])), (.t 4), (.t 6)] (.ro false),
       .st 4 (.t 2) (.t 7)])
    (.keep [2]
     .ret)))
def A.spec_l34Term : AF where
  nargs := 1
  ntmps := 8
  res := [.cell 2 true 4]
  body :=
    (.seq
     (.reg [.new 1 (.t 0),
       .new 2 (.c (.a [(I 0), (S []), (I 0), (.n 4)]))])
    (.seq
     (.reg [.fa 3 (.t 1) 3,
       .ld 4 false 1 (.t 3),
       .call (some 5) (.c (Fc F.spec_l34Terms)) [(.t 4)] (.ro false),
       .fa 6 (.t 1) 3,
       .st 1 (.t 6) (.t 5)])
    (.keep [1, 2]
     (.seq
      (.reg [.ld 7 true 4 (.t 1),
        .st 4 (.t 2) (.t 7)])
     (.keep [2]
      .ret)))))
def LB.spec_l07Write_0 : AC :=
            (.seq
             (.seq
              (.reg [.mv 89 (.t 7),
                .fa 90 (.t 1) 3,
                .ld 91 false 1 (.t 90),
                .len 92 (.t 91),
                .bin 93 .lss (.t 89) (.t 92)])
             (.keep [1, 6, 7, 93]
              (.cond (.t 93)
               .skip
               (.keep [6]
                (.exit 1)))))
            (.keep [1, 6, 7]
             (.seq
              (.block 2
               (.seq
                (.seq
                 (.reg [.mv 96 (.t 7),
                   .bin 97 .gtr (.t 96) (.c (I 0))])
                (.cond (.t 97)
                 (.reg [.mv 98 (.t 6),
                   .bin 99 .add (.t 98) (.c (S [44])),
                   .mv 6 (.t 99)])
                 .skip))
               (.keep [1, 6, 7]
                (.reg [.mv 100 (.t 6),
                  .fa 101 (.t 1) 3,
                  .ld 102 false 1 (.t 101),
                  .mv 103 (.t 7),
                  .ia 104 4 (.t 102) (.t 103),
                  .ld 105 true 4 (.t 104),
                  .call (some 106) (.c (Fc F.spec_l07Write)) [(.t 105)] (.ro false),
                  .bin 107 .add (.t 100) (.t 106),
                  .mv 6 (.t 107)]))))
             (.keep [1, 6, 7]
              (.reg [.mv 94 (.t 7),
                .bin 95 .add (.t 94) (.c (I 1)),
                .mv 7 (.t 95)])))))
def L.spec_l07Write_0 : Lp := ⟨[1, 6, 7], [(1, 0)], LB.spec_l07Write_0⟩
@[go_sem] theorem L.spec_l07Write_0_ls : L.spec_l07Write_0.ls = [1, 6, 7] := rfl
@[go_sem] theorem L.spec_l07Write_0_ks : L.spec_l07Write_0.ks = [(1, 0)] := rfl
@[go_sem] theorem L.spec_l07Write_0_b : L.spec_l07Write_0.body = LB.spec_l07Write_0 := rfl
def A.spec_l07Write : AF where
  nargs := 1
  ntmps := 110
  res := [.tmp 2]
  body :=
    (.seq
     (.reg [.new 1 (.t 0),
       .mv 2 (.c (S []))])
    (.seq
     (.seq
      (.reg [.fa 8 (.t 1) 0,
        .ld 9 false 1 (.t 8)])
     (.block 0
      (.seq
       (.reg [.bin 11 .eql (.t 9) (.c (I 1)),
         .mv 10 (.t 11)])
      (.cond (.t 10)
       (.seq
        (.reg [.fa 12 (.t 1) 2,
          .ld 13 false 1 (.t 12),
          .call (some 14) (.c (Fc F.spec_Decimal)) [(.t 13)] (.ro false),
          .bin 15 .add (.c (S [95])) (.t 14),
          .mv 2 (.t 15)])
       (.keep [2]
        .ret))
       (.seq
        (.reg [.bin 17 .eql (.t 9) (.c (I 3)),
          .mv 16 (.t 17)])
       (.cond (.t 16)
        (.seq
         (.seq
          (.reg [.fa 18 (.t 1) 2,
            .ld 19 false 1 (.t 18),
            .bin 20 .lss (.t 19) (.c (I 0))])
         (.cond (.t 20)
          (.seq
           (.reg [.fa 21 (.t 1) 2,
             .ld 22 false 1 (.t 21),
             .un 23 .neg (.t 22),
             .call (some 24) (.c (Fc F.spec_Decimal)) [(.t 23)] (.ro false),
             .bin 25 .add (.c (S [45])) (.t 24),
             .mv 2 (.t 25)])
          (.keep [2]
           .ret))
          .skip))
        (.keep [1]
         (.seq
          (.reg [.fa 26 (.t 1) 2,
            .ld 27 false 1 (.t 26),
            .call (some 28) (.c (Fc F.spec_Decimal)) [(.t 27)] (.ro false),
            .mv 2 (.t 28)])
         (.keep [2]
          .ret))))
        (.seq
         (.reg [.bin 30 .eql (.t 9) (.c (I 2)),
           .mv 29 (.t 30)])
        (.cond (.t 29)
         (.seq
          (.seq
           (.reg [.fa 31 (.t 1) 1,
             .ld 32 false 1 (.t 31),
             .bin 33 .eql (.t 32) (.c (S [91, 93]))])
          (.cond (.t 33)
           (.seq
            (.reg [.mv 2 (.c (S [91, 93]))])
           (.keep [2]
            .ret))
           .skip))
         (.keep [1]
          (.seq
           (.seq
            (.reg [.fa 34 (.t 1) 1,
              .ld 35 false 1 (.t 34),
              .call (some 36) (.c (Fc F.spec_l07Op)) [(.t 35)] (.ro true)])
           (.cond (.t 36)
            (.seq
             (.reg [.fa 37 (.t 1) 1,
               .ld 38 false 1 (.t 37),
               .call (some 39) (.c (Fc F.spec_AtomText)) [(.t 38)] (.ro false),
               .bin 40 .add (.c (S [40])) (.t 39),
               .bin 41 .add (.t 40) (.c (S [41])),
               .mv 2 (.t 41)])
            (.keep [2]
             .ret))
            .skip))
          (.keep [1]
           (.seq
            (.reg [.fa 42 (.t 1) 1,
              .ld 43 false 1 (.t 42),
              .call (some 44) (.c (Fc F.spec_AtomText)) [(.t 43)] (.ro false),
              .mv 2 (.t 44)])
           (.keep [2]
            .ret))))))
         .skip))))))))
    (.keep [1]
     (.seq
      (.seq
       (.reg [.ld 45 true 4 (.t 1),
         .call (some 46) (.c (Fc F.spec_l03Is)) [(.t 45), (.c (S [46])), (.c (I 2))] (.ro true)])
      (.cond (.t 46)
       (.seq
        (.reg [.ld 47 true 4 (.t 1),
          .call (some 48) (.c (Fc F.spec_l07Row)) [(.t 47)] (.ro false),
          .mv 2 (.t 48)])
       (.keep [2]
        .ret))
       .skip))
     (.keep [1]
      (.seq
       (.reg [.fa 50 (.t 1) 1,
         .ld 51 false 1 (.t 50),
         .call (some 52) (.c (Fc F.spec_InfixOf)) [(.t 51)] (.ro true),
         .mv 49 (.t 52),
         .ext 53 (.t 49) 0,
         .ext 54 (.t 49) 1,
         .new 3 (.c (.a [(S []), (I 0), (I 0), (I 0)])),
         .st 4 (.t 3) (.t 53),
         .mv 4 (.t 54)])
      (.keep [1, 4]
       (.seq
        (.seq
         (.reg [.mv 55 (.t 4),
           .mv 56 (.t 55),
           .gd 56 true (some 57) (.fa 57 (.t 1) 3),
           .gd 56 true (some 58) (.ld 58 false 1 (.t 57)),
           .gd 56 true (some 59) (.len 59 (.t 58)),
           .gd 56 true (some 60) (.bin 60 .eql (.t 59) (.c (I 2))),
           .pick 61 (.t 56) (.t 60) (.c (B false))])
        (.keep [1, 61]
         (.cond (.t 61)
          (.seq
           (.reg [.fa 62 (.t 1) 1,
             .ld 63 false 1 (.t 62),
             .call (some 64) (.c (Fc F.spec_AtomText)) [(.t 63)] (.ro false),
             .mv 5 (.t 64)])
          (.keep [1, 5]
           (.seq
            (.seq
             (.reg [.fa 65 (.t 1) 1,
               .ld 66 false 1 (.t 65),
               .bin 67 .eql (.t 66) (.c (S [44]))])
            (.cond (.t 67)
             (.reg [.mv 5 (.c (S [44]))])
             .skip))
           (.keep [1, 5]
            (.seq
             (.dreg [⟨0, []⟩, ⟨0, [(0, 0), (0, 1), (0, 2), (0, 3), (1, 0), (100000, 0), (100000, 1), (100000, 2), (100000, 3), (100000, 4), (100000, 5)]⟩, ⟨0, [(0, 0), (0, 1), (0, 2), (0, 3), (1, 0), (69, 0), (100000, 0), (100000, 1), (100000, 2), (100000, 3), (100000, 4), (100000, 5)]⟩, ⟨0, [(0, 0), (0, 1), (0, 2), (0, 3), (1, 0), (69, 0), (100000, 0), (100000, 1), (100000, 2), (100000, 3), (100000, 4), (100000, 5)]⟩, ⟨2, [(0, 0), (0, 1), (0, 2), (0, 3), (1, 0), (69, 0), (71, 0), (100000, 0), (100000, 1), (100000, 2), (100000, 3), (100000, 4), (100000, 5)]⟩, ⟨0, []⟩, ⟨0, []⟩, ⟨0, []⟩, ⟨0, []⟩, ⟨0, []⟩, ⟨0, []⟩, ⟨0, [(0, 0), (0, 1), (0, 2), (0, 3), (1, 0), (100000, 0), (100000, 1), (100000, 2), (100000, 3), (100000, 4), (100000, 5)]⟩, ⟨0, [(0, 0), (0, 1), (0, 2), (0, 3), (1, 0), (79, 0), (100000, 0), (100000, 1), (100000, 2), (100000, 3), (100000, 4), (100000, 5)]⟩, ⟨0, [(0, 0), (0, 1), (0, 2), (0, 3), (1, 0), (79, 0), (100000, 0), (100000, 1), (100000, 2), (100000, 3), (100000, 4), (100000, 5)]⟩, ⟨2, [(0, 0), (0, 1), (0, 2), (0, 3), (1, 0), (79, 0), (81, 0), (100000, 0), (100000, 1), (100000, 2), (100000, 3), (100000, 4), (100000, 5)]⟩, ⟨0, []⟩, ⟨0, []⟩, ⟨0, []⟩]
              [.fa 68 (.t 1) 3,
               .ldq 69 false 1 (.t 68),
               .ia 70 4 (.t 69) (.c (I 0)),
               .ldq 71 true 4 (.t 70),
               .call (some 72) (.c (Fc F.spec_l07Write)) [(.t 71)] (.ro false),
               .bin 73 .add (.c (S [40])) (.t 72),
               .bin 74 .add (.t 73) (.c (S [32])),
               .mv 75 (.t 5),
               .bin 76 .add (.t 74) (.t 75),
               .bin 77 .add (.t 76) (.c (S [32])),
               .fa 78 (.t 1) 3,
               .ldq 79 false 1 (.t 78),
               .ia 80 4 (.t 79) (.c (I 1)),
               .ldq 81 true 4 (.t 80),
               .call (some 82) (.c (Fc F.spec_l07Write)) [(.t 81)] (.ro false),
               .bin 83 .add (.t 77) (.t 82),
               .bin 84 .add (.t 83) (.c (S [41])),
               .mv 2 (.t 84)])
            (.keep [2]
             .ret))))))
          .skip)))
       (.keep [1]
        (.seq
         (.reg [.fa 85 (.t 1) 1,
           .ld 86 false 1 (.t 85),
           .call (some 87) (.c (Fc F.spec_AtomText)) [(.t 86)] (.ro false),
           .bin 88 .add (.t 87) (.c (S [40])),
           .mv 6 (.t 88)])
        (.keep [1, 6]
         (.seq
          (.seq
           (.reg [.mv 7 (.c (I 0))])
          (.block 1
           (lpC L.spec_l07Write_0)))
         (.keep [6]
          (.seq
           (.reg [.mv 108 (.t 6),
             .bin 109 .add (.t 108) (.c (S [41])),
             .mv 2 (.t 109)])
          (.keep [2]
           .ret)))))))))))))))
def LB.spec_l28Row_0 : AC :=
        (.seq
         (.seq
          (.reg [.fa 11 (.t 1) 3,
            .ld 12 false 1 (.t 11),
            .ia 13 4 (.t 12) (.c (I 1)),
            .ld 14 true 4 (.t 13),
            .call (some 15) (.c (Fc F.spec_l03Is)) [(.t 14), (.c (S [46])), (.c (I 2))] (.ro true)])
         (.keep [1, 3, 15]
          (.cond (.t 15)
           .skip
           (.keep [1, 3]
            (.exit 0)))))
        (.keep [1, 3]
         (.block 1
          (.seq
           (.reg [.fa 16 (.t 1) 3,
             .ld 17 false 1 (.t 16),
             .ia 18 4 (.t 17) (.c (I 1)),
             .ld 19 true 4 (.t 18),
             .st 4 (.t 1) (.t 19)])
          (.keep [1, 3]
           (.reg [.mv 20 (.t 3),
             .bin 21 .add (.t 20) (.c (S [44])),
             .fa 22 (.t 1) 3,
             .ld 23 false 1 (.t 22),
             .ia 24 4 (.t 23) (.c (I 0)),
             .ld 25 true 4 (.t 24),
             .call (some 26) (.c (Fc F.spec_l28Held)) [(.t 25), (.c (I 999))] (.ro false),
             .bin 27 .add (.t 21) (.t 26),
             .mv 3 (.t 27)]))))))
def L.spec_l28Row_0 : Lp := ⟨[1, 3], [(1, 0)], LB.spec_l28Row_0⟩
@[go_sem] theorem L.spec_l28Row_0_ls : L.spec_l28Row_0.ls = [1, 3] := rfl
@[go_sem] theorem L.spec_l28Row_0_ks : L.spec_l28Row_0.ks = [(1, 0)] := rfl
@[go_sem] theorem L.spec_l28Row_0_b : L.spec_l28Row_0.body = LB.spec_l28Row_0 := rfl
def A.spec_l28Row : AF where
  nargs := 1
  ntmps := 48
  res := [.tmp 2]
  body :=
    (.seq
     (.reg [.new 1 (.t 0),
       .mv 2 (.c (S []))])
    (.seq
     (.reg [.fa 5 (.t 1) 3,
       .ld 6 false 1 (.t 5),
       .ia 7 4 (.t 6) (.c (I 0)),
       .ld 8 true 4 (.t 7),
       .call (some 9) (.c (Fc F.spec_l28Held)) [(.t 8), (.c (I 999))] (.ro false),
       .bin 10 .add (.c (S [91])) (.t 9),
       .mv 3 (.t 10)])
    (.keep [1, 3]
     (.seq
      (.block 0
       (lpC L.spec_l28Row_0))
     (.keep [1, 3]
      (.seq
       (.reg [.fa 28 (.t 1) 3,
         .ld 29 false 1 (.t 28),
         .ia 30 4 (.t 29) (.c (I 1)),
         .ld 31 true 4 (.t 30),
         .new 4 (.c (.a [(I 0), (S []), (I 0), (.n 4)])),
         .st 4 (.t 4) (.t 31)])
      (.keep [3, 4]
       (.seq
        (.seq
         (.reg [.fa 32 (.t 4) 0,
           .ld 33 false 1 (.t 32),
           .bin 34 .eql (.t 33) (.c (I 2)),
           .mv 35 (.t 34),
           .gd 35 true (some 36) (.fa 36 (.t 4) 1),
           .gd 35 true (some 37) (.ld 37 false 1 (.t 36)),
           .gd 35 true (some 38) (.bin 38 .eql (.t 37) (.c (S [91, 93]))),
           .pick 39 (.t 35) (.t 38) (.c (B false))])
        (.keep [3, 4, 39]
         (.cond (.t 39)
          (.seq
           (.reg [.mv 40 (.t 3),
             .bin 41 .add (.t 40) (.c (S [93])),
             .mv 2 (.t 41)])
          (.keep [2]
           .ret))
          .skip)))
       (.keep [3, 4]
        (.seq
         (.reg [.mv 42 (.t 3),
           .bin 43 .add (.t 42) (.c (S [124])),
           .ld 44 true 4 (.t 4),
           .call (some 45) (.c (Fc F.spec_l28Held)) [(.t 44), (.c (I 999))] (.ro false),
           .bin 46 .add (.t 43) (.t 45),
           .bin 47 .add (.t 46) (.c (S [93])),
           .mv 2 (.t 47)])
        (.keep [2]
         .ret)))))))))))
def A.spec_AtomText : AF where
  nargs := 1
  ntmps := 32
  res := [.tmp 2]
  body :=
    (.seq
     (.reg [.mv 2 (.c (S []))])
    (.seq
     (.reg [.mv 6 (.t 0),
       .call (some 7) (.c (Fc F.spec_SignsOf)) [(.t 6)] (.ro true),
       .mv 5 (.t 7),
       .ext 8 (.t 5) 0,
       .ext 9 (.t 5) 1,
       .mv 3 (.t 8),
       .mv 4 (.t 9)])
    (.keep [0, 3]
     (.seq
      (.seq
       (.reg [.mv 10 (.t 3),
         .len 11 (.t 10),
         .bin 12 .eql (.t 11) (.c (I 1)),
         .mv 13 (.t 12),
         .gd 13 true (some 14) (.mv 14 (.t 3)),
         .gd 13 true (some 15) (.ia 15 5 (.t 14) (.c (I 0))),
         .gd 13 true (some 16) (.fa 16 (.t 15) 0),
         .gd 13 true (some 17) (.ld 17 false 1 (.t 16)),
         .gd 13 true (some 18) (.bin 18 .eql (.t 17) (.c (I 1))),
         .pick 19 (.t 13) (.t 18) (.c (B false)),
         .mv 20 (.t 19),
         .gd 20 true (some 21) (.mv 21 (.t 3)),
         .gd 20 true (some 22) (.ia 22 5 (.t 21) (.c (I 0))),
         .gd 20 true (some 23) (.fa 23 (.t 22) 1),
         .gd 20 true (some 24) (.ld 24 false 1 (.t 23)),
         .gd 20 true (some 25) (.mv 25 (.t 0)),
         .gd 20 true (some 26) (.bin 26 .eql (.t 24) (.t 25)),
         .pick 27 (.t 20) (.t 26) (.c (B false))])
      (.keep [0, 27]
       (.cond (.t 27)
        (.seq
         (.reg [.mv 28 (.t 0),
           .mv 2 (.t 28)])
        (.keep [2]
         .ret))
        .skip)))
     (.keep [0]
      (.seq
       (.reg [.mv 29 (.t 0),
         .bin 30 .add (.c (S [39])) (.t 29),
         .bin 31 .add (.t 30) (.c (S [39])),
         .mv 2 (.t 31)])
      (.keep [2]
       .ret)))))))
def LB.impl_sized_0 : AC :=
          (.seq
           (.reg [.bin 85 .lss (.t 84) (.t 83)])
          (.seq
           (.cond (.t 85)
            .skip
            (.keep [5]
             (.exit 1)))
          (.keep [1, 5, 82, 83, 84]
           (.seq
            (.block 2
             (.seq
              (.reg [.ia 86 4 (.t 82) (.t 84),
                .ld 87 true 4 (.t 86),
                .new 7 (.c (.a [(I 0), (S []), (I 0), (.n 4)])),
                .st 4 (.t 7) (.t 87)])
             (.keep [1, 5, 7, 82, 83, 84]
              (.seq
               (.reg [.mv 88 (.t 5),
                 .ld 89 true 4 (.t 7),
                 .mv 90 (.t 1),
                 .bin 91 .add (.t 90) (.c (I 1)),
                 .call (some 92) (.c (Fc F.impl_sized)) [(.t 89), (.t 91)] (.ro false),
                 .bin 93 .add (.t 88) (.t 92),
                 .mv 5 (.t 93)])
              (.keep [1, 5, 82, 83, 84]
               (.seq
                (.reg [.mv 94 (.t 5),
                  .bin 95 .gtr (.t 94) (.c (I 400))])
               (.cond (.t 95)
                (.seq
                 (.reg [.mv 4 (.c (I 401))])
                (.keep [4]
                 .ret))
                .skip)))))))
           (.keep [1, 5, 82, 83, 84]
            (.reg [.bin 96 .add (.t 84) (.c (I 1)),
              .mv 84 (.t 96)]))))))
def L.impl_sized_0 : Lp := ⟨[1, 5, 82, 83, 84], [(2, 0)], LB.impl_sized_0⟩
@[go_sem] theorem L.impl_sized_0_ls : L.impl_sized_0.ls = [1, 5, 82, 83, 84] := rfl
@[go_sem] theorem L.impl_sized_0_ks : L.impl_sized_0.ks = [(2, 0)] := rfl
@[go_sem] theorem L.impl_sized_0_b : L.impl_sized_0.body = LB.impl_sized_0 := rfl
def A.impl_sized : AF where
  nargs := 2
  ntmps := 98
  res := [.tmp 4]
  body :=
    (.seq
     (.reg [.new 2 (.t 0),
       .mv 4 (.c (I 0))])
    (.seq
     (.seq
      (.reg [.mv 8 (.t 1),
        .bin 9 .gtr (.t 8) (.c (I 40))])
     (.cond (.t 9)
      (.seq
       (.reg [.mv 4 (.c (I 401))])
      (.keep [4]
       .ret))
      .skip))
    (.keep [1, 2]
     (.seq
      (.seq
       (.reg [.fa 10 (.t 2) 0,
         .ld 11 false 1 (.t 10)])
      (.block 0
       (.seq
        (.reg [.bin 13 .eql (.t 11) (.c (I 1)),
          .mv 12 (.t 13)])
       (.cond (.t 12)
        (.seq
         (.reg [.fa 14 (.t 2) 1,
           .ld 15 false 1 (.t 14),
           .bin 16 .neq (.t 15) (.c (S [])),
           .mv 17 (.t 16),
           .gd 17 false (some 18) (.fa 18 (.t 2) 2),
           .gd 17 false (some 19) (.ld 19 false 1 (.t 18)),
           .gd 17 false (some 20) (.call (some 20) (.c (Fc F.impl_within)) [(.t 19), (.c (I 0)), (.c (I 99999))] (.ro true)),
           .gd 17 false (some 21) (.un 21 .not (.t 20)),
           .pick 22 (.t 17) (.c (B true)) (.t 21),
           .mv 23 (.t 22),
           .gd 23 false (some 24) (.fa 24 (.t 2) 3),
           .gd 23 false (some 25) (.ld 25 false 1 (.t 24)),
           .gd 23 false (some 26) (.len 26 (.t 25)),
           .gd 23 false (some 27) (.bin 27 .gtr (.t 26) (.c (I 0))),
           .pick 28 (.t 23) (.c (B true)) (.t 27)])
        (.keep [1, 2, 28]
         (.cond (.t 28)
          (.seq
           (.reg [.mv 4 (.c (I 401))])
          (.keep [4]
           .ret))
          .skip)))
        (.seq
         (.reg [.bin 30 .eql (.t 11) (.c (I 2)),
           .mv 29 (.t 30)])
        (.cond (.t 29)
         (.seq
          (.reg [.fa 31 (.t 2) 1,
            .ld 32 false 1 (.t 31),
            .call (some 33) (.c (Fc F.impl_nameOk)) [(.t 32)] (.ro true),
            .un 34 .not (.t 33),
            .mv 35 (.t 34),
            .gd 35 false (some 36) (.fa 36 (.t 2) 2),
            .gd 35 false (some 37) (.ld 37 false 1 (.t 36)),
            .gd 35 false (some 38) (.bin 38 .neq (.t 37) (.c (I 0))),
            .pick 39 (.t 35) (.c (B true)) (.t 38),
            .mv 40 (.t 39),
            .gd 40 false (some 41) (.fa 41 (.t 2) 3),
            .gd 40 false (some 42) (.ld 42 false 1 (.t 41)),
            .gd 40 false (some 43) (.len 43 (.t 42)),
            .gd 40 false (some 44) (.bin 44 .gtr (.t 43) (.c (I 0))),
            .pick 45 (.t 40) (.c (B true)) (.t 44)])
         (.keep [1, 2, 45]
          (.cond (.t 45)
           (.seq
            (.reg [.mv 4 (.c (I 401))])
           (.keep [4]
            .ret))
           .skip)))
         (.seq
          (.reg [.bin 47 .eql (.t 11) (.c (I 3)),
            .mv 46 (.t 47)])
         (.cond (.t 46)
          (.seq
           (.reg [.fa 48 (.t 2) 1,
             .ld 49 false 1 (.t 48),
             .bin 50 .neq (.t 49) (.c (S [])),
             .mv 51 (.t 50),
             .gd 51 false (some 52) (.fa 52 (.t 2) 2),
             .gd 51 false (some 53) (.ld 53 false 1 (.t 52)),
             .gd 51 false (some 54) (.call (some 54) (.c (Fc F.impl_within)) [(.t 53), (.c (I (-999999999))), (.c (I 999999999))] (.ro true)),
             .gd 51 false (some 55) (.un 55 .not (.t 54)),
             .pick 56 (.t 51) (.c (B true)) (.t 55),
             .mv 57 (.t 56),
             .gd 57 false (some 58) (.fa 58 (.t 2) 3),
             .gd 57 false (some 59) (.ld 59 false 1 (.t 58)),
             .gd 57 false (some 60) (.len 60 (.t 59)),
             .gd 57 false (some 61) (.bin 61 .gtr (.t 60) (.c (I 0))),
             .pick 62 (.t 57) (.c (B true)) (.t 61)])
          (.keep [1, 2, 62]
           (.cond (.t 62)
            (.seq
             (.reg [.mv 4 (.c (I 401))])
            (.keep [4]
             .ret))
            .skip)))
          (.seq
           (.reg [.bin 64 .eql (.t 11) (.c (I 4)),
             .mv 63 (.t 64)])
          (.cond (.t 63)
           (.seq
            (.reg [.fa 65 (.t 2) 1,
              .ld 66 false 1 (.t 65),
              .call (some 67) (.c (Fc F.impl_nameOk)) [(.t 66)] (.ro true),
              .un 68 .not (.t 67),
              .mv 69 (.t 68),
              .gd 69 false (some 70) (.fa 70 (.t 2) 2),
              .gd 69 false (some 71) (.ld 71 false 1 (.t 70)),
              .gd 69 false (some 72) (.bin 72 .neq (.t 71) (.c (I 0))),
              .pick 73 (.t 69) (.c (B true)) (.t 72),
              .mv 74 (.t 73),
              .gd 74 false (some 75) (.fa 75 (.t 2) 3),
              .gd 74 false (some 76) (.ld 76 false 1 (.t 75)),
              .gd 74 false (some 77) (.len 77 (.t 76)),
              .gd 74 false (some 78) (.call (some 78) (.c (Fc F.impl_within)) [(.t 77), (.c (I 1)), (.c (I 5))] (.ro true)),
              .gd 74 false (some 79) (.un 79 .not (.t 78)),
              .pick 80 (.t 74) (.c (B true)) (.t 79)])
           (.keep [1, 2, 80]
            (.cond (.t 80)
             (.seq
              (.reg [.mv 4 (.c (I 401))])
             (.keep [4]
              .ret))
             .skip)))
           (.seq
            (.reg [.mv 4 (.c (I 401))])
           (.keep [4]
            .ret))))))))))))
     (.keep [1, 2]
      (.seq
       (.reg [.mv 5 (.c (I 1))])
      (.seq
       (.seq
        (.reg [.fa 81 (.t 2) 3,
          .ld 82 false 1 (.t 81),
          .len 83 (.t 82),
          .mv 84 (.c (I 0))])
       (.keep [1, 5, 82, 83, 84]
        (.block 1
         (lpC L.impl_sized_0))))
      (.keep [5]
       (.seq
        (.reg [.mv 97 (.t 5),
          .mv 4 (.t 97)])
       (.keep [4]
        .ret))))))))))
def A.impl_isInfix : AF where
  nargs := 1
  ntmps := 23
  res := [.tmp 2]
  body :=
    (.seq
     (.reg [.new 1 (.t 0),
       .mv 2 (.c (B false))])
    (.seq
     (.reg [.fa 6 (.t 1) 1,
       .ld 7 false 1 (.t 6),
       .call (some 8) (.c (Fc F.impl_InfixOf)) [(.t 7)] (.ro false),
       .mv 5 (.t 8),
       .ext 9 (.t 5) 0,
       .ext 10 (.t 5) 1,
       .new 3 (.c (.a [(S []), (I 0), (I 0), (I 0)])),
       .st 4 (.t 3) (.t 9),
       .mv 4 (.t 10)])
    (.keep [1, 4]
     (.seq
      (.reg [.mv 11 (.t 4),
        .mv 12 (.t 11),
        .gd 12 true (some 13) (.fa 13 (.t 1) 0),
        .gd 12 true (some 14) (.ld 14 false 1 (.t 13)),
        .gd 12 true (some 15) (.bin 15 .eql (.t 14) (.c (I 4))),
        .pick 16 (.t 12) (.t 15) (.c (B false)),
        .mv 17 (.t 16),
        .gd 17 true (some 18) (.fa 18 (.t 1) 3),
        .gd 17 true (some 19) (.ld 19 false 1 (.t 18)),
        .gd 17 true (some 20) (.len 20 (.t 19)),
        .gd 17 true (some 21) (.bin 21 .eql (.t 20) (.c (I 2))),
        .pick 22 (.t 17) (.t 21) (.c (B false)),
        .mv 2 (.t 22)])
     (.keep [2]
      .ret)))))
def A.impl_InfixOf : AF where
  nargs := 1
  ntmps := 42
  res := [.cell 2 true 4, .tmp 3]
  body :=
    (.seq
     (.reg [.new 2 (.c (.a [(S []), (I 0), (I 0), (I 0)])),
       .mv 3 (.c (B false))])
    (.seq
     (.seq
      (.reg [.mv 4 (.t 0)])
     (.block 0
      (.seq
       (.seq
        (.reg [.bin 6 .eql (.t 4) (.c (S [58, 45])),
          .mv 5 (.t 6)])
       (.cond (.t 5)
        .skip
        (.reg [.bin 7 .eql (.t 4) (.c (S [45, 45, 62])),
          .mv 5 (.t 7)])))
      (.keep [0, 2, 4, 5]
       (.cond (.t 5)
        (.seq
         (.reg [.mv 8 (.t 0),
           .build 9 (.a [(S []), (I 0), (I 0), (I 0)]) [(0, 1, (.t 8)), (1, 1, (.c (I 1200))), (2, 1, (.c (I 1199))), (3, 1, (.c (I 1199)))],
           .st 4 (.t 2) (.t 9),
           .mv 3 (.c (B true))])
        (.keep [2, 3]
         .ret))
        (.seq
         (.reg [.bin 11 .eql (.t 4) (.c (S [59])),
           .mv 10 (.t 11)])
        (.cond (.t 10)
         (.seq
          (.reg [.mv 12 (.t 0),
            .build 13 (.a [(S []), (I 0), (I 0), (I 0)]) [(0, 1, (.t 12)), (1, 1, (.c (I 1100))), (2, 1, (.c (I 1099))), (3, 1, (.c (I 1100)))],
            .st 4 (.t 2) (.t 13),
            .mv 3 (.c (B true))])
         (.keep [2, 3]
          .ret))
         (.seq
          (.reg [.bin 15 .eql (.t 4) (.c (S [45, 62])),
            .mv 14 (.t 15)])
         (.cond (.t 14)
          (.seq
           (.reg [.mv 16 (.t 0),
             .build 17 (.a [(S []), (I 0), (I 0), (I 0)]) [(0, 1, (.t 16)), (1, 1, (.c (I 1050))), (2, 1, (.c (I 1049))), (3, 1, (.c (I 1050)))],
             .st 4 (.t 2) (.t 17),
             .mv 3 (.c (B true))])
          (.keep [2, 3]
           .ret))
          (.seq
           (.reg [.bin 19 .eql (.t 4) (.c (S [44])),
             .mv 18 (.t 19)])
          (.cond (.t 18)
           (.seq
            (.reg [.mv 20 (.t 0),
              .build 21 (.a [(S []), (I 0), (I 0), (I 0)]) [(0, 1, (.t 20)), (1, 1, (.c (I 1000))), (2, 1, (.c (I 999))), (3, 1, (.c (I 1000)))],
              .st 4 (.t 2) (.t 21),
              .mv 3 (.c (B true))])
           (.keep [2, 3]
            .ret))
           (.seq
            (.seq
             (.reg [.bin 23 .eql (.t 4) (.c (S [61])),
               .mv 22 (.t 23)])
            (.cond (.t 22)
             .skip
             (.seq
              (.reg [.bin 24 .eql (.t 4) (.c (S [92, 61])),
                .mv 22 (.t 24)])
             (.cond (.t 22)
              .skip
              (.seq
               (.reg [.bin 25 .eql (.t 4) (.c (S [61, 61])),
                 .mv 22 (.t 25)])
              (.cond (.t 22)
               .skip
               (.seq
                (.reg [.bin 26 .eql (.t 4) (.c (S [105, 115])),
                  .mv 22 (.t 26)])
               (.cond (.t 22)
                .skip
                (.seq
                 (.reg [.bin 27 .eql (.t 4) (.c (S [60])),
                   .mv 22 (.t 27)])
                (.cond (.t 22)
                 .skip
                 (.reg [.bin 28 .eql (.t 4) (.c (S [61, 58, 61])),
                   .mv 22 (.t 28)])))))))))))
           (.keep [0, 2, 4, 22]
            (.cond (.t 22)
             (.seq
              (.reg [.mv 29 (.t 0),
                .build 30 (.a [(S []), (I 0), (I 0), (I 0)]) [(0, 1, (.t 29)), (1, 1, (.c (I 700))), (2, 1, (.c (I 699))), (3, 1, (.c (I 699)))],
                .st 4 (.t 2) (.t 30),
                .mv 3 (.c (B true))])
             (.keep [2, 3]
              .ret))
             (.seq
              (.seq
               (.reg [.bin 32 .eql (.t 4) (.c (S [43])),
                 .mv 31 (.t 32)])
              (.cond (.t 31)
               .skip
               (.reg [.bin 33 .eql (.t 4) (.c (S [45])),
                 .mv 31 (.t 33)])))
             (.keep [0, 2, 4, 31]
              (.cond (.t 31)
               (.seq
                (.reg [.mv 34 (.t 0),
                  .build 35 (.a [(S []), (I 0), (I 0), (I 0)]) [(0, 1, (.t 34)), (1, 1, (.c (I 500))), (2, 1, (.c (I 500))), (3, 1, (.c (I 499)))],
                  .st 4 (.t 2) (.t 35),
                  .mv 3 (.c (B true))])
               (.keep [2, 3]
                .ret))
               (.seq
                (.seq
                 (.reg [.bin 37 .eql (.t 4) (.c (S [42])),
                   .mv 36 (.t 37)])
                (.cond (.t 36)
                 .skip
                 (.reg [.bin 38 .eql (.t 4) (.c (S [47, 47])),
                   .mv 36 (.t 38)])))
               (.keep [0, 2, 36]
                (.cond (.t 36)
                 (.seq
                  (.reg [.mv 39 (.t 0),
                    .build 40 (.a [(S []), (I 0), (I 0), (I 0)]) [(0, 1, (.t 39)), (1, 1, (.c (I 400))), (2, 1, (.c (I 400))), (3, 1, (.c (I 399)))],
                    .st 4 (.t 2) (.t 40),
                    .mv 3 (.c (B true))])
                 (.keep [2, 3]
                  .ret))
                 .skip))))))))))))))))))))
    (.keep [2]
     (.seq
      (.reg [.build 41 (.a [(S []), (I 0), (I 0), (I 0)]) [],
        .st 4 (.t 2) (.t 41),
        .mv 3 (.c (B false))])
     (.keep [2, 3]
      .ret)))))
def A.impl_plain : AF where
  nargs := 1
  ntmps := 5
  res := [.tmp 2]
  body :=
    (.seq
     (.reg [.new 1 (.t 0),
       .mv 2 (.c (S []))])
    (.seq
     (.reg [.ld 3 true 4 (.t 1),
       .call (some 4) (.c (Fc F.impl_writeWith)) [(.t 3), (.c (Fc F.impl_plain_1)), (.c (Fc F.impl_plain_2))] (.ro false),
       .mv 2 (.t 4)])
    (.keep [2]
     .ret)))
def A.impl_structure : AF where
  nargs := 2
  ntmps := 8
  res := [.cell 4 true 4]
  body :=
    (.seq
     (.reg [.new 4 (.c (.a [(I 0), (S []), (I 0), (.n 4)]))])
    (.seq
     (.reg [.mv 5 (.t 0),
       .mv 6 (.t 1),
       .build 7 (.a [(I 0), (S []), (I 0), (.n 4)]) [(0, 1, (.c (I 4))), (1, 1, (.t 5)), (3, 1, (.t 6))],
       .st 4 (.t 4) (.t 7)])
    (.keep [4]
     .ret)))
def A.impl_copyTerm : AF where
  nargs := 1
  ntmps := 5
  res := [.cell 2 true 4]
  body :=
    (.seq
     (.reg [.new 1 (.t 0),
       .new 2 (.c (.a [(I 0), (S []), (I 0), (.n 4)]))])
    (.seq
     (.reg [.ld 3 true 4 (.t 1),
       .call (some 4) (.c (Fc F.impl_renamed)) [(.t 3), (.c (Fc F.impl_copyTerm_1))] (.ro false),
       .st 4 (.t 2) (.t 4)])
    (.keep [2]
     .ret)))
def A.spec_l01In : AF where
  nargs := 3
  ntmps := 15
  res := [.tmp 6]
  body :=
    (.seq
     (.reg [.mv 6 (.c (B false))])
    (.seq
     (.reg [.mv 7 (.t 0),
       .mv 8 (.t 1),
       .bin 9 .geq (.t 7) (.t 8),
       .mv 10 (.t 9),
       .gd 10 true (some 11) (.mv 11 (.t 0)),
       .gd 10 true (some 12) (.mv 12 (.t 2)),
       .gd 10 true (some 13) (.bin 13 .leq (.t 11) (.t 12)),
       .pick 14 (.t 10) (.t 13) (.c (B false)),
       .mv 6 (.t 14)])
    (.keep [6]
     .ret)))
def A.spec_PredOf : AF where
  nargs := 1
  ntmps := 19
  res := [.tmp 2]
  body :=
    (.seq
     (.reg [.new 1 (.t 0),
       .mv 2 (.c (S []))])
    (.seq
     (.seq
      (.reg [.fa 3 (.t 1) 0,
        .ld 4 false 1 (.t 3),
        .bin 5 .neq (.t 4) (.c (I 2)),
        .mv 6 (.t 5),
        .gd 6 true (some 7) (.fa 7 (.t 1) 0),
        .gd 6 true (some 8) (.ld 8 false 1 (.t 7)),
        .gd 6 true (some 9) (.bin 9 .neq (.t 8) (.c (I 4))),
        .pick 10 (.t 6) (.t 9) (.c (B false))])
     (.keep [1, 10]
      (.cond (.t 10)
       (.seq
        (.reg [.mv 2 (.c (S []))])
       (.keep [2]
        .ret))
       .skip)))
    (.keep [1]
     (.seq
      (.dreg [⟨0, []⟩, ⟨0, [(0, 0), (0, 1), (0, 2), (0, 3), (1, 0)]⟩, ⟨0, []⟩, ⟨0, []⟩, ⟨0, [(0, 0), (0, 1), (0, 2), (0, 3), (1, 0)]⟩, ⟨0, [(0, 0), (0, 1), (0, 2), (0, 3), (1, 0), (15, 0)]⟩, ⟨2, [(0, 0), (0, 1), (0, 2), (0, 3), (1, 0), (15, 0)]⟩, ⟨0, []⟩, ⟨0, []⟩]
       [.fa 11 (.t 1) 1,
        .ldq 12 false 1 (.t 11),
        .bin 13 .add (.t 12) (.c (S [47])),
        .fa 14 (.t 1) 3,
        .ldq 15 false 1 (.t 14),
        .len 16 (.t 15),
        .call (some 17) (.c (Fc F.spec_Decimal)) [(.t 16)] (.ro false),
        .bin 18 .add (.t 13) (.t 17),
        .mv 2 (.t 18)])
     (.keep [2]
      .ret)))))
def A.impl_Decimal : AF where
  nargs := 1
  ntmps := 5
  res := [.tmp 2]
  body :=
    (.seq
     (.reg [.mv 2 (.c (S []))])
    (.seq
     (.reg [.mv 3 (.t 0),
       .call (some 4) (.c (Fc F.strconv_Itoa)) [(.t 3)] (.ro false),
       .mv 2 (.t 4)])
    (.keep [2]
     .ret)))
def A.impl_NeatClause : AF where
  nargs := 1
  ntmps := 18
  res := [.cell 2 true 9]
  body :=
    (.seq
     (.reg [.new 1 (.t 0),
       .new 2 (.c (.a [(I 0), (S []), (I 0), (.n 4), (I 0), (S []), (I 0), (.n 4), (S [])]))])
    (.seq
     (.reg [.ld 4 true 9 (.t 1),
       .call (some 5) (.c (Fc F.impl_ClauseTerm)) [(.t 4)] (.ro false),
       .call (some 6) (.c (Fc F.impl_fresh)) [(.t 5), (.c (I 0))] (.ro false),
       .new 3 (.c (.a [(I 0), (S []), (I 0), (.n 4)])),
       .st 4 (.t 3) (.t 6)])
    (.keep [1, 2, 3]
     (.seq
      (.opn [(500000, (6, 0), 0), (500001, (6, 0), 1)] (.dreg [⟨0, []⟩, ⟨0, [(0, 0), (0, 1), (0, 2), (0, 3), (1, 0), (3, 0), (4, 0), (5, 0), (5, 1), (5, 2), (5, 3), (6, 0), (6, 1), (6, 2), (6, 3)]⟩, ⟨0, [(0, 0), (0, 1), (0, 2), (0, 3), (1, 0), (3, 0), (4, 0), (5, 0), (5, 1), (5, 2), (5, 3), (6, 0), (6, 1), (6, 2), (6, 3), (8, 0)]⟩, ⟨0, [(0, 0), (0, 1), (0, 2), (0, 3), (1, 0), (3, 0), (4, 0), (5, 0), (5, 1), (5, 2), (5, 3), (6, 0), (6, 1), (6, 2), (6, 3), (8, 0)]⟩, ⟨0, []⟩, ⟨0, [(0, 0), (0, 1), (0, 2), (0, 3), (1, 0), (3, 0), (4, 0), (5, 0), (5, 1), (5, 2), (5, 3), (6, 0), (6, 1), (6, 2), (6, 3)]⟩, ⟨0, [(0, 0), (0, 1), (0, 2), (0, 3), (1, 0), (3, 0), (4, 0), (5, 0), (5, 1), (5, 2), (5, 3), (6, 0), (6, 1), (6, 2), (6, 3), (12, 0)]⟩, ⟨0, [(0, 0), (0, 1), (0, 2), (0, 3), (1, 0), (3, 0), (4, 0), (5, 0), (5, 1), (5, 2), (5, 3), (6, 0), (6, 1), (6, 2), (6, 3), (12, 0)]⟩, ⟨0, []⟩, ⟨0, [(0, 0), (0, 1), (0, 2), (0, 3), (1, 0)]⟩, ⟨0, []⟩, ⟨1, [(0, 0), (0, 1), (0, 2), (0, 3), (1, 0), (2, 0), (3, 0), (4, 0), (5, 0), (5, 1), (5, 2), (5, 3), (6, 0), (6, 1), (6, 2), (6, 3), (8, 0), (10, 0), (12, 0), (14, 0), (16, 0)]⟩]
       [.fa 7 (.t 3) 3,
        .ldq 8 false 1 (.t 7),
        .ia 9 4 (.t 8) (.c (I 0)),
        .ldq 10 true 4 (.t 9),
        .fa 11 (.t 3) 3,
        .ldq 12 false 1 (.t 11),
        .ia 13 4 (.t 12) (.c (I 1)),
        .ldq 14 true 4 (.t 13),
        .fa 15 (.t 1) 8,
        .ldq 16 false 1 (.t 15),
        .build 17 (.a [(I 0), (S []), (I 0), (.n 4), (I 0), (S []), (I 0), (.n 4), (S [])]) [(0, 4, (.t 10)), (4, 4, (.t 14)), (8, 1, (.t 16))],
        .st 9 (.t 2) (.t 17)]))
     (.keep [2]
      .ret)))))
def A.impl_write : AF where
  nargs := 1
  ntmps := 5
  res := [.tmp 2]
  body :=
    (.seq
     (.reg [.new 1 (.t 0),
       .mv 2 (.c (S []))])
    (.seq
     (.reg [.ld 3 true 4 (.t 1),
       .call (some 4) (.c (Fc F.impl_writeWith)) [(.t 3), (.c (Fc F.impl_write)), (.c (Fc F.impl_write_1))] (.ro false),
       .mv 2 (.t 4)])
    (.keep [2]
     .ret)))
def A.spec_l03One : AF where
  nargs := 1
  ntmps := 69
  res := [.tmp 2]
  body :=
    (.seq
     (.reg [.new 1 (.t 0),
       .mv 2 (.c (B false))])
    (.seq
     (.seq
      (.reg [.fa 3 (.t 1) 0,
        .ld 4 false 1 (.t 3)])
     (.block 0
      (.seq
       (.reg [.bin 6 .eql (.t 4) (.c (I 1)),
         .mv 5 (.t 6)])
      (.cond (.t 5)
       (.seq
        (.reg [.fa 7 (.t 1) 2,
          .ld 8 false 1 (.t 7),
          .call (some 9) (.c (Fc F.spec_l01In)) [(.t 8), (.c (I 0)), (.c (I 99999))] (.ro false),
          .mv 10 (.t 9),
          .gd 10 true (some 11) (.fa 11 (.t 1) 1),
          .gd 10 true (some 12) (.ld 12 false 1 (.t 11)),
          .gd 10 true (some 13) (.bin 13 .eql (.t 12) (.c (S []))),
          .pick 14 (.t 10) (.t 13) (.c (B false)),
          .mv 15 (.t 14),
          .gd 15 true (some 16) (.fa 16 (.t 1) 3),
          .gd 15 true (some 17) (.ld 17 false 1 (.t 16)),
          .gd 15 true (some 18) (.len 18 (.t 17)),
          .gd 15 true (some 19) (.bin 19 .eql (.t 18) (.c (I 0))),
          .pick 20 (.t 15) (.t 19) (.c (B false)),
          .mv 2 (.t 20)])
       (.keep [2]
        .ret))
       (.seq
        (.reg [.bin 22 .eql (.t 4) (.c (I 2)),
          .mv 21 (.t 22)])
       (.cond (.t 21)
        (.seq
         (.reg [.fa 23 (.t 1) 1,
           .ld 24 false 1 (.t 23),
           .call (some 25) (.c (Fc F.spec_l03Name)) [(.t 24)] (.ro false),
           .mv 26 (.t 25),
           .gd 26 true (some 27) (.fa 27 (.t 1) 2),
           .gd 26 true (some 28) (.ld 28 false 1 (.t 27)),
           .gd 26 true (some 29) (.bin 29 .eql (.t 28) (.c (I 0))),
           .pick 30 (.t 26) (.t 29) (.c (B false)),
           .mv 31 (.t 30),
           .gd 31 true (some 32) (.fa 32 (.t 1) 3),
           .gd 31 true (some 33) (.ld 33 false 1 (.t 32)),
           .gd 31 true (some 34) (.len 34 (.t 33)),
           .gd 31 true (some 35) (.bin 35 .eql (.t 34) (.c (I 0))),
           .pick 36 (.t 31) (.t 35) (.c (B false)),
           .mv 2 (.t 36)])
        (.keep [2]
         .ret))
        (.seq
         (.reg [.bin 38 .eql (.t 4) (.c (I 3)),
           .mv 37 (.t 38)])
        (.cond (.t 37)
         (.seq
          (.reg [.fa 39 (.t 1) 2,
            .ld 40 false 1 (.t 39),
            .call (some 41) (.c (Fc F.spec_l01In)) [(.t 40), (.c (I (-999999999))), (.c (I 999999999))] (.ro false),
            .mv 42 (.t 41),
            .gd 42 true (some 43) (.fa 43 (.t 1) 1),
            .gd 42 true (some 44) (.ld 44 false 1 (.t 43)),
            .gd 42 true (some 45) (.bin 45 .eql (.t 44) (.c (S []))),
            .pick 46 (.t 42) (.t 45) (.c (B false)),
            .mv 47 (.t 46),
            .gd 47 true (some 48) (.fa 48 (.t 1) 3),
            .gd 47 true (some 49) (.ld 49 false 1 (.t 48)),
            .gd 47 true (some 50) (.len 50 (.t 49)),
            .gd 47 true (some 51) (.bin 51 .eql (.t 50) (.c (I 0))),
            .pick 52 (.t 47) (.t 51) (.c (B false)),
            .mv 2 (.t 52)])
         (.keep [2]
          .ret))
         (.seq
          (.reg [.bin 54 .eql (.t 4) (.c (I 4)),
            .mv 53 (.t 54)])
         (.cond (.t 53)
          (.seq
           (.reg [.fa 55 (.t 1) 1,
             .ld 56 false 1 (.t 55),
             .call (some 57) (.c (Fc F.spec_l03Name)) [(.t 56)] (.ro false),
             .mv 58 (.t 57),
             .gd 58 true (some 59) (.fa 59 (.t 1) 2),
             .gd 58 true (some 60) (.ld 60 false 1 (.t 59)),
             .gd 58 true (some 61) (.bin 61 .eql (.t 60) (.c (I 0))),
             .pick 62 (.t 58) (.t 61) (.c (B false)),
             .mv 63 (.t 62),
             .gd 63 true (some 64) (.fa 64 (.t 1) 3),
             .gd 63 true (some 65) (.ld 65 false 1 (.t 64)),
             .gd 63 true (some 66) (.len 66 (.t 65)),
             .gd 63 true (some 67) (.call (some 67) (.c (Fc F.spec_l01In)) [(.t 66), (.c (I 1)), (.c (I 5))] (.ro false)),
             .pick 68 (.t 63) (.t 67) (.c (B false)),
             .mv 2 (.t 68)])
          (.keep [2]
           .ret))
          .skip))))))))))
    (.keep []
     (.seq
      (.reg [.mv 2 (.c (B false))])
     (.keep [2]
      .ret)))))
def A.spec_l03Two : AF where
  nargs := 3
  ntmps := 12
  res := [.cell 6 true 4]
  body :=
    (.seq
     (.reg [.new 4 (.t 1),
       .new 5 (.t 2),
       .new 6 (.c (.a [(I 0), (S []), (I 0), (.n 4)]))])
    (.seq
     (.reg [.mv 7 (.t 0),
       .ld 8 true 4 (.t 4),
       .ld 9 true 4 (.t 5),
       .mks 10 4 [(.t 8), (.t 9)],
       .build 11 (.a [(I 0), (S []), (I 0), (.n 4)]) [(0, 1, (.c (I 4))), (1, 1, (.t 7)), (3, 1, (.t 10))],
       .st 4 (.t 6) (.t 11)])
    (.keep [6]
     .ret)))
def LB.spec_l34Terms_0 : AC :=
       (.seq
        (.seq
         (.reg [.mv 6 (.t 4),
           .mv 7 (.t 0),
           .len 8 (.t 7),
           .bin 9 .lss (.t 6) (.t 8)])
        (.keep [0, 3, 4, 9]
         (.cond (.t 9)
          .skip
          (.keep [3]
           (.exit 0)))))
       (.keep [0, 3, 4]
        (.seq
         (.block 1
          (.reg [.mv 12 (.t 3),
            .mv 13 (.t 0),
            .mv 14 (.t 4),
            .ia 15 4 (.t 13) (.t 14),
            .ld 16 true 4 (.t 15),
            .call (some 17) (.c (Fc F.spec_l34Term)) [(.t 16)] (.ro false),
            .mks 18 4 [(.t 17)],
            .app 19 4 56 (.t 12) (.t 18),
            .mv 3 (.t 19)]))
        (.keep [0, 3, 4]
         (.reg [.mv 10 (.t 4),
           .bin 11 .add (.t 10) (.c (I 1)),
           .mv 4 (.t 11)])))))
def L.spec_l34Terms_0 : Lp := ⟨[0, 3, 4], [(1, 0)], LB.spec_l34Terms_0⟩
@[go_sem] theorem L.spec_l34Terms_0_ls : L.spec_l34Terms_0.ls = [0, 3, 4] := rfl
@[go_sem] theorem L.spec_l34Terms_0_ks : L.spec_l34Terms_0.ks = [(1, 0)] := rfl
@[go_sem] theorem L.spec_l34Terms_0_b : L.spec_l34Terms_0.body = LB.spec_l34Terms_0 := rfl
def A.spec_l34Terms : AF where
  nargs := 1
  ntmps := 21
  res := [.tmp 2]
  body :=
    (.seq
     (.reg [.mv 2 (.c (.n 4))])
    (.seq
     (.reg [.mks 5 4 [],
       .mv 3 (.t 5)])
    (.seq
     (.seq
      (.reg [.mv 4 (.c (I 0))])
     (.block 0
      (lpC L.spec_l34Terms_0)))
    (.keep [3]
     (.seq
      (.reg [.mv 20 (.t 3),
        .mv 2 (.t 20)])
     (.keep [2]
      .ret))))))
def LB.spec_Decimal_0 : AC :=
        (.seq
         (.seq
          (.reg [.mv 10 (.t 0),
            .bin 11 .neq (.t 10) (.c (I 0))])
         (.cond (.t 11)
          .skip
          (.keep [3, 4]
           (.exit 0))))
        (.keep [0, 3, 4]
         (.block 1
          (.seq
           (.reg [.mv 12 (.t 0),
             .bin 13 .rem (.t 12) (.c (I 10)),
             .mv 5 (.t 13)])
          (.seq
           (.seq
            (.reg [.mv 14 (.t 5),
              .bin 15 .lss (.t 14) (.c (I 0))])
           (.cond (.t 15)
            (.reg [.mv 16 (.t 5),
              .un 17 .neg (.t 16),
              .mv 5 (.t 17)])
            .skip))
          (.keep [0, 3, 4, 5]
           (.seq
            (.reg [.mv 18 (.t 5),
              .call (some 19) (.c (Fc F.spec_l01Figure)) [(.t 18)] (.ro false),
              .mks 20 1 [(.t 19)],
              .str 21 (.t 20),
              .mv 22 (.t 4),
              .bin 23 .add (.t 21) (.t 22),
              .mv 4 (.t 23)])
           (.keep [0, 3, 4]
            (.reg [.mv 24 (.t 0),
              .bin 25 .quo (.t 24) (.c (I 10)),
              .mv 0 (.t 25)])))))))))
def L.spec_Decimal_0 : Lp := ⟨[0, 3, 4], [(1, 0)], LB.spec_Decimal_0⟩
@[go_sem] theorem L.spec_Decimal_0_ls : L.spec_Decimal_0.ls = [0, 3, 4] := rfl
@[go_sem] theorem L.spec_Decimal_0_ks : L.spec_Decimal_0.ks = [(1, 0)] := rfl
@[go_sem] theorem L.spec_Decimal_0_b : L.spec_Decimal_0.body = LB.spec_Decimal_0 := rfl
def A.spec_Decimal : AF where
  nargs := 1
  ntmps := 30
  res := [.tmp 2]
  body :=
    (.seq
     (.reg [.mv 2 (.c (S []))])
    (.seq
     (.seq
      (.reg [.mv 6 (.t 0),
        .bin 7 .eql (.t 6) (.c (I 0))])
     (.cond (.t 7)
      (.seq
       (.reg [.mv 2 (.c (S [48]))])
      (.keep [2]
       .ret))
      .skip))
    (.keep [0]
     (.seq
      (.reg [.mv 8 (.t 0),
        .bin 9 .lss (.t 8) (.c (I 0)),
        .mv 3 (.t 9)])
     (.seq
      (.reg [.mv 4 (.c (S []))])
     (.seq
      (.block 0
       (lpC L.spec_Decimal_0))
     (.keep [3, 4]
      (.seq
       (.seq
        (.reg [.mv 26 (.t 3)])
       (.cond (.t 26)
        (.seq
         (.reg [.mv 27 (.t 4),
           .bin 28 .add (.c (S [45])) (.t 27),
           .mv 2 (.t 28)])
        (.keep [2]
         .ret))
        .skip))
      (.keep [4]
       (.seq
        (.reg [.mv 29 (.t 4),
          .mv 2 (.t 29)])
       (.keep [2]
        .ret)))))))))))
def A.spec_l07Op : AF where
  nargs := 1
  ntmps := 21
  res := [.tmp 2]
  body :=
    (.seq
     (.reg [.mv 2 (.c (B false))])
    (.seq
     (.reg [.mv 8 (.t 0),
       .call (some 9) (.c (Fc F.spec_InfixOf)) [(.t 8)] (.ro false),
       .mv 7 (.t 9),
       .ext 10 (.t 7) 0,
       .ext 11 (.t 7) 1,
       .new 3 (.c (.a [(S []), (I 0), (I 0), (I 0)])),
       .st 4 (.t 3) (.t 10),
       .mv 4 (.t 11)])
    (.keep [0, 4]
     (.seq
      (.reg [.mv 13 (.t 0),
        .call (some 14) (.c (Fc F.spec_PrefixOf)) [(.t 13)] (.ro false),
        .mv 12 (.t 14),
        .ext 15 (.t 12) 0,
        .ext 16 (.t 12) 1,
        .new 5 (.c (.a [(S []), (I 0), (I 0), (I 0)])),
        .st 4 (.t 5) (.t 15),
        .mv 6 (.t 16)])
     (.keep [4, 6]
      (.seq
       (.reg [.mv 17 (.t 4),
         .mv 18 (.t 17),
         .gd 18 false (some 19) (.mv 19 (.t 6)),
         .pick 20 (.t 18) (.c (B true)) (.t 19),
         .mv 2 (.t 20)])
      (.keep [2]
       .ret)))))))
def LB.spec_l07Row_0 : AC :=
        (.seq
         (.seq
          (.reg [.fa 11 (.t 1) 3,
            .ld 12 false 1 (.t 11),
            .ia 13 4 (.t 12) (.c (I 1)),
            .ld 14 true 4 (.t 13),
            .call (some 15) (.c (Fc F.spec_l03Is)) [(.t 14), (.c (S [46])), (.c (I 2))] (.ro true)])
         (.keep [1, 3, 15]
          (.cond (.t 15)
           .skip
           (.keep [1, 3]
            (.exit 0)))))
        (.keep [1, 3]
         (.block 1
          (.seq
           (.reg [.fa 16 (.t 1) 3,
             .ld 17 false 1 (.t 16),
             .ia 18 4 (.t 17) (.c (I 1)),
             .ld 19 true 4 (.t 18),
             .st 4 (.t 1) (.t 19)])
          (.keep [1, 3]
           (.reg [.mv 20 (.t 3),
             .bin 21 .add (.t 20) (.c (S [44])),
             .fa 22 (.t 1) 3,
             .ld 23 false 1 (.t 22),
             .ia 24 4 (.t 23) (.c (I 0)),
             .ld 25 true 4 (.t 24),
             .call (some 26) (.c (Fc F.spec_l07Write)) [(.t 25)] (.ro false),
             .bin 27 .add (.t 21) (.t 26),
             .mv 3 (.t 27)]))))))
def L.spec_l07Row_0 : Lp := ⟨[1, 3], [(1, 0)], LB.spec_l07Row_0⟩
@[go_sem] theorem L.spec_l07Row_0_ls : L.spec_l07Row_0.ls = [1, 3] := rfl
@[go_sem] theorem L.spec_l07Row_0_ks : L.spec_l07Row_0.ks = [(1, 0)] := rfl
@[go_sem] theorem L.spec_l07Row_0_b : L.spec_l07Row_0.body = LB.spec_l07Row_0 := rfl
def A.spec_l07Row : AF where
  nargs := 1
  ntmps := 48
  res := [.tmp 2]
  body :=
    (.seq
     (.reg [.new 1 (.t 0),
       .mv 2 (.c (S []))])
    (.seq
     (.reg [.fa 5 (.t 1) 3,
       .ld 6 false 1 (.t 5),
       .ia 7 4 (.t 6) (.c (I 0)),
       .ld 8 true 4 (.t 7),
       .call (some 9) (.c (Fc F.spec_l07Write)) [(.t 8)] (.ro false),
       .bin 10 .add (.c (S [91])) (.t 9),
       .mv 3 (.t 10)])
    (.keep [1, 3]
     (.seq
      (.block 0
       (lpC L.spec_l07Row_0))
     (.keep [1, 3]
      (.seq
       (.reg [.fa 28 (.t 1) 3,
         .ld 29 false 1 (.t 28),
         .ia 30 4 (.t 29) (.c (I 1)),
         .ld 31 true 4 (.t 30),
         .new 4 (.c (.a [(I 0), (S []), (I 0), (.n 4)])),
         .st 4 (.t 4) (.t 31)])
      (.keep [3, 4]
       (.seq
        (.seq
         (.reg [.fa 32 (.t 4) 0,
           .ld 33 false 1 (.t 32),
           .bin 34 .eql (.t 33) (.c (I 2)),
           .mv 35 (.t 34),
           .gd 35 true (some 36) (.fa 36 (.t 4) 1),
           .gd 35 true (some 37) (.ld 37 false 1 (.t 36)),
           .gd 35 true (some 38) (.bin 38 .eql (.t 37) (.c (S [91, 93]))),
           .pick 39 (.t 35) (.t 38) (.c (B false))])
        (.keep [3, 4, 39]
         (.cond (.t 39)
          (.seq
           (.reg [.mv 40 (.t 3),
             .bin 41 .add (.t 40) (.c (S [93])),
             .mv 2 (.t 41)])
          (.keep [2]
           .ret))
          .skip)))
       (.keep [3, 4]
        (.seq
         (.reg [.mv 42 (.t 3),
           .bin 43 .add (.t 42) (.c (S [124])),
           .ld 44 true 4 (.t 4),
           .call (some 45) (.c (Fc F.spec_l07Write)) [(.t 44)] (.ro false),
           .bin 46 .add (.t 43) (.t 45),
           .bin 47 .add (.t 46) (.c (S [93])),
           .mv 2 (.t 47)])
        (.keep [2]
         .ret)))))))))))
def LB.spec_SignsOf_0 : AC :=
                 (.seq
                  (.seq
                   (.reg [.mv 27 (.t 5),
                     .mv 28 (.t 0),
                     .slen 29 (.t 28),
                     .bin 30 .lss (.t 27) (.t 29),
                     .mv 31 (.t 30),
                     .gd 31 true (some 32) (.mv 32 (.t 0)),
                     .gd 31 true (some 33) (.mv 33 (.t 5)),
                     .gd 31 true (some 34) (.ix 34 (.t 32) (.t 33)),
                     .gd 31 true (some 35) (.bin 35 .neq (.t 34) (.c (U8 10))),
                     .pick 36 (.t 31) (.t 35) (.c (B false))])
                  (.keep [0, 4, 5, 36]
                   (.cond (.t 36)
                    .skip
                    (.keep [0, 4, 5]
                     (.exit 2)))))
                 (.keep [0, 4, 5]
                  (.block 3
                   (.reg [.mv 37 (.t 5),
                     .bin 38 .add (.t 37) (.c (I 1)),
                     .mv 5 (.t 38)]))))
def L.spec_SignsOf_0 : Lp := ⟨[0, 4, 5], [(1, 0)], LB.spec_SignsOf_0⟩
@[go_sem] theorem L.spec_SignsOf_0_ls : L.spec_SignsOf_0.ls = [0, 4, 5] := rfl
@[go_sem] theorem L.spec_SignsOf_0_ks : L.spec_SignsOf_0.ks = [(1, 0)] := rfl
@[go_sem] theorem L.spec_SignsOf_0_b : L.spec_SignsOf_0.body = LB.spec_SignsOf_0 := rfl
def LB.spec_SignsOf_1 : AC :=
        (.seq
         (.seq
          (.reg [.mv 13 (.t 5),
            .mv 14 (.t 0),
            .slen 15 (.t 14),
            .bin 16 .lss (.t 13) (.t 15)])
         (.keep [0, 4, 5, 16]
          (.cond (.t 16)
           .skip
           (.keep [4]
            (.exit 0)))))
        (.keep [0, 4, 5]
         (.block 1
          (.seq
           (.seq
            (.reg [.mv 17 (.t 0),
              .mv 18 (.t 5),
              .ix 19 (.t 17) (.t 18),
              .call (some 20) (.c (Fc F.spec_l05Blank)) [(.t 19)] (.ro true)])
           (.keep [0, 4, 5, 20]
            (.cond (.t 20)
             (.seq
              (.reg [.mv 21 (.t 5),
                .bin 22 .add (.t 21) (.c (I 1)),
                .mv 5 (.t 22)])
             (.keep [0, 4, 5]
              (.exit 1)))
             .skip)))
          (.keep [0, 4, 5]
           (.seq
            (.seq
             (.reg [.mv 23 (.t 0),
               .mv 24 (.t 5),
               .ix 25 (.t 23) (.t 24),
               .bin 26 .eql (.t 25) (.c (U8 37))])
            (.keep [0, 4, 5, 26]
             (.cond (.t 26)
              (.seq
               (.block 2
                (lpC L.spec_SignsOf_0))
              (.keep [0, 4, 5]
               (.exit 1)))
              .skip)))
           (.keep [0, 4, 5]
            (.seq
             (.reg [.mv 40 (.t 0),
               .mv 41 (.t 5),
               .call (some 42) (.c (Fc F.spec_l05Sign)) [(.t 40), (.t 41)] (.ro false),
               .mv 39 (.t 42),
               .ext 43 (.t 39) 0,
               .ext 44 (.t 39) 1,
               .new 6 (.c (.a [(I 0), (S []), (I 0), (I 0), (B false)])),
               .st 5 (.t 6) (.t 43),
               .mv 7 (.t 44)])
            (.keep [0, 4, 6, 7]
             (.seq
              (.reg [.mv 45 (.t 7),
                .mv 46 (.t 0),
                .slen 47 (.t 46),
                .bin 48 .lss (.t 45) (.t 47),
                .mv 49 (.t 48),
                .gd 49 true (some 50) (.mv 50 (.t 0)),
                .gd 49 true (some 51) (.mv 51 (.t 7)),
                .gd 49 true (some 52) (.ix 52 (.t 50) (.t 51)),
                .gd 49 true (some 53) (.bin 53 .eql (.t 52) (.c (U8 40))),
                .pick 54 (.t 49) (.t 53) (.c (B false)),
                .fa 55 (.t 6) 4,
                .st 1 (.t 55) (.t 54)])
             (.keep [0, 4, 6, 7]
              (.seq
               (.reg [.mv 56 (.t 4),
                 .ld 57 true 5 (.t 6),
                 .mks 58 5 [(.t 57)],
                 .app 59 5 48 (.t 56) (.t 58),
                 .mv 4 (.t 59)])
              (.keep [0, 4, 7]
               (.reg [.mv 60 (.t 7),
                 .mv 5 (.t 60)]))))))))))))))
def L.spec_SignsOf_1 : Lp := ⟨[0, 4, 5], [(1, 0)], LB.spec_SignsOf_1⟩
@[go_sem] theorem L.spec_SignsOf_1_ls : L.spec_SignsOf_1.ls = [0, 4, 5] := rfl
@[go_sem] theorem L.spec_SignsOf_1_ks : L.spec_SignsOf_1.ks = [(1, 0)] := rfl
@[go_sem] theorem L.spec_SignsOf_1_b : L.spec_SignsOf_1.body = LB.spec_SignsOf_1 := rfl
def A.spec_SignsOf : AF where
  nargs := 1
  ntmps := 62
  res := [.tmp 2, .tmp 3]
  body :=
    (.seq
     (.reg [.mv 2 (.c (.n 5)),
       .mv 3 (.c (B false))])
    (.seq
     (.reg [.mks 8 5 [],
       .mv 4 (.t 8)])
    (.seq
     (.seq
      (.reg [.mv 9 (.t 0),
        .slen 10 (.t 9),
        .bin 11 .gtr (.t 10) (.c (I 3000))])
     (.cond (.t 11)
      (.seq
       (.reg [.mv 12 (.t 4),
         .mv 2 (.t 12),
         .mv 3 (.c (B false))])
      (.keep [2, 3]
       .ret))
      .skip))
    (.keep [0, 4]
     (.seq
      (.reg [.mv 5 (.c (I 0))])
     (.seq
      (.block 0
       (lpC L.spec_SignsOf_1))
     (.keep [4]
      (.seq
       (.reg [.mv 61 (.t 4),
         .mv 2 (.t 61),
         .mv 3 (.c (B true))])
      (.keep [2, 3]
       .ret)))))))))
def LB.impl_nameOk_0 : AC :=
       (.seq
        (.seq
         (.reg [.mv 4 (.t 3),
           .mv 5 (.t 0),
           .slen 6 (.t 5),
           .bin 7 .lss (.t 4) (.t 6)])
        (.keep [0, 3, 7]
         (.cond (.t 7)
          .skip
          (.keep [0]
           (.exit 0)))))
       (.keep [0, 3]
        (.seq
         (.block 1
          (.seq
           (.reg [.mv 10 (.t 0),
             .mv 11 (.t 3),
             .ix 12 (.t 10) (.t 11),
             .int 13 .i64 (.t 12),
             .call (some 14) (.c (Fc F.impl_within)) [(.t 13), (.c (I 33)), (.c (I 126))] (.ro true),
             .un 15 .not (.t 14),
             .mv 16 (.t 15),
             .gd 16 false (some 17) (.mv 17 (.t 0)),
             .gd 16 false (some 18) (.mv 18 (.t 3)),
             .gd 16 false (some 19) (.ix 19 (.t 17) (.t 18)),
             .gd 16 false (some 20) (.bin 20 .eql (.t 19) (.c (U8 39))),
             .pick 21 (.t 16) (.c (B true)) (.t 20),
             .mv 22 (.t 21),
             .gd 22 false (some 23) (.mv 23 (.t 0)),
             .gd 22 false (some 24) (.mv 24 (.t 3)),
             .gd 22 false (some 25) (.ix 25 (.t 23) (.t 24)),
             .gd 22 false (some 26) (.bin 26 .eql (.t 25) (.c (U8 34))),
             .pick 27 (.t 22) (.c (B true)) (.t 26)])
          (.keep [0, 3, 27]
           (.cond (.t 27)
            (.seq
             (.reg [.mv 2 (.c (B false))])
            (.keep [2]
             .ret))
            .skip))))
        (.keep [0, 3]
         (.reg [.mv 8 (.t 3),
           .bin 9 .add (.t 8) (.c (I 1)),
           .mv 3 (.t 9)])))))
def L.impl_nameOk_0 : Lp := ⟨[0, 3], [(1, 0)], LB.impl_nameOk_0⟩
@[go_sem] theorem L.impl_nameOk_0_ls : L.impl_nameOk_0.ls = [0, 3] := rfl
@[go_sem] theorem L.impl_nameOk_0_ks : L.impl_nameOk_0.ks = [(1, 0)] := rfl
@[go_sem] theorem L.impl_nameOk_0_b : L.impl_nameOk_0.body = LB.impl_nameOk_0 := rfl
def A.impl_nameOk : AF where
  nargs := 1
  ntmps := 31
  res := [.tmp 2]
  body :=
    (.seq
     (.reg [.mv 2 (.c (B false))])
    (.seq
     (.seq
      (.reg [.mv 3 (.c (I 0))])
     (.block 0
      (lpC L.impl_nameOk_0)))
    (.keep [0]
     (.seq
      (.reg [.mv 28 (.t 0),
        .slen 29 (.t 28),
        .call (some 30) (.c (Fc F.impl_within)) [(.t 29), (.c (I 1)), (.c (I 20))] (.ro false),
        .mv 2 (.t 30)])
     (.keep [2]
      .ret)))))
def LB.impl_writeWith_0 : AC :=
         (.seq
          (.reg [.bin 101 .lss (.t 100) (.t 99)])
         (.seq
          (.cond (.t 101)
           .skip
           (.keep [3, 9]
            (.exit 3)))
         (.keep [1, 3, 9, 98, 99, 100]
          (.seq
           (.block 4
            (.seq
             (.reg [.ia 102 4 (.t 98) (.t 100),
               .ld 103 true 4 (.t 102),
               .new 11 (.c (.a [(I 0), (S []), (I 0), (.n 4)])),
               .st 4 (.t 11) (.t 103)])
            (.keep [1, 3, 9, 11, 98, 99, 100]
             (.reg [.mv 104 (.t 9),
               .mv 105 (.t 1),
               .ld 106 true 4 (.t 11),
               .call (some 107) (.t 105) [(.t 106)] (.ro false),
               .mks 108 1 [(.t 107)],
               .app 109 1 16 (.t 104) (.t 108),
               .mv 9 (.t 109)]))))
          (.keep [1, 3, 9, 98, 99, 100]
           (.reg [.bin 110 .add (.t 100) (.c (I 1)),
             .mv 100 (.t 110)]))))))
def L.impl_writeWith_0 : Lp := ⟨[1, 3, 9, 98, 99, 100], [(3, 0)], LB.impl_writeWith_0⟩
@[go_sem] theorem L.impl_writeWith_0_ls : L.impl_writeWith_0.ls = [1, 3, 9, 98, 99, 100] := rfl
@[go_sem] theorem L.impl_writeWith_0_ks : L.impl_writeWith_0.ks = [(3, 0)] := rfl
@[go_sem] theorem L.impl_writeWith_0_b : L.impl_writeWith_0.body = LB.impl_writeWith_0 := rfl
def LB.impl_writeWith_1 : AC :=
                     (.seq
                      (.seq
                       (.reg [.ld 65 true 4 (.t 8),
                         .call (some 66) (.c (Fc F.impl_isPair)) [(.t 65)] (.ro true)])
                      (.cond (.t 66)
                       .skip
                       (.keep [1, 7, 8]
                        (.exit 1))))
                     (.keep [1, 7, 8]
                      (.seq
                       (.block 2
                        (.reg [.mv 71 (.t 7),
                          .mv 72 (.t 1),
                          .fa 73 (.t 8) 3,
                          .ld 74 false 1 (.t 73),
                          .ia 75 4 (.t 74) (.c (I 0)),
                          .ld 76 true 4 (.t 75),
                          .call (some 77) (.t 72) [(.t 76)] (.ro false),
                          .bin 78 .add (.c (S [44])) (.t 77),
                          .bin 79 .add (.t 71) (.t 78),
                          .mv 7 (.t 79)]))
                      (.keep [1, 7, 8]
                       (.reg [.fa 67 (.t 8) 3,
                         .ld 68 false 1 (.t 67),
                         .ia 69 4 (.t 68) (.c (I 1)),
                         .ld 70 true 4 (.t 69),
                         .st 4 (.t 8) (.t 70)])))))
def L.impl_writeWith_1 : Lp := ⟨[1, 7, 8], [(3, 0)], LB.impl_writeWith_1⟩
@[go_sem] theorem L.impl_writeWith_1_ls : L.impl_writeWith_1.ls = [1, 7, 8] := rfl
@[go_sem] theorem L.impl_writeWith_1_ks : L.impl_writeWith_1.ks = [(3, 0)] := rfl
@[go_sem] theorem L.impl_writeWith_1_b : L.impl_writeWith_1.body = LB.impl_writeWith_1 := rfl
def A.impl_writeWith : AF where
  nargs := 3
  ntmps := 119
  res := [.tmp 6]
  body :=
    (.seq
     (.reg [.new 3 (.t 0),
       .mv 6 (.c (S []))])
    (.seq
     (.block 0
      (.seq
       (.reg [.fa 13 (.t 3) 0,
         .ld 14 false 1 (.t 13),
         .bin 15 .eql (.t 14) (.c (I 1)),
         .mv 12 (.t 15)])
      (.keep [1, 2, 3, 12]
       (.cond (.t 12)
        (.seq
         (.reg [.fa 16 (.t 3) 2,
           .ld 17 false 1 (.t 16),
           .call (some 18) (.c (Fc F.impl_Decimal)) [(.t 17)] (.ro false),
           .bin 19 .add (.c (S [95])) (.t 18),
           .mv 6 (.t 19)])
        (.keep [6]
         .ret))
        (.seq
         (.reg [.fa 21 (.t 3) 0,
           .ld 22 false 1 (.t 21),
           .bin 23 .eql (.t 22) (.c (I 3)),
           .mv 20 (.t 23)])
        (.keep [1, 2, 3, 20]
         (.cond (.t 20)
          (.seq
           (.reg [.fa 24 (.t 3) 2,
             .ld 25 false 1 (.t 24),
             .call (some 26) (.c (Fc F.impl_Decimal)) [(.t 25)] (.ro false),
             .mv 6 (.t 26)])
          (.keep [6]
           .ret))
          (.seq
           (.reg [.ld 28 true 4 (.t 3),
             .call (some 29) (.c (Fc F.impl_isAtom)) [(.t 28), (.c (S [91, 93]))] (.ro true),
             .mv 27 (.t 29)])
          (.cond (.t 27)
           (.seq
            (.reg [.mv 6 (.c (S [91, 93]))])
           (.keep [6]
            .ret))
           (.seq
            (.reg [.fa 31 (.t 3) 0,
              .ld 32 false 1 (.t 31),
              .bin 33 .eql (.t 32) (.c (I 2)),
              .mv 34 (.t 33),
              .gd 34 true (some 35) (.fa 35 (.t 3) 1),
              .gd 34 true (some 36) (.ld 36 false 1 (.t 35)),
              .gd 34 true (some 37) (.call (some 37) (.c (Fc F.impl_isOp)) [(.t 36)] (.ro true)),
              .pick 38 (.t 34) (.t 37) (.c (B false)),
              .mv 30 (.t 38)])
           (.keep [1, 2, 3, 30]
            (.cond (.t 30)
             (.seq
              (.reg [.fa 39 (.t 3) 1,
                .ld 40 false 1 (.t 39),
                .call (some 41) (.c (Fc F.impl_AtomText)) [(.t 40)] (.ro false),
                .bin 42 .add (.c (S [40])) (.t 41),
                .bin 43 .add (.t 42) (.c (S [41])),
                .mv 6 (.t 43)])
             (.keep [6]
              .ret))
             (.seq
              (.reg [.fa 45 (.t 3) 0,
                .ld 46 false 1 (.t 45),
                .bin 47 .eql (.t 46) (.c (I 2)),
                .mv 44 (.t 47)])
             (.keep [1, 2, 3, 44]
              (.cond (.t 44)
               (.seq
                (.reg [.fa 48 (.t 3) 1,
                  .ld 49 false 1 (.t 48),
                  .call (some 50) (.c (Fc F.impl_AtomText)) [(.t 49)] (.ro false),
                  .mv 6 (.t 50)])
               (.keep [6]
                .ret))
               (.seq
                (.reg [.ld 52 true 4 (.t 3),
                  .call (some 53) (.c (Fc F.impl_isPair)) [(.t 52)] (.ro true),
                  .mv 51 (.t 53)])
               (.cond (.t 51)
                (.seq
                 (.reg [.mv 54 (.t 1),
                   .fa 55 (.t 3) 3,
                   .ld 56 false 1 (.t 55),
                   .ia 57 4 (.t 56) (.c (I 0)),
                   .ld 58 true 4 (.t 57),
                   .call (some 59) (.t 54) [(.t 58)] (.ro false),
                   .bin 60 .add (.c (S [91])) (.t 59),
                   .mv 7 (.t 60)])
                (.keep [1, 3, 7]
                 (.seq
                  (.reg [.fa 61 (.t 3) 3,
                    .ld 62 false 1 (.t 61),
                    .ia 63 4 (.t 62) (.c (I 1)),
                    .ld 64 true 4 (.t 63),
                    .new 8 (.c (.a [(I 0), (S []), (I 0), (.n 4)])),
                    .st 4 (.t 8) (.t 64)])
                 (.keep [1, 7, 8]
                  (.seq
                   (.block 1
                    (lpC L.impl_writeWith_1))
                  (.keep [1, 7, 8]
                   (.seq
                    (.seq
                     (.reg [.ld 80 true 4 (.t 8),
                       .call (some 81) (.c (Fc F.impl_isAtom)) [(.t 80), (.c (S [91, 93]))] (.ro true),
                       .un 82 .not (.t 81)])
                    (.cond (.t 82)
                     (.reg [.mv 83 (.t 7),
                       .mv 84 (.t 1),
                       .ld 85 true 4 (.t 8),
                       .call (some 86) (.t 84) [(.t 85)] (.ro false),
                       .bin 87 .add (.c (S [124])) (.t 86),
                       .bin 88 .add (.t 83) (.t 87),
                       .mv 7 (.t 88)])
                     .skip))
                   (.keep [7]
                    (.seq
                     (.reg [.mv 89 (.t 7),
                       .bin 90 .add (.t 89) (.c (S [93])),
                       .mv 6 (.t 90)])
                    (.keep [6]
                     .ret))))))))))
                (.seq
                 (.reg [.ld 92 true 4 (.t 3),
                   .call (some 93) (.c (Fc F.impl_isInfix)) [(.t 92)] (.ro true),
                   .mv 91 (.t 93)])
                (.cond (.t 91)
                 (.seq
                  (.reg [.mv 94 (.t 2),
                    .ld 95 true 4 (.t 3),
                    .call (some 96) (.t 94) [(.t 95)] (.ro false),
                    .mv 6 (.t 96)])
                 (.keep [6]
                  .ret))
                 .skip)))))))))))))))))))
    (.keep [1, 3]
     (.seq
      (.reg [.mv 9 (.c (.n 1))])
     (.seq
      (.seq
       (.reg [.fa 97 (.t 3) 3,
         .ld 98 false 1 (.t 97),
         .len 99 (.t 98),
         .mv 100 (.c (I 0))])
      (.keep [1, 3, 9, 98, 99, 100]
       (.block 3
        (lpC L.impl_writeWith_0))))
     (.keep [3, 9]
      (.seq
       (.reg [.fa 111 (.t 3) 1,
         .ld 112 false 1 (.t 111),
         .call (some 113) (.c (Fc F.impl_AtomText)) [(.t 112)] (.ro false),
         .bin 114 .add (.t 113) (.c (S [40])),
         .mv 115 (.t 9),
         .call (some 116) (.c (Fc F.strings_Join)) [(.t 115), (.c (S [44]))] (.ro false),
         .bin 117 .add (.t 114) (.t 116),
         .bin 118 .add (.t 117) (.c (S [41])),
         .mv 6 (.t 118)])
      (.keep [6]
       .ret))))))))
def A.impl_plain_1 : AF where
  nargs := 1
  ntmps := 5
  res := [.tmp 2]
  body :=
    (.seq
     (.reg [.new 1 (.t 0),
       .mv 2 (.c (S []))])
    (.seq
     (.reg [.ld 3 true 4 (.t 1),
       .call (some 4) (.c (Fc F.impl_bracketed)) [(.t 3), (.c (I 999))] (.ro false),
       .mv 2 (.t 4)])
    (.keep [2]
     .ret)))
def A.impl_plain_2 : AF where
  nargs := 1
  ntmps := 32
  res := [.tmp 2]
  body :=
    (.seq
     (.reg [.new 1 (.t 0),
       .mv 2 (.c (S []))])
    (.seq
     (.reg [.fa 6 (.t 1) 1,
       .ld 7 false 1 (.t 6),
       .call (some 8) (.c (Fc F.impl_InfixOf)) [(.t 7)] (.ro false),
       .mv 5 (.t 8),
       .ext 9 (.t 5) 0,
       .ext 10 (.t 5) 1,
       .new 3 (.c (.a [(S []), (I 0), (I 0), (I 0)])),
       .st 4 (.t 3) (.t 9),
       .mv 4 (.t 10)])
    (.keep [1, 3]
     (.seq
      (.dreg [⟨0, []⟩, ⟨0, [(0, 0), (0, 1), (0, 2), (0, 3), (1, 0)]⟩, ⟨0, [(0, 0), (0, 1), (0, 2), (0, 3), (1, 0), (12, 0)]⟩, ⟨0, [(0, 0), (0, 1), (0, 2), (0, 3), (1, 0), (12, 0)]⟩, ⟨0, []⟩, ⟨0, [(0, 0), (0, 1), (0, 2), (0, 3), (1, 0), (3, 0), (7, 0), (8, 0), (8, 1), (8, 2), (8, 3)]⟩, ⟨2, [(0, 0), (0, 1), (0, 2), (0, 3), (1, 0), (3, 0), (7, 0), (8, 0), (8, 1), (8, 2), (8, 3), (12, 0), (14, 0), (16, 0)]⟩, ⟨0, []⟩, ⟨0, []⟩, ⟨0, [(0, 0), (0, 1), (0, 2), (0, 3), (1, 0)]⟩, ⟨2, [(0, 0), (0, 1), (0, 2), (0, 3), (1, 0), (20, 0)]⟩, ⟨0, []⟩, ⟨0, []⟩, ⟨0, []⟩, ⟨0, [(0, 0), (0, 1), (0, 2), (0, 3), (1, 0)]⟩, ⟨0, [(0, 0), (0, 1), (0, 2), (0, 3), (1, 0), (25, 0)]⟩, ⟨0, [(0, 0), (0, 1), (0, 2), (0, 3), (1, 0), (25, 0)]⟩, ⟨0, []⟩, ⟨0, [(0, 0), (0, 1), (0, 2), (0, 3), (1, 0), (3, 0), (7, 0), (8, 0), (8, 1), (8, 2), (8, 3)]⟩, ⟨2, [(0, 0), (0, 1), (0, 2), (0, 3), (1, 0), (3, 0), (7, 0), (8, 0), (8, 1), (8, 2), (8, 3), (25, 0), (27, 0), (29, 0)]⟩, ⟨0, []⟩, ⟨0, []⟩]
       [.fa 11 (.t 1) 3,
        .ldq 12 false 1 (.t 11),
        .ia 13 4 (.t 12) (.c (I 0)),
        .ldq 14 true 4 (.t 13),
        .fa 15 (.t 3) 2,
        .ldq 16 false 1 (.t 15),
        .call (some 17) (.c (Fc F.impl_bracketed)) [(.t 14), (.t 16)] (.ro false),
        .bin 18 .add (.t 17) (.c (S [32])),
        .fa 19 (.t 1) 1,
        .ldq 20 false 1 (.t 19),
        .call (some 21) (.c (Fc F.impl_signText)) [(.t 20)] (.ro false),
        .bin 22 .add (.t 18) (.t 21),
        .bin 23 .add (.t 22) (.c (S [32])),
        .fa 24 (.t 1) 3,
        .ldq 25 false 1 (.t 24),
        .ia 26 4 (.t 25) (.c (I 1)),
        .ldq 27 true 4 (.t 26),
        .fa 28 (.t 3) 3,
        .ldq 29 false 1 (.t 28),
        .call (some 30) (.c (Fc F.impl_bracketed)) [(.t 27), (.t 29)] (.ro false),
        .bin 31 .add (.t 23) (.t 30),
        .mv 2 (.t 31)])
     (.keep [2]
      .ret)))))
def A.impl_signText : AF where
  nargs := 1
  ntmps := 8
  res := [.tmp 2]
  body :=
    (.seq
     (.reg [.mv 2 (.c (S []))])
    (.seq
     (.seq
      (.reg [.mv 3 (.t 0),
        .bin 4 .eql (.t 3) (.c (S [44]))])
     (.cond (.t 4)
      (.seq
       (.reg [.mv 5 (.t 0),
         .mv 2 (.t 5)])
      (.keep [2]
       .ret))
      .skip))
    (.keep [0]
     (.seq
      (.reg [.mv 6 (.t 0),
        .call (some 7) (.c (Fc F.impl_AtomText)) [(.t 6)] (.ro false),
        .mv 2 (.t 7)])
     (.keep [2]
      .ret)))))
def LB.impl_renamed_0 : AC :=
         (.seq
          (.reg [.bin 22 .lss (.t 21) (.t 20)])
         (.seq
          (.cond (.t 22)
           .skip
           (.keep [4, 5]
            (.exit 0)))
         (.keep [1, 4, 5, 19, 20, 21]
          (.seq
           (.block 1
            (.seq
             (.reg [.ia 23 4 (.t 19) (.t 21),
               .ld 24 true 4 (.t 23),
               .new 7 (.c (.a [(I 0), (S []), (I 0), (.n 4)])),
               .st 4 (.t 7) (.t 24)])
            (.keep [1, 4, 5, 7, 19, 20, 21]
             (.dreg [⟨0, []⟩, ⟨0, [(0, 0), (0, 1), (0, 2), (0, 3), (1, 0), (1, 1), (1, 2), (1, 3), (2, 0), (5, 0), (7, 0), (8, 0), (15, 0), (16, 0), (16, 1), (16, 2), (16, 3), (19, 0), (24, 0), (27, 0), (100000, 0), (100000, 1), (100000, 2), (100000, 3), (100000, 4), (100000, 5)]⟩, ⟨0, [(0, 0), (0, 1), (0, 2), (0, 3), (2, 0), (7, 0), (19, 0), (24, 0), (100000, 0), (100000, 1), (100000, 2), (100000, 3), (100000, 4), (100000, 5)]⟩, ⟨0, []⟩, ⟨2, [(0, 0), (0, 1), (0, 2), (0, 3), (1, 0), (1, 1), (1, 2), (1, 3), (2, 0), (7, 0), (19, 0), (24, 0), (27, 0), (100000, 0), (100000, 1), (100000, 2), (100000, 3), (100000, 4), (100000, 5)]⟩, ⟨1, []⟩, ⟨1, [(0, 0), (0, 1), (0, 2), (0, 3), (1, 0), (1, 1), (1, 2), (1, 3), (2, 0), (5, 0), (7, 0), (8, 0), (15, 0), (16, 0), (16, 1), (16, 2), (16, 3), (19, 0), (24, 0), (26, 0), (27, 0), (29, 0), (29, 1), (29, 2), (29, 3), (30, 0), (100000, 0), (100000, 1), (100000, 2), (100000, 3), (100000, 4), (100000, 5)]⟩, ⟨0, []⟩, ⟨1, [(0, 0), (0, 1), (0, 2), (0, 3), (1, 0), (1, 1), (1, 2), (1, 3), (2, 0), (5, 0), (7, 0), (8, 0), (15, 0), (16, 0), (16, 1), (16, 2), (16, 3), (19, 0), (24, 0), (26, 0), (27, 0), (29, 0), (29, 1), (29, 2), (29, 3), (30, 0), (31, 0), (100000, 0), (100000, 1), (100000, 2), (100000, 3), (100000, 4), (100000, 5)]⟩]
              [.fa 25 (.t 5) 3,
               .ldq 26 false 1 (.t 25),
               .ldq 27 true 4 (.t 7),
               .mv 28 (.t 1),
               .call (some 29) (.c (Fc F.impl_renamed)) [(.t 27), (.t 28)] (.ro false),
               .mks 30 4 [(.t 29)],
               .app 31 4 56 (.t 26) (.t 30),
               .fa 32 (.t 5) 3,
               .st 1 (.t 32) (.t 31)]))))
          (.keep [1, 4, 5, 19, 20, 21]
           (.reg [.bin 33 .add (.t 21) (.c (I 1)),
             .mv 21 (.t 33)]))))))
def L.impl_renamed_0 : Lp := ⟨[1, 4, 5, 19, 20, 21], [(2, 0)], LB.impl_renamed_0⟩
@[go_sem] theorem L.impl_renamed_0_ls : L.impl_renamed_0.ls = [1, 4, 5, 19, 20, 21] := rfl
@[go_sem] theorem L.impl_renamed_0_ks : L.impl_renamed_0.ks = [(2, 0)] := rfl
@[go_sem] theorem L.impl_renamed_0_b : L.impl_renamed_0.body = LB.impl_renamed_0 := rfl
def A.impl_renamed : AF where
  nargs := 2
  ntmps := 35
  res := [.cell 4 true 4]
  body :=
    (.seq
     (.reg [.new 2 (.t 0),
       .new 4 (.c (.a [(I 0), (S []), (I 0), (.n 4)]))])
    (.seq
     (.reg [.ld 8 true 4 (.t 2),
       .new 5 (.c (.a [(I 0), (S []), (I 0), (.n 4)])),
       .st 4 (.t 5) (.t 8)])
    (.seq
     (.reg [.fa 9 (.t 5) 3,
       .st 1 (.t 9) (.c (.n 4))])
    (.seq
     (.seq
      (.reg [.fa 10 (.t 2) 0,
        .ld 11 false 1 (.t 10),
        .bin 12 .eql (.t 11) (.c (I 1))])
     (.cond (.t 12)
      (.reg [.mv 13 (.t 1),
        .fa 14 (.t 2) 2,
        .ld 15 false 1 (.t 14),
        .call (some 16) (.t 13) [(.t 15)] (.ro false),
        .fa 17 (.t 5) 2,
        .st 1 (.t 17) (.t 16)])
      .skip))
    (.keep [1, 2, 4, 5]
     (.seq
      (.seq
       (.reg [.fa 18 (.t 2) 3,
         .ld 19 false 1 (.t 18),
         .len 20 (.t 19),
         .mv 21 (.c (I 0))])
      (.keep [1, 4, 5, 19, 20, 21]
       (.block 0
        (lpC L.impl_renamed_0))))
     (.keep [4, 5]
      (.seq
       (.reg [.ld 34 true 4 (.t 5),
         .st 4 (.t 4) (.t 34)])
      (.keep [4]
       .ret)))))))))
def A.impl_copyTerm_1 : AF where
  nargs := 1
  ntmps := 4
  res := [.tmp 2]
  body :=
    (.seq
     (.reg [.mv 2 (.c (I 0))])
    (.seq
     (.reg [.mv 3 (.t 0),
       .mv 2 (.t 3)])
    (.keep [2]
     .ret)))
def A.spec_NeatClause : AF where
  nargs := 1
  ntmps := 20
  res := [.cell 2 true 9]
  body :=
    (.seq
     (.reg [.new 1 (.t 0),
       .new 2 (.c (.a [(I 0), (S []), (I 0), (.n 4), (I 0), (S []), (I 0), (.n 4), (S [])]))])
    (.seq
     (.reg [.ld 5 true 9 (.t 1),
       .call (some 6) (.c (Fc F.spec_ClauseTerm)) [(.t 5)] (.ro false),
       .new 3 (.c (.a [(I 0), (S []), (I 0), (.n 4)])),
       .st 4 (.t 3) (.t 6)])
    (.keep [1, 2, 3]
     (.seq
      (.reg [.ld 7 true 4 (.t 3),
        .call (some 8) (.c (Fc F.spec_VarsOf)) [(.t 7)] (.ro false),
        .mv 4 (.t 8)])
     (.seq
      (.dreg [⟨0, []⟩, ⟨0, [(0, 0), (0, 1), (0, 2), (0, 3), (1, 0)]⟩, ⟨0, []⟩, ⟨2, [(0, 0), (0, 1), (0, 2), (0, 3), (1, 0), (3, 0), (5, 0), (6, 0), (6, 1), (6, 2), (6, 3), (7, 0), (8, 0), (8, 1), (8, 2), (8, 3), (10, 0)]⟩, ⟨0, []⟩, ⟨0, [(0, 0), (0, 1), (0, 2), (0, 3), (1, 0)]⟩, ⟨0, []⟩, ⟨2, [(0, 0), (0, 1), (0, 2), (0, 3), (1, 0), (3, 0), (5, 0), (6, 0), (6, 1), (6, 2), (6, 3), (7, 0), (8, 0), (8, 1), (8, 2), (8, 3), (14, 0)]⟩, ⟨0, []⟩, ⟨0, [(0, 0), (0, 1), (0, 2), (0, 3), (1, 0)]⟩, ⟨0, []⟩, ⟨1, [(0, 0), (0, 1), (0, 2), (0, 3), (1, 0), (2, 0), (3, 0), (5, 0), (6, 0), (6, 1), (6, 2), (6, 3), (7, 0), (8, 0), (8, 1), (8, 2), (8, 3), (10, 0), (12, 0), (12, 1), (12, 2), (12, 3), (14, 0), (16, 0), (16, 1), (16, 2), (16, 3), (18, 0)]⟩]
       [.fa 9 (.t 1) 0,
        .ldq 10 true 4 (.t 9),
        .mv 11 (.t 4),
        .call (some 12) (.c (Fc F.spec_l11Named)) [(.t 10), (.t 11), (.c (I 0))] (.ro false),
        .fa 13 (.t 1) 4,
        .ldq 14 true 4 (.t 13),
        .mv 15 (.t 4),
        .call (some 16) (.c (Fc F.spec_l11Named)) [(.t 14), (.t 15), (.c (I 0))] (.ro false),
        .fa 17 (.t 1) 8,
        .ldq 18 false 1 (.t 17),
        .build 19 (.a [(I 0), (S []), (I 0), (.n 4), (I 0), (S []), (I 0), (.n 4), (S [])]) [(0, 4, (.t 12)), (4, 4, (.t 16)), (8, 1, (.t 18))],
        .st 9 (.t 2) (.t 19)])
     (.keep [2]
      .ret))))))
def A.impl_Control : AF where
  nargs := 1
  ntmps := 8
  res := [.tmp 2]
  body :=
    (.seq
     (.reg [.mv 2 (.c (B false))])
    (.seq
     (.reg [.mks 4 1 [(.c (S [116, 114, 117, 101, 47, 48])), (.c (S [102, 97, 105, 108, 47, 48])), (.c (S [33, 47, 48])), (.c (S [44, 47, 50])), (.c (S [59, 47, 50])), (.c (S [45, 62, 47, 50])), (.c (S [92, 43, 47, 49])), (.c (S [99, 97, 108, 108, 47, 49])), (.c (S [99, 97, 108, 108, 47, 50])), (.c (S [99, 97, 108, 108, 47, 51])), (.c (S [99, 97, 116, 99, 104, 47, 51])), (.c (S [116, 104, 114, 111, 119, 47, 49])), (.c (S [61, 47, 50])), (.c (S [92, 61, 47, 50])), (.c (S [61, 61, 47, 50])), (.c (S [105, 115, 47, 50])), (.c (S [60, 47, 50])), (.c (S [61, 58, 61, 47, 50])), (.c (S [118, 97, 114, 47, 49])), (.c (S [97, 116, 111, 109, 47, 49])), (.c (S [119, 114, 105, 116, 101, 47, 49])), (.c (S [97, 115, 115, 101, 114, 116, 122, 47, 49])), (.c (S [114, 101, 116, 114, 97, 99, 116, 47, 49])), (.c (S [58, 45, 47, 50])), (.c (S [58, 45, 47, 49])), (.c (S [45, 45, 62, 47, 50]))],
       .mv 3 (.t 4)])
    (.seq
     (.reg [.mv 5 (.t 3),
       .mv 6 (.t 0),
       .call (some 7) (.c (Fc F.slices_Contains_string_string)) [(.t 5), (.t 6)] (.ro false),
       .mv 2 (.t 7)])
    (.keep [2]
     .ret))))
def A.impl_VarsOf : AF where
  nargs := 1
  ntmps := 5
  res := [.tmp 2]
  body :=
    (.seq
     (.reg [.new 1 (.t 0),
       .mv 2 (.c (.n 1))])
    (.seq
     (.reg [.ld 3 true 4 (.t 1),
       .call (some 4) (.c (Fc F.impl_addVars)) [(.c (.n 1)), (.t 3)] (.io false),
       .mv 2 (.t 4)])
    (.keep [2]
     .ret)))
def A.impl_fresh : AF where
  nargs := 2
  ntmps := 11
  res := [.cell 4 true 4]
  body :=
    (.seq
     (.reg [.new 2 (.t 0),
       .new 3 (.t 1),
       .new 4 (.c (.a [(I 0), (S []), (I 0), (.n 4)]))])
    (.seq
     (.reg [.ld 6 true 4 (.t 2),
       .call (some 7) (.c (Fc F.impl_VarsOf)) [(.t 6)] (.ro false),
       .new 5 (.c (.n 1)),
       .st 1 (.t 5) (.t 7)])
    (.keep [2, 3, 4, 5]
     (.seq
      (.reg [.ld 8 true 4 (.t 2),
        .fun 9 (.func F.impl_fresh_1) [] [(.t 3), (.t 5)],
        .call (some 10) (.c (Fc F.impl_renamed)) [(.t 8), (.t 9)] (.ro false),
        .st 4 (.t 4) (.t 10)])
     (.keep [4]
      .ret)))))
def A.impl_write_1 : AF where
  nargs := 1
  ntmps := 22
  res := [.tmp 2]
  body :=
    (.seq
     (.reg [.new 1 (.t 0),
       .mv 2 (.c (S []))])
    (.seq
     (.dreg [⟨0, []⟩, ⟨0, [(0, 0), (0, 1), (0, 2), (0, 3), (1, 0)]⟩, ⟨0, [(0, 0), (0, 1), (0, 2), (0, 3), (1, 0), (4, 0)]⟩, ⟨0, [(0, 0), (0, 1), (0, 2), (0, 3), (1, 0), (4, 0)]⟩, ⟨2, [(0, 0), (0, 1), (0, 2), (0, 3), (1, 0), (4, 0), (6, 0)]⟩, ⟨0, []⟩, ⟨0, []⟩, ⟨0, []⟩, ⟨0, [(0, 0), (0, 1), (0, 2), (0, 3), (1, 0)]⟩, ⟨2, [(0, 0), (0, 1), (0, 2), (0, 3), (1, 0), (11, 0)]⟩, ⟨0, []⟩, ⟨0, []⟩, ⟨0, []⟩, ⟨0, [(0, 0), (0, 1), (0, 2), (0, 3), (1, 0)]⟩, ⟨0, [(0, 0), (0, 1), (0, 2), (0, 3), (1, 0), (16, 0)]⟩, ⟨0, [(0, 0), (0, 1), (0, 2), (0, 3), (1, 0), (16, 0)]⟩, ⟨2, [(0, 0), (0, 1), (0, 2), (0, 3), (1, 0), (16, 0), (18, 0)]⟩, ⟨0, []⟩, ⟨0, []⟩, ⟨0, []⟩]
      [.fa 3 (.t 1) 3,
       .ldq 4 false 1 (.t 3),
       .ia 5 4 (.t 4) (.c (I 0)),
       .ldq 6 true 4 (.t 5),
       .call (some 7) (.c (Fc F.impl_write)) [(.t 6)] (.ro false),
       .bin 8 .add (.c (S [40])) (.t 7),
       .bin 9 .add (.t 8) (.c (S [32])),
       .fa 10 (.t 1) 1,
       .ldq 11 false 1 (.t 10),
       .call (some 12) (.c (Fc F.impl_signText)) [(.t 11)] (.ro false),
       .bin 13 .add (.t 9) (.t 12),
       .bin 14 .add (.t 13) (.c (S [32])),
       .fa 15 (.t 1) 3,
       .ldq 16 false 1 (.t 15),
       .ia 17 4 (.t 16) (.c (I 1)),
       .ldq 18 true 4 (.t 17),
       .call (some 19) (.c (Fc F.impl_write)) [(.t 18)] (.ro false),
       .bin 20 .add (.t 14) (.t 19),
       .bin 21 .add (.t 20) (.c (S [41])),
       .mv 2 (.t 21)])
    (.keep [2]
     .ret)))
def LB.spec_l03Name_0 : AC :=
       (.seq
        (.seq
         (.reg [.mv 4 (.t 3),
           .mv 5 (.t 0),
           .slen 6 (.t 5),
           .bin 7 .lss (.t 4) (.t 6)])
        (.keep [0, 3, 7]
         (.cond (.t 7)
          .skip
          (.keep [0]
           (.exit 0)))))
       (.keep [0, 3]
        (.seq
         (.block 1
          (.seq
           (.reg [.mv 10 (.t 0),
             .mv 11 (.t 3),
             .ix 12 (.t 10) (.t 11),
             .bin 13 .lss (.t 12) (.c (U8 33)),
             .mv 14 (.t 13),
             .gd 14 false (some 15) (.mv 15 (.t 0)),
             .gd 14 false (some 16) (.mv 16 (.t 3)),
             .gd 14 false (some 17) (.ix 17 (.t 15) (.t 16)),
             .gd 14 false (some 18) (.bin 18 .gtr (.t 17) (.c (U8 126))),
             .pick 19 (.t 14) (.c (B true)) (.t 18),
             .mv 20 (.t 19),
             .gd 20 false (some 21) (.mv 21 (.t 0)),
             .gd 20 false (some 22) (.mv 22 (.t 3)),
             .gd 20 false (some 23) (.ix 23 (.t 21) (.t 22)),
             .gd 20 false (some 24) (.bin 24 .eql (.t 23) (.c (U8 39))),
             .pick 25 (.t 20) (.c (B true)) (.t 24),
             .mv 26 (.t 25),
             .gd 26 false (some 27) (.mv 27 (.t 0)),
             .gd 26 false (some 28) (.mv 28 (.t 3)),
             .gd 26 false (some 29) (.ix 29 (.t 27) (.t 28)),
             .gd 26 false (some 30) (.bin 30 .eql (.t 29) (.c (U8 34))),
             .pick 31 (.t 26) (.c (B true)) (.t 30)])
          (.keep [0, 3, 31]
           (.cond (.t 31)
            (.seq
             (.reg [.mv 2 (.c (B false))])
            (.keep [2]
             .ret))
            .skip))))
        (.keep [0, 3]
         (.reg [.mv 8 (.t 3),
           .bin 9 .add (.t 8) (.c (I 1)),
           .mv 3 (.t 9)])))))
def L.spec_l03Name_0 : Lp := ⟨[0, 3], [(1, 0)], LB.spec_l03Name_0⟩
@[go_sem] theorem L.spec_l03Name_0_ls : L.spec_l03Name_0.ls = [0, 3] := rfl
@[go_sem] theorem L.spec_l03Name_0_ks : L.spec_l03Name_0.ks = [(1, 0)] := rfl
@[go_sem] theorem L.spec_l03Name_0_b : L.spec_l03Name_0.body = LB.spec_l03Name_0 := rfl
def A.spec_l03Name : AF where
  nargs := 1
  ntmps := 35
  res := [.tmp 2]
  body :=
    (.seq
     (.reg [.mv 2 (.c (B false))])
    (.seq
     (.seq
      (.reg [.mv 3 (.c (I 0))])
     (.block 0
      (lpC L.spec_l03Name_0)))
    (.keep [0]
     (.seq
      (.reg [.mv 32 (.t 0),
        .slen 33 (.t 32),
        .call (some 34) (.c (Fc F.spec_l01In)) [(.t 33), (.c (I 1)), (.c (I 20))] (.ro false),
        .mv 2 (.t 34)])
     (.keep [2]
      .ret)))))
def A.spec_l01Figure : AF where
  nargs := 1
  ntmps := 12
  res := [.tmp 2]
  body :=
    (.seq
     (.reg [.mv 2 (.c (U8 0))])
    (.seq
     (.seq
      (.reg [.mv 3 (.t 0),
        .bin 4 .lss (.t 3) (.c (I 10))])
     (.cond (.t 4)
      (.seq
       (.reg [.mv 5 (.t 0),
         .bin 6 .add (.c (I 48)) (.t 5),
         .int 7 .u8 (.t 6),
         .mv 2 (.t 7)])
      (.keep [2]
       .ret))
      .skip))
    (.keep [0]
     (.seq
      (.reg [.mv 8 (.t 0),
        .bin 9 .add (.c (I 97)) (.t 8),
        .bin 10 .sub (.t 9) (.c (I 10)),
        .int 11 .u8 (.t 10),
        .mv 2 (.t 11)])
     (.keep [2]
      .ret)))))
def A.spec_PrefixOf : AF where
  nargs := 1
  ntmps := 18
  res := [.cell 2 true 4, .tmp 3]
  body :=
    (.seq
     (.reg [.new 2 (.c (.a [(S []), (I 0), (I 0), (I 0)])),
       .mv 3 (.c (B false))])
    (.seq
     (.seq
      (.reg [.mv 4 (.t 0)])
     (.block 0
      (.seq
       (.reg [.bin 6 .eql (.t 4) (.c (S [58, 45])),
         .mv 5 (.t 6)])
      (.cond (.t 5)
       (.seq
        (.reg [.mv 7 (.t 0),
          .build 8 (.a [(S []), (I 0), (I 0), (I 0)]) [(0, 1, (.t 7)), (1, 1, (.c (I 1200))), (3, 1, (.c (I 1199)))],
          .st 4 (.t 2) (.t 8),
          .mv 3 (.c (B true))])
       (.keep [2, 3]
        .ret))
       (.seq
        (.reg [.bin 10 .eql (.t 4) (.c (S [92, 43])),
          .mv 9 (.t 10)])
       (.cond (.t 9)
        (.seq
         (.reg [.mv 11 (.t 0),
           .build 12 (.a [(S []), (I 0), (I 0), (I 0)]) [(0, 1, (.t 11)), (1, 1, (.c (I 900))), (3, 1, (.c (I 900)))],
           .st 4 (.t 2) (.t 12),
           .mv 3 (.c (B true))])
        (.keep [2, 3]
         .ret))
        (.seq
         (.reg [.bin 14 .eql (.t 4) (.c (S [45])),
           .mv 13 (.t 14)])
        (.cond (.t 13)
         (.seq
          (.reg [.mv 15 (.t 0),
            .build 16 (.a [(S []), (I 0), (I 0), (I 0)]) [(0, 1, (.t 15)), (1, 1, (.c (I 200))), (3, 1, (.c (I 200)))],
            .st 4 (.t 2) (.t 16),
            .mv 3 (.c (B true))])
         (.keep [2, 3]
          .ret))
         .skip))))))))
    (.keep [2]
     (.seq
      (.reg [.build 17 (.a [(S []), (I 0), (I 0), (I 0)]) [],
        .st 4 (.t 2) (.t 17),
        .mv 3 (.c (B false))])
     (.keep [2, 3]
      .ret)))))
def A.spec_l05Blank : AF where
  nargs := 1
  ntmps := 13
  res := [.tmp 2]
  body :=
    (.seq
     (.reg [.mv 2 (.c (B false))])
    (.seq
     (.reg [.mv 3 (.t 0),
       .bin 4 .eql (.t 3) (.c (U8 32)),
       .mv 5 (.t 4),
       .gd 5 false (some 6) (.mv 6 (.t 0)),
       .gd 5 false (some 7) (.bin 7 .eql (.t 6) (.c (U8 9))),
       .pick 8 (.t 5) (.c (B true)) (.t 7),
       .mv 9 (.t 8),
       .gd 9 false (some 10) (.mv 10 (.t 0)),
       .gd 9 false (some 11) (.bin 11 .eql (.t 10) (.c (U8 10))),
       .pick 12 (.t 9) (.c (B true)) (.t 11),
       .mv 2 (.t 12)])
    (.keep [2]
     .ret)))
def LB.spec_l05Sign_0 : AC :=
                      (.seq
                       (.seq
                        (.reg [.mv 142 (.t 13),
                          .mv 143 (.t 0),
                          .slen 144 (.t 143),
                          .bin 145 .lss (.t 142) (.t 144),
                          .mv 146 (.t 145),
                          .gd 146 true (some 147) (.mv 147 (.t 0)),
                          .gd 146 true (some 148) (.mv 148 (.t 13)),
                          .gd 146 true (some 149) (.ix 149 (.t 147) (.t 148)),
                          .gd 146 true (some 150) (.call (some 150) (.c (Fc F.spec_SymbolByte)) [(.t 149)] (.ro true)),
                          .pick 151 (.t 146) (.t 150) (.c (B false))])
                       (.keep [0, 1, 4, 7, 8, 13, 151]
                        (.cond (.t 151)
                         .skip
                         (.keep [0, 1, 4, 7, 8, 13]
                          (.exit 3)))))
                      (.keep [0, 1, 4, 7, 8, 13]
                       (.block 4
                        (.reg [.mv 152 (.t 13),
                          .bin 153 .add (.t 152) (.c (I 1)),
                          .mv 13 (.t 153)]))))
def L.spec_l05Sign_0 : Lp := ⟨[0, 1, 4, 7, 8, 13], [(2, 0)], LB.spec_l05Sign_0⟩
@[go_sem] theorem L.spec_l05Sign_0_ls : L.spec_l05Sign_0.ls = [0, 1, 4, 7, 8, 13] := rfl
@[go_sem] theorem L.spec_l05Sign_0_ks : L.spec_l05Sign_0.ks = [(2, 0)] := rfl
@[go_sem] theorem L.spec_l05Sign_0_b : L.spec_l05Sign_0.body = LB.spec_l05Sign_0 := rfl
def LB.spec_l05Sign_1 : AC :=
              (.seq
               (.seq
                (.reg [.mv 54 (.t 10),
                  .mv 55 (.t 0),
                  .slen 56 (.t 55),
                  .bin 57 .lss (.t 54) (.t 56),
                  .mv 58 (.t 57),
                  .gd 58 true (some 59) (.mv 59 (.t 0)),
                  .gd 58 true (some 60) (.mv 60 (.t 10)),
                  .gd 58 true (some 61) (.ix 61 (.t 59) (.t 60)),
                  .gd 58 true (some 62) (.call (some 62) (.c (Fc F.spec_l05Figure)) [(.t 61)] (.ro true)),
                  .pick 63 (.t 58) (.t 62) (.c (B false)),
                  .mv 64 (.t 63),
                  .gd 64 true (some 65) (.mv 65 (.t 11)),
                  .gd 64 true (some 66) (.bin 66 .leq (.t 65) (.c (I 999999999))),
                  .pick 67 (.t 64) (.t 66) (.c (B false))])
               (.keep [0, 1, 4, 7, 8, 10, 11, 67]
                (.cond (.t 67)
                 .skip
                 (.keep [1, 4, 7, 8, 10, 11]
                  (.exit 1)))))
              (.keep [0, 1, 4, 7, 8, 10, 11]
               (.block 2
                (.seq
                 (.reg [.mv 68 (.t 11),
                   .bin 69 .mul (.c (I 10)) (.t 68),
                   .mv 70 (.t 0),
                   .mv 71 (.t 10),
                   .ix 72 (.t 70) (.t 71),
                   .int 73 .i64 (.t 72),
                   .bin 74 .add (.t 69) (.t 73),
                   .bin 75 .sub (.t 74) (.c (I 48)),
                   .mv 11 (.t 75)])
                (.keep [0, 1, 4, 7, 8, 10, 11]
                 (.reg [.mv 76 (.t 10),
                   .bin 77 .add (.t 76) (.c (I 1)),
                   .mv 10 (.t 77)]))))))
def L.spec_l05Sign_1 : Lp := ⟨[0, 1, 4, 7, 8, 10, 11], [(2, 0)], LB.spec_l05Sign_1⟩
@[go_sem] theorem L.spec_l05Sign_1_ls : L.spec_l05Sign_1.ls = [0, 1, 4, 7, 8, 10, 11] := rfl
@[go_sem] theorem L.spec_l05Sign_1_ks : L.spec_l05Sign_1.ks = [(2, 0)] := rfl
@[go_sem] theorem L.spec_l05Sign_1_b : L.spec_l05Sign_1.body = LB.spec_l05Sign_1 := rfl
def A.spec_l05Sign : AF where
  nargs := 2
  ntmps := 167
  res := [.cell 4 true 5, .tmp 5]
  body :=
    (.seq
     (.reg [.new 4 (.c (.a [(I 0), (S []), (I 0), (I 0), (B false)])),
       .mv 5 (.c (I 0))])
    (.seq
     (.reg [.mv 14 (.t 0),
       .mv 15 (.t 1),
       .ix 16 (.t 14) (.t 15),
       .mv 6 (.t 16)])
    (.keep [0, 1, 4, 6]
     (.seq
      (.reg [.mv 17 (.t 0),
        .mv 18 (.t 1),
        .mv 19 (.t 1),
        .bin 20 .add (.t 19) (.c (I 1)),
        .ssl 21 (.t 17) (some (.t 18)) (some (.t 20)),
        .mv 22 (.t 1),
        .build 23 (.a [(I 0), (S []), (I 0), (I 0), (B false)]) [(0, 1, (.c (I 6))), (1, 1, (.t 21)), (3, 1, (.t 22))],
        .new 7 (.c (.a [(I 0), (S []), (I 0), (I 0), (B false)])),
        .st 5 (.t 7) (.t 23)])
     (.keep [0, 1, 4, 6, 7]
      (.seq
       (.reg [.mv 24 (.t 1),
         .bin 25 .add (.t 24) (.c (I 1)),
         .mv 8 (.t 25)])
      (.seq
       (.block 0
        (.seq
         (.reg [.mv 27 (.t 6),
           .call (some 28) (.c (Fc F.spec_l05Small)) [(.t 27)] (.ro true),
           .mv 29 (.t 28),
           .gd 29 false (some 30) (.mv 30 (.t 6)),
           .gd 29 false (some 31) (.call (some 31) (.c (Fc F.spec_l05Great)) [(.t 30)] (.ro true)),
           .pick 32 (.t 29) (.c (B true)) (.t 31),
           .mv 26 (.t 32)])
        (.keep [0, 1, 4, 6, 7, 8, 26]
         (.cond (.t 26)
          (.seq
           (.reg [.mv 33 (.t 0),
             .mv 34 (.t 1),
             .call (some 35) (.c (Fc F.spec_l05Run)) [(.t 33), (.t 34)] (.ro false),
             .mv 9 (.t 35)])
          (.keep [0, 1, 4, 6, 7, 8, 9]
           (.seq
            (.reg [.mv 36 (.t 9),
              .mv 37 (.t 1),
              .bin 38 .sub (.t 36) (.t 37),
              .bin 39 .leq (.t 38) (.c (I 20))])
           (.keep [0, 1, 4, 6, 7, 8, 9, 39]
            (.cond (.t 39)
             (.seq
              (.reg [.fa 40 (.t 7) 0,
                .st 1 (.t 40) (.c (I 1))])
             (.seq
              (.seq
               (.reg [.mv 41 (.t 6),
                 .call (some 42) (.c (Fc F.spec_l05Great)) [(.t 41)] (.ro true)])
              (.cond (.t 42)
               (.reg [.fa 43 (.t 7) 0,
                 .st 1 (.t 43) (.c (I 2))])
               .skip))
             (.keep [0, 1, 4, 7, 9]
              (.seq
               (.reg [.mv 44 (.t 0),
                 .mv 45 (.t 1),
                 .mv 46 (.t 9),
                 .ssl 47 (.t 44) (some (.t 45)) (some (.t 46)),
                 .fa 48 (.t 7) 1,
                 .st 1 (.t 48) (.t 47)])
              (.keep [4, 7, 9]
               (.reg [.mv 49 (.t 9),
                 .mv 8 (.t 49)]))))))
             .skip)))))
          (.seq
           (.reg [.mv 51 (.t 6),
             .call (some 52) (.c (Fc F.spec_l05Figure)) [(.t 51)] (.ro true),
             .mv 50 (.t 52)])
          (.cond (.t 50)
           (.seq
            (.reg [.mv 53 (.t 1),
              .mv 10 (.t 53)])
           (.seq
            (.reg [.mv 11 (.c (I 0))])
           (.seq
            (.block 1
             (lpC L.spec_l05Sign_1))
           (.keep [1, 4, 7, 8, 10, 11]
            (.seq
             (.reg [.mv 78 (.t 11),
               .bin 79 .leq (.t 78) (.c (I 999999999))])
            (.cond (.t 79)
             (.seq
              (.reg [.mv 80 (.t 11),
                .mv 81 (.t 1),
                .build 82 (.a [(I 0), (S []), (I 0), (I 0), (B false)]) [(0, 1, (.c (I 3))), (2, 1, (.t 80)), (3, 1, (.t 81))],
                .mv 83 (.t 10),
                .st 5 (.t 4) (.t 82),
                .mv 5 (.t 83)])
             (.keep [4, 5]
              .ret))
             .skip))))))
           (.seq
            (.reg [.mv 85 (.t 6),
              .bin 86 .eql (.t 85) (.c (U8 39)),
              .mv 84 (.t 86)])
           (.cond (.t 84)
            (.seq
             (.reg [.mv 87 (.t 0),
               .mv 88 (.t 1),
               .call (some 89) (.c (Fc F.spec_l05Quoted)) [(.t 87), (.t 88)] (.ro false),
               .mv 12 (.t 89)])
            (.keep [0, 1, 4, 7, 8, 12]
             (.seq
              (.reg [.mv 90 (.t 12),
                .bin 91 .gtr (.t 90) (.c (I 0))])
             (.cond (.t 91)
              (.seq
               (.reg [.mv 92 (.t 0),
                 .mv 93 (.t 1),
                 .bin 94 .add (.t 93) (.c (I 1)),
                 .mv 95 (.t 12),
                 .bin 96 .sub (.t 95) (.c (I 1)),
                 .ssl 97 (.t 92) (some (.t 94)) (some (.t 96)),
                 .mv 98 (.t 1),
                 .build 99 (.a [(I 0), (S []), (I 0), (I 0), (B false)]) [(0, 1, (.c (I 1))), (1, 1, (.t 97)), (3, 1, (.t 98))],
                 .st 5 (.t 7) (.t 99)])
              (.keep [4, 7, 12]
               (.reg [.mv 100 (.t 12),
                 .mv 8 (.t 100)])))
              .skip))))
            (.seq
             (.reg [.mv 102 (.t 6),
               .bin 103 .eql (.t 102) (.c (U8 33)),
               .mv 104 (.t 103),
               .gd 104 false (some 105) (.mv 105 (.t 6)),
               .gd 104 false (some 106) (.bin 106 .eql (.t 105) (.c (U8 59))),
               .pick 107 (.t 104) (.c (B true)) (.t 106),
               .mv 101 (.t 107)])
            (.keep [0, 1, 4, 6, 7, 8, 101]
             (.cond (.t 101)
              (.reg [.fa 108 (.t 7) 0,
                .st 1 (.t 108) (.c (I 1))])
              (.seq
               (.reg [.mv 110 (.t 6),
                 .bin 111 .eql (.t 110) (.c (U8 40)),
                 .mv 112 (.t 111),
                 .gd 112 false (some 113) (.mv 113 (.t 6)),
                 .gd 112 false (some 114) (.bin 114 .eql (.t 113) (.c (U8 41))),
                 .pick 115 (.t 112) (.c (B true)) (.t 114),
                 .mv 116 (.t 115),
                 .gd 116 false (some 117) (.mv 117 (.t 6)),
                 .gd 116 false (some 118) (.bin 118 .eql (.t 117) (.c (U8 91))),
                 .pick 119 (.t 116) (.c (B true)) (.t 118),
                 .mv 120 (.t 119),
                 .gd 120 false (some 121) (.mv 121 (.t 6)),
                 .gd 120 false (some 122) (.bin 122 .eql (.t 121) (.c (U8 93))),
                 .pick 123 (.t 120) (.c (B true)) (.t 122),
                 .mv 124 (.t 123),
                 .gd 124 false (some 125) (.mv 125 (.t 6)),
                 .gd 124 false (some 126) (.bin 126 .eql (.t 125) (.c (U8 44))),
                 .pick 127 (.t 124) (.c (B true)) (.t 126),
                 .mv 128 (.t 127),
                 .gd 128 false (some 129) (.mv 129 (.t 6)),
                 .gd 128 false (some 130) (.bin 130 .eql (.t 129) (.c (U8 124))),
                 .pick 131 (.t 128) (.c (B true)) (.t 130),
                 .mv 109 (.t 131)])
              (.keep [0, 1, 4, 6, 7, 8, 109]
               (.cond (.t 109)
                (.reg [.fa 132 (.t 7) 0,
                  .st 1 (.t 132) (.c (I 4))])
                (.seq
                 (.reg [.mv 134 (.t 0),
                   .mv 135 (.t 1),
                   .call (some 136) (.c (Fc F.spec_l05End)) [(.t 134), (.t 135)] (.ro true),
                   .mv 133 (.t 136)])
                (.keep [0, 1, 4, 6, 7, 8, 133]
                 (.cond (.t 133)
                  (.reg [.fa 137 (.t 7) 0,
                    .st 1 (.t 137) (.c (I 5))])
                  (.seq
                   (.reg [.mv 139 (.t 6),
                     .call (some 140) (.c (Fc F.spec_SymbolByte)) [(.t 139)] (.ro true),
                     .mv 138 (.t 140)])
                  (.cond (.t 138)
                   (.seq
                    (.reg [.mv 141 (.t 1),
                      .mv 13 (.t 141)])
                   (.seq
                    (.block 3
                     (lpC L.spec_l05Sign_0))
                   (.keep [0, 1, 4, 7, 8, 13]
                    (.seq
                     (.reg [.mv 154 (.t 13),
                       .mv 155 (.t 1),
                       .bin 156 .sub (.t 154) (.t 155),
                       .bin 157 .leq (.t 156) (.c (I 20))])
                    (.keep [0, 1, 4, 7, 8, 13, 157]
                     (.cond (.t 157)
                      (.seq
                       (.reg [.fa 158 (.t 7) 0,
                         .st 1 (.t 158) (.c (I 1))])
                      (.seq
                       (.reg [.mv 159 (.t 0),
                         .mv 160 (.t 1),
                         .mv 161 (.t 13),
                         .ssl 162 (.t 159) (some (.t 160)) (some (.t 161)),
                         .fa 163 (.t 7) 1,
                         .st 1 (.t 163) (.t 162)])
                      (.keep [4, 7, 13]
                       (.reg [.mv 164 (.t 13),
                         .mv 8 (.t 164)]))))
                      .skip))))))
                   .skip)))))))))))))))))))
      (.keep [4, 7, 8]
       (.seq
        (.reg [.ld 165 true 5 (.t 7),
          .mv 166 (.t 8),
          .st 5 (.t 4) (.t 165),
          .mv 5 (.t 166)])
       (.keep [4, 5]
        .ret))))))))))
def A.impl_isOp : AF where
  nargs := 1
  ntmps := 21
  res := [.tmp 2]
  body :=
    (.seq
     (.reg [.mv 2 (.c (B false))])
    (.seq
     (.reg [.mv 8 (.t 0),
       .call (some 9) (.c (Fc F.impl_InfixOf)) [(.t 8)] (.ro false),
       .mv 7 (.t 9),
       .ext 10 (.t 7) 0,
       .ext 11 (.t 7) 1,
       .new 3 (.c (.a [(S []), (I 0), (I 0), (I 0)])),
       .st 4 (.t 3) (.t 10),
       .mv 4 (.t 11)])
    (.keep [0, 4]
     (.seq
      (.reg [.mv 13 (.t 0),
        .call (some 14) (.c (Fc F.impl_PrefixOf)) [(.t 13)] (.ro false),
        .mv 12 (.t 14),
        .ext 15 (.t 12) 0,
        .ext 16 (.t 12) 1,
        .new 5 (.c (.a [(S []), (I 0), (I 0), (I 0)])),
        .st 4 (.t 5) (.t 15),
        .mv 6 (.t 16)])
     (.keep [4, 6]
      (.seq
       (.reg [.mv 17 (.t 4),
         .mv 18 (.t 17),
         .gd 18 false (some 19) (.mv 19 (.t 6)),
         .pick 20 (.t 18) (.c (B true)) (.t 19),
         .mv 2 (.t 20)])
      (.keep [2]
       .ret)))))))
def A.impl_AtomText : AF where
  nargs := 1
  ntmps := 35
  res := [.tmp 2]
  body :=
    (.seq
     (.reg [.mv 2 (.c (S []))])
    (.seq
     (.reg [.mv 6 (.t 0),
       .call (some 7) (.c (Fc F.impl_SignsOf)) [(.t 6)] (.ro true),
       .mv 5 (.t 7),
       .ext 8 (.t 5) 0,
       .ext 9 (.t 5) 1,
       .mv 3 (.t 8),
       .mv 4 (.t 9)])
    (.keep [0, 3, 4]
     (.seq
      (.seq
       (.reg [.mv 10 (.t 4),
         .mv 11 (.t 10),
         .gd 11 true (some 12) (.mv 12 (.t 3)),
         .gd 11 true (some 13) (.len 13 (.t 12)),
         .gd 11 true (some 14) (.bin 14 .eql (.t 13) (.c (I 1))),
         .pick 15 (.t 11) (.t 14) (.c (B false)),
         .mv 16 (.t 15),
         .gd 16 true (some 17) (.mv 17 (.t 3)),
         .gd 16 true (some 18) (.ia 18 5 (.t 17) (.c (I 0))),
         .gd 16 true (some 19) (.fa 19 (.t 18) 0),
         .gd 16 true (some 20) (.ld 20 false 1 (.t 19)),
         .gd 16 true (some 21) (.bin 21 .eql (.t 20) (.c (I 1))),
         .pick 22 (.t 16) (.t 21) (.c (B false)),
         .mv 23 (.t 22),
         .gd 23 true (some 24) (.mv 24 (.t 3)),
         .gd 23 true (some 25) (.ia 25 5 (.t 24) (.c (I 0))),
         .gd 23 true (some 26) (.fa 26 (.t 25) 1),
         .gd 23 true (some 27) (.ld 27 false 1 (.t 26)),
         .gd 23 true (some 28) (.mv 28 (.t 0)),
         .gd 23 true (some 29) (.bin 29 .eql (.t 27) (.t 28)),
         .pick 30 (.t 23) (.t 29) (.c (B false))])
      (.keep [0, 30]
       (.cond (.t 30)
        (.seq
         (.reg [.mv 31 (.t 0),
           .mv 2 (.t 31)])
        (.keep [2]
         .ret))
        .skip)))
     (.keep [0]
      (.seq
       (.reg [.mv 32 (.t 0),
         .bin 33 .add (.c (S [39])) (.t 32),
         .bin 34 .add (.t 33) (.c (S [39])),
         .mv 2 (.t 34)])
      (.keep [2]
       .ret)))))))
def A.impl_isPair : AF where
  nargs := 1
  ntmps := 5
  res := [.tmp 2]
  body :=
    (.seq
     (.reg [.new 1 (.t 0),
       .mv 2 (.c (B false))])
    (.seq
     (.reg [.ld 3 true 4 (.t 1),
       .call (some 4) (.c (Fc F.impl_isStruct)) [(.t 3), (.c (S [46])), (.c (I 2))] (.ro false),
       .mv 2 (.t 4)])
    (.keep [2]
     .ret)))
def A.spec_VarsOf : AF where
  nargs := 1
  ntmps := 6
  res := [.tmp 2]
  body :=
    (.seq
     (.reg [.new 1 (.t 0),
       .mv 2 (.c (.n 1))])
    (.seq
     (.reg [.ld 3 true 4 (.t 1),
       .mks 4 1 [],
       .call (some 5) (.c (Fc F.spec_l03Vars)) [(.t 3), (.t 4)] (.io false),
       .mv 2 (.t 5)])
    (.keep [2]
     .ret)))
def LB.spec_l11Named_0 : AC :=
        (.seq
         (.seq
          (.reg [.mv 22 (.t 8),
            .fa 23 (.t 3) 3,
            .ld 24 false 1 (.t 23),
            .len 25 (.t 24),
            .bin 26 .lss (.t 22) (.t 25)])
         (.keep [1, 2, 3, 6, 7, 8, 26]
          (.cond (.t 26)
           .skip
           (.keep [6, 7]
            (.exit 0)))))
        (.keep [1, 2, 3, 6, 7, 8]
         (.seq
          (.block 1
           (.dreg [⟨0, []⟩, ⟨0, [(0, 0), (0, 1), (0, 2), (0, 3), (1, 0), (1, 1), (1, 2), (1, 3), (2, 0), (2, 1), (2, 2), (2, 3), (3, 0), (7, 0), (9, 0), (16, 0), (17, 0), (17, 1), (17, 2), (17, 3), (20, 0), (32, 0), (35, 0), (100000, 0), (100000, 1), (100000, 2), (100000, 3), (100000, 4), (100000, 5)]⟩, ⟨0, []⟩, ⟨0, [(0, 0), (0, 1), (0, 2), (0, 3), (3, 0), (100000, 0), (100000, 1), (100000, 2), (100000, 3), (100000, 4), (100000, 5)]⟩, ⟨0, []⟩, ⟨0, [(0, 0), (0, 1), (0, 2), (0, 3), (3, 0), (32, 0), (100000, 0), (100000, 1), (100000, 2), (100000, 3), (100000, 4), (100000, 5)]⟩, ⟨0, [(0, 0), (0, 1), (0, 2), (0, 3), (3, 0), (32, 0), (100000, 0), (100000, 1), (100000, 2), (100000, 3), (100000, 4), (100000, 5)]⟩, ⟨0, []⟩, ⟨0, []⟩, ⟨2, [(0, 0), (0, 1), (0, 2), (0, 3), (1, 0), (1, 1), (1, 2), (1, 3), (2, 0), (2, 1), (2, 2), (2, 3), (3, 0), (32, 0), (35, 0), (100000, 0), (100000, 1), (100000, 2), (100000, 3), (100000, 4), (100000, 5)]⟩, ⟨1, []⟩, ⟨1, [(0, 0), (0, 1), (0, 2), (0, 3), (1, 0), (1, 1), (1, 2), (1, 3), (2, 0), (2, 1), (2, 2), (2, 3), (3, 0), (7, 0), (9, 0), (16, 0), (17, 0), (17, 1), (17, 2), (17, 3), (20, 0), (30, 0), (32, 0), (35, 0), (38, 0), (38, 1), (38, 2), (38, 3), (39, 0), (100000, 0), (100000, 1), (100000, 2), (100000, 3), (100000, 4), (100000, 5)]⟩, ⟨0, []⟩, ⟨1, [(0, 0), (0, 1), (0, 2), (0, 3), (1, 0), (1, 1), (1, 2), (1, 3), (2, 0), (2, 1), (2, 2), (2, 3), (3, 0), (7, 0), (9, 0), (16, 0), (17, 0), (17, 1), (17, 2), (17, 3), (20, 0), (30, 0), (32, 0), (35, 0), (38, 0), (38, 1), (38, 2), (38, 3), (39, 0), (40, 0), (100000, 0), (100000, 1), (100000, 2), (100000, 3), (100000, 4), (100000, 5)]⟩]
            [.fa 29 (.t 7) 3,
             .ldq 30 false 1 (.t 29),
             .fa 31 (.t 3) 3,
             .ldq 32 false 1 (.t 31),
             .mv 33 (.t 8),
             .ia 34 4 (.t 32) (.t 33),
             .ldq 35 true 4 (.t 34),
             .mv 36 (.t 1),
             .mv 37 (.t 2),
             .call (some 38) (.c (Fc F.spec_l11Named)) [(.t 35), (.t 36), (.t 37)] (.ro false),
             .mks 39 4 [(.t 38)],
             .app 40 4 56 (.t 30) (.t 39),
             .fa 41 (.t 7) 3,
             .st 1 (.t 41) (.t 40)]))
         (.keep [1, 2, 3, 6, 7, 8]
          (.reg [.mv 27 (.t 8),
            .bin 28 .add (.t 27) (.c (I 1)),
            .mv 8 (.t 28)])))))
def L.spec_l11Named_0 : Lp := ⟨[1, 2, 3, 6, 7, 8], [(3, 0)], LB.spec_l11Named_0⟩
@[go_sem] theorem L.spec_l11Named_0_ls : L.spec_l11Named_0.ls = [1, 2, 3, 6, 7, 8] := rfl
@[go_sem] theorem L.spec_l11Named_0_ks : L.spec_l11Named_0.ks = [(3, 0)] := rfl
@[go_sem] theorem L.spec_l11Named_0_b : L.spec_l11Named_0.body = LB.spec_l11Named_0 := rfl
def A.spec_l11Named : AF where
  nargs := 3
  ntmps := 43
  res := [.cell 6 true 4]
  body :=
    (.seq
     (.reg [.new 3 (.t 0),
       .new 6 (.c (.a [(I 0), (S []), (I 0), (.n 4)]))])
    (.seq
     (.reg [.ld 9 true 4 (.t 3),
       .new 7 (.c (.a [(I 0), (S []), (I 0), (.n 4)])),
       .st 4 (.t 7) (.t 9)])
    (.seq
     (.seq
      (.reg [.fa 10 (.t 3) 0,
        .ld 11 false 1 (.t 10),
        .bin 12 .eql (.t 11) (.c (I 1))])
     (.cond (.t 12)
      (.reg [.mv 13 (.t 2),
        .mv 14 (.t 1),
        .fa 15 (.t 3) 2,
        .ld 16 false 1 (.t 15),
        .call (some 17) (.c (Fc F.spec_l03At)) [(.t 14), (.t 16)] (.ro false),
        .bin 18 .add (.t 13) (.t 17),
        .fa 19 (.t 7) 2,
        .st 1 (.t 19) (.t 18)])
      .skip))
    (.keep [1, 2, 3, 6, 7]
     (.seq
      (.reg [.mks 20 4 [],
        .fa 21 (.t 7) 3,
        .st 1 (.t 21) (.t 20)])
     (.seq
      (.seq
       (.reg [.mv 8 (.c (I 0))])
      (.block 0
       (lpC L.spec_l11Named_0)))
     (.keep [6, 7]
      (.seq
       (.reg [.ld 42 true 4 (.t 7),
         .st 4 (.t 6) (.t 42)])
      (.keep [6]
       .ret)))))))))
def A.slices_Contains_string_string : AF where
  nargs := 2
  ntmps := 9
  res := [.tmp 4]
  body :=
    (.seq
     (.reg [.mv 4 (.c (B false))])
    (.seq
     (.reg [.mv 5 (.t 0),
       .mv 6 (.t 1),
       .call (some 7) (.c (Fc F.slices_Index_string_string)) [(.t 5), (.t 6)] (.ro false),
       .bin 8 .geq (.t 7) (.c (I 0)),
       .mv 4 (.t 8)])
    (.keep [4]
     .ret)))
def LB.impl_addVars_0 : AC :=
         (.seq
          (.reg [.bin 26 .lss (.t 25) (.t 24)])
         (.seq
          (.cond (.t 26)
           .skip
           (.keep [0]
            (.exit 0)))
         (.keep [0, 23, 24, 25]
          (.seq
           (.block 1
            (.seq
             (.reg [.ia 27 4 (.t 23) (.t 25),
               .ld 28 true 4 (.t 27),
               .new 6 (.c (.a [(I 0), (S []), (I 0), (.n 4)])),
               .st 4 (.t 6) (.t 28)])
            (.keep [0, 6, 23, 24, 25]
             (.reg [.mv 29 (.t 0),
               .ld 30 true 4 (.t 6),
               .call (some 31) (.c (Fc F.impl_addVars)) [(.t 29), (.t 30)] (.io false),
               .mv 0 (.t 31)]))))
          (.keep [0, 23, 24, 25]
           (.reg [.bin 32 .add (.t 25) (.c (I 1)),
             .mv 25 (.t 32)]))))))
def L.impl_addVars_0 : Lp := ⟨[0, 23, 24, 25], [(0, 0)], LB.impl_addVars_0⟩
@[go_sem] theorem L.impl_addVars_0_ls : L.impl_addVars_0.ls = [0, 23, 24, 25] := rfl
@[go_sem] theorem L.impl_addVars_0_ks : L.impl_addVars_0.ks = [(0, 0)] := rfl
@[go_sem] theorem L.impl_addVars_0_b : L.impl_addVars_0.body = LB.impl_addVars_0 := rfl
def A.impl_addVars : AF where
  nargs := 2
  ntmps := 34
  res := [.tmp 4]
  body :=
    (.seq
     (.reg [.new 3 (.t 1),
       .mv 4 (.c (.n 1))])
    (.seq
     (.seq
      (.reg [.fa 7 (.t 3) 0,
        .ld 8 false 1 (.t 7),
        .bin 9 .eql (.t 8) (.c (I 1)),
        .mv 10 (.t 9),
        .gd 10 true (some 11) (.mv 11 (.t 0)),
        .gd 10 true (some 12) (.fa 12 (.t 3) 2),
        .gd 10 true (some 13) (.ld 13 false 1 (.t 12)),
        .gd 10 true (some 14) (.call (some 14) (.c (Fc F.slices_Contains_int_int)) [(.t 11), (.t 13)] (.ro true)),
        .gd 10 true (some 15) (.un 15 .not (.t 14)),
        .pick 16 (.t 10) (.t 15) (.c (B false))])
     (.keep [0, 3, 16]
      (.cond (.t 16)
       (.reg [.mv 17 (.t 0),
         .fa 18 (.t 3) 2,
         .ld 19 false 1 (.t 18),
         .mks 20 1 [(.t 19)],
         .app 21 1 8 (.t 17) (.t 20),
         .mv 0 (.t 21)])
       .skip)))
    (.keep [0, 3]
     (.seq
      (.seq
       (.reg [.fa 22 (.t 3) 3,
         .ld 23 false 1 (.t 22),
         .len 24 (.t 23),
         .mv 25 (.c (I 0))])
      (.keep [0, 23, 24, 25]
       (.block 0
        (lpC L.impl_addVars_0))))
     (.keep [0]
      (.seq
       (.reg [.mv 33 (.t 0),
         .mv 4 (.t 33)])
      (.keep [4]
       .ret)))))))
def A.impl_fresh_1 : AF where
  nargs := 3
  ntmps := 10
  res := [.tmp 4]
  body :=
    (.seq
     (.reg [.mv 4 (.c (I 0))])
    (.seq
     (.dreg [⟨0, [(1, 0), (1, 1), (1, 2), (1, 3)]⟩, ⟨0, [(2, 0), (2, 1), (2, 2), (2, 3)]⟩, ⟨0, []⟩, ⟨2, [(0, 0), (0, 1), (0, 2), (0, 3), (2, 0), (2, 1), (2, 2), (2, 3), (6, 0)]⟩, ⟨0, []⟩, ⟨0, []⟩]
      [.ldq 5 false 1 (.t 1),
       .ldq 6 false 1 (.t 2),
       .mv 7 (.t 0),
       .call (some 8) (.c (Fc F.slices_Index_int_int)) [(.t 6), (.t 7)] (.ro false),
       .bin 9 .add (.t 5) (.t 8),
       .mv 4 (.t 9)])
    (.keep [4]
     .ret)))
def LB.slices_Index_int_int_0 : AC :=
       (.seq
        (.reg [.bin 9 .lss (.t 8) (.t 7)])
       (.seq
        (.cond (.t 9)
         .skip
         (.keep []
          (.exit 0)))
       (.keep [0, 1, 7, 8]
        (.seq
         (.block 1
          (.seq
           (.reg [.mv 10 (.t 8),
             .mv 5 (.t 10)])
          (.seq
           (.reg [.mv 11 (.t 1),
             .mv 12 (.t 0),
             .mv 13 (.t 5),
             .ia 14 1 (.t 12) (.t 13),
             .ld 15 false 1 (.t 14),
             .bin 16 .eql (.t 11) (.t 15)])
          (.keep [0, 1, 5, 7, 8, 16]
           (.cond (.t 16)
            (.seq
             (.reg [.mv 17 (.t 5),
               .mv 4 (.t 17)])
            (.keep [4]
             .ret))
            .skip)))))
        (.keep [0, 1, 7, 8]
         (.reg [.bin 18 .add (.t 8) (.c (I 1)),
           .mv 8 (.t 18)]))))))
def L.slices_Index_int_int_0 : Lp := ⟨[0, 1, 7, 8], [(2, 0)], LB.slices_Index_int_int_0⟩
@[go_sem] theorem L.slices_Index_int_int_0_ls : L.slices_Index_int_int_0.ls = [0, 1, 7, 8] := rfl
@[go_sem] theorem L.slices_Index_int_int_0_ks : L.slices_Index_int_int_0.ks = [(2, 0)] := rfl
@[go_sem] theorem L.slices_Index_int_int_0_b : L.slices_Index_int_int_0.body = LB.slices_Index_int_int_0 := rfl
def A.slices_Index_int_int : AF where
  nargs := 2
  ntmps := 19
  res := [.tmp 4]
  body :=
    (.seq
     (.reg [.mv 4 (.c (I 0))])
    (.seq
     (.seq
      (.reg [.mv 6 (.t 0),
        .len 7 (.t 6),
        .mv 8 (.c (I 0))])
     (.block 0
      (lpC L.slices_Index_int_int_0)))
    (.keep []
     (.seq
      (.reg [.mv 4 (.c (I (-1)))])
     (.keep [4]
      .ret)))))
def A.spec_l05Small : AF where
  nargs := 1
  ntmps := 9
  res := [.tmp 2]
  body :=
    (.seq
     (.reg [.mv 2 (.c (B false))])
    (.seq
     (.reg [.mv 3 (.t 0),
       .bin 4 .geq (.t 3) (.c (U8 97)),
       .mv 5 (.t 4),
       .gd 5 true (some 6) (.mv 6 (.t 0)),
       .gd 5 true (some 7) (.bin 7 .leq (.t 6) (.c (U8 122))),
       .pick 8 (.t 5) (.t 7) (.c (B false)),
       .mv 2 (.t 8)])
    (.keep [2]
     .ret)))
def A.spec_l05Great : AF where
  nargs := 1
  ntmps := 13
  res := [.tmp 2]
  body :=
    (.seq
     (.reg [.mv 2 (.c (B false))])
    (.seq
     (.reg [.mv 3 (.t 0),
       .bin 4 .geq (.t 3) (.c (U8 65)),
       .mv 5 (.t 4),
       .gd 5 true (some 6) (.mv 6 (.t 0)),
       .gd 5 true (some 7) (.bin 7 .leq (.t 6) (.c (U8 90))),
       .pick 8 (.t 5) (.t 7) (.c (B false)),
       .mv 9 (.t 8),
       .gd 9 false (some 10) (.mv 10 (.t 0)),
       .gd 9 false (some 11) (.bin 11 .eql (.t 10) (.c (U8 95))),
       .pick 12 (.t 9) (.c (B true)) (.t 11),
       .mv 2 (.t 12)])
    (.keep [2]
     .ret)))
def LB.spec_l05Run_0 : AC :=
       (.seq
        (.seq
         (.reg [.mv 5 (.t 1),
           .mv 6 (.t 0),
           .slen 7 (.t 6),
           .bin 8 .lss (.t 5) (.t 7),
           .mv 9 (.t 8),
           .gd 9 true (some 10) (.mv 10 (.t 0)),
           .gd 9 true (some 11) (.mv 11 (.t 1)),
           .gd 9 true (some 12) (.ix 12 (.t 10) (.t 11)),
           .gd 9 true (some 13) (.call (some 13) (.c (Fc F.spec_l05Word)) [(.t 12)] (.ro true)),
           .pick 14 (.t 9) (.t 13) (.c (B false))])
        (.keep [0, 1, 14]
         (.cond (.t 14)
          .skip
          (.keep [1]
           (.exit 0)))))
       (.keep [0, 1]
        (.block 1
         (.reg [.mv 15 (.t 1),
           .bin 16 .add (.t 15) (.c (I 1)),
           .mv 1 (.t 16)]))))
def L.spec_l05Run_0 : Lp := ⟨[0, 1], [(2, 0)], LB.spec_l05Run_0⟩
@[go_sem] theorem L.spec_l05Run_0_ls : L.spec_l05Run_0.ls = [0, 1] := rfl
@[go_sem] theorem L.spec_l05Run_0_ks : L.spec_l05Run_0.ks = [(2, 0)] := rfl
@[go_sem] theorem L.spec_l05Run_0_b : L.spec_l05Run_0.body = LB.spec_l05Run_0 := rfl
def A.spec_l05Run : AF where
  nargs := 2
  ntmps := 18
  res := [.tmp 4]
  body :=
    (.seq
     (.reg [.mv 4 (.c (I 0))])
    (.seq
     (.block 0
      (lpC L.spec_l05Run_0))
    (.keep [1]
     (.seq
      (.reg [.mv 17 (.t 1),
        .mv 4 (.t 17)])
     (.keep [4]
      .ret)))))
def A.spec_l05Figure : AF where
  nargs := 1
  ntmps := 9
  res := [.tmp 2]
  body :=
    (.seq
     (.reg [.mv 2 (.c (B false))])
    (.seq
     (.reg [.mv 3 (.t 0),
       .bin 4 .geq (.t 3) (.c (U8 48)),
       .mv 5 (.t 4),
       .gd 5 true (some 6) (.mv 6 (.t 0)),
       .gd 5 true (some 7) (.bin 7 .leq (.t 6) (.c (U8 57))),
       .pick 8 (.t 5) (.t 7) (.c (B false)),
       .mv 2 (.t 8)])
    (.keep [2]
     .ret)))
def LB.spec_l05Quoted_0 : AC :=
       (.seq
        (.seq
         (.reg [.mv 8 (.t 5),
           .mv 9 (.t 0),
           .slen 10 (.t 9),
           .bin 11 .lss (.t 8) (.t 10)])
        (.keep [0, 1, 5, 11]
         (.cond (.t 11)
          .skip
          (.keep []
           (.exit 0)))))
       (.keep [0, 1, 5]
        (.seq
         (.block 1
          (.seq
           (.reg [.mv 14 (.t 0),
             .mv 15 (.t 5),
             .ix 16 (.t 14) (.t 15),
             .bin 17 .eql (.t 16) (.c (U8 39))])
          (.keep [0, 1, 5, 17]
           (.cond (.t 17)
            (.seq
             (.seq
              (.reg [.mv 18 (.t 0),
                .mv 19 (.t 1),
                .bin 20 .add (.t 19) (.c (I 1)),
                .mv 21 (.t 5),
                .ssl 22 (.t 18) (some (.t 20)) (some (.t 21)),
                .call (some 23) (.c (Fc F.spec_l03Name)) [(.t 22)] (.ro true)])
             (.keep [5, 23]
              (.cond (.t 23)
               (.seq
                (.reg [.mv 24 (.t 5),
                  .bin 25 .add (.t 24) (.c (I 1)),
                  .mv 4 (.t 25)])
               (.keep [4]
                .ret))
               .skip)))
            (.keep []
             (.seq
              (.reg [.mv 4 (.c (I 0))])
             (.keep [4]
              .ret))))
            .skip))))
        (.keep [0, 1, 5]
         (.reg [.mv 12 (.t 5),
           .bin 13 .add (.t 12) (.c (I 1)),
           .mv 5 (.t 13)])))))
def L.spec_l05Quoted_0 : Lp := ⟨[0, 1, 5], [(2, 0)], LB.spec_l05Quoted_0⟩
@[go_sem] theorem L.spec_l05Quoted_0_ls : L.spec_l05Quoted_0.ls = [0, 1, 5] := rfl
@[go_sem] theorem L.spec_l05Quoted_0_ks : L.spec_l05Quoted_0.ks = [(2, 0)] := rfl
@[go_sem] theorem L.spec_l05Quoted_0_b : L.spec_l05Quoted_0.body = LB.spec_l05Quoted_0 := rfl
def A.spec_l05Quoted : AF where
  nargs := 2
  ntmps := 26
  res := [.tmp 4]
  body :=
    (.seq
     (.reg [.mv 4 (.c (I 0))])
    (.seq
     (.seq
      (.reg [.mv 6 (.t 1),
        .bin 7 .add (.t 6) (.c (I 1)),
        .mv 5 (.t 7)])
     (.block 0
      (lpC L.spec_l05Quoted_0)))
    (.keep []
     (.seq
      (.reg [.mv 4 (.c (I 0))])
     (.keep [4]
      .ret)))))
def A.spec_l05End : AF where
  nargs := 2
  ntmps := 42
  res := [.tmp 4]
  body :=
    (.seq
     (.reg [.mv 4 (.c (B false))])
    (.seq
     (.reg [.mv 5 (.t 0),
       .mv 6 (.t 1),
       .ix 7 (.t 5) (.t 6),
       .bin 8 .eql (.t 7) (.c (U8 46)),
       .mv 9 (.t 8),
       .gd 9 true (some 10) (.mv 10 (.t 1)),
       .gd 9 true (some 11) (.bin 11 .eql (.t 10) (.c (I 0))),
       .gd 9 true (some 12) (.mv 12 (.t 11)),
       .gd 12 false (some 13) (.mv 13 (.t 0)),
       .gd 12 false (some 14) (.mv 14 (.t 1)),
       .gd 12 false (some 15) (.bin 15 .sub (.t 14) (.c (I 1))),
       .gd 12 false (some 16) (.ix 16 (.t 13) (.t 15)),
       .gd 12 false (some 17) (.call (some 17) (.c (Fc F.spec_SymbolByte)) [(.t 16)] (.ro false)),
       .gd 12 false (some 18) (.un 18 .not (.t 17)),
       .gd 9 true (some 19) (.pick 19 (.t 12) (.c (B true)) (.t 18)),
       .pick 20 (.t 9) (.t 19) (.c (B false)),
       .mv 21 (.t 20),
       .gd 21 true (some 22) (.mv 22 (.t 1)),
       .gd 21 true (some 23) (.bin 23 .add (.t 22) (.c (I 1))),
       .gd 21 true (some 24) (.mv 24 (.t 0)),
       .gd 21 true (some 25) (.slen 25 (.t 24)),
       .gd 21 true (some 26) (.bin 26 .eql (.t 23) (.t 25)),
       .gd 21 true (some 27) (.mv 27 (.t 26)),
       .gd 27 false (some 28) (.mv 28 (.t 0)),
       .gd 27 false (some 29) (.mv 29 (.t 1)),
       .gd 27 false (some 30) (.bin 30 .add (.t 29) (.c (I 1))),
       .gd 27 false (some 31) (.ix 31 (.t 28) (.t 30)),
       .gd 27 false (some 32) (.call (some 32) (.c (Fc F.spec_l05Blank)) [(.t 31)] (.ro false)),
       .gd 21 true (some 33) (.pick 33 (.t 27) (.c (B true)) (.t 32)),
       .gd 21 true (some 34) (.mv 34 (.t 33)),
       .gd 34 false (some 35) (.mv 35 (.t 0)),
       .gd 34 false (some 36) (.mv 36 (.t 1)),
       .gd 34 false (some 37) (.bin 37 .add (.t 36) (.c (I 1))),
       .gd 34 false (some 38) (.ix 38 (.t 35) (.t 37)),
       .gd 34 false (some 39) (.bin 39 .eql (.t 38) (.c (U8 37))),
       .gd 21 true (some 40) (.pick 40 (.t 34) (.c (B true)) (.t 39)),
       .pick 41 (.t 21) (.t 40) (.c (B false)),
       .mv 4 (.t 41)])
    (.keep [4]
     .ret)))
def LB.spec_SymbolByte_0 : AC :=
       (.seq
        (.seq
         (.reg [.mv 5 (.t 4),
           .mv 6 (.t 3),
           .slen 7 (.t 6),
           .bin 8 .lss (.t 5) (.t 7)])
        (.keep [0, 3, 4, 8]
         (.cond (.t 8)
          .skip
          (.keep []
           (.exit 0)))))
       (.keep [0, 3, 4]
        (.seq
         (.block 1
          (.seq
           (.reg [.mv 11 (.t 3),
             .mv 12 (.t 4),
             .ix 13 (.t 11) (.t 12),
             .mv 14 (.t 0),
             .bin 15 .eql (.t 13) (.t 14)])
          (.keep [0, 3, 4, 15]
           (.cond (.t 15)
            (.seq
             (.reg [.mv 2 (.c (B true))])
            (.keep [2]
             .ret))
            .skip))))
        (.keep [0, 3, 4]
         (.reg [.mv 9 (.t 4),
           .bin 10 .add (.t 9) (.c (I 1)),
           .mv 4 (.t 10)])))))
def L.spec_SymbolByte_0 : Lp := ⟨[0, 3, 4], [(1, 0)], LB.spec_SymbolByte_0⟩
@[go_sem] theorem L.spec_SymbolByte_0_ls : L.spec_SymbolByte_0.ls = [0, 3, 4] := rfl
@[go_sem] theorem L.spec_SymbolByte_0_ks : L.spec_SymbolByte_0.ks = [(1, 0)] := rfl
@[go_sem] theorem L.spec_SymbolByte_0_b : L.spec_SymbolByte_0.body = LB.spec_SymbolByte_0 := rfl
def A.spec_SymbolByte : AF where
  nargs := 1
  ntmps := 16
  res := [.tmp 2]
  body :=
    (.seq
     (.reg [.mv 2 (.c (B false))])
    (.seq
     (.reg [.mv 3 (.c (S [43, 45, 42, 47, 92, 94, 60, 62, 61, 126, 58, 46, 63, 64, 35, 38, 36]))])
    (.seq
     (.seq
      (.reg [.mv 4 (.c (I 0))])
     (.block 0
      (lpC L.spec_SymbolByte_0)))
    (.keep []
     (.seq
      (.reg [.mv 2 (.c (B false))])
     (.keep [2]
      .ret))))))
def A.impl_PrefixOf : AF where
  nargs := 1
  ntmps := 18
  res := [.cell 2 true 4, .tmp 3]
  body :=
    (.seq
     (.reg [.new 2 (.c (.a [(S []), (I 0), (I 0), (I 0)])),
       .mv 3 (.c (B false))])
    (.seq
     (.seq
      (.reg [.mv 4 (.t 0)])
     (.block 0
      (.seq
       (.reg [.bin 6 .eql (.t 4) (.c (S [58, 45])),
         .mv 5 (.t 6)])
      (.cond (.t 5)
       (.seq
        (.reg [.mv 7 (.t 0),
          .build 8 (.a [(S []), (I 0), (I 0), (I 0)]) [(0, 1, (.t 7)), (1, 1, (.c (I 1200))), (3, 1, (.c (I 1199)))],
          .st 4 (.t 2) (.t 8),
          .mv 3 (.c (B true))])
       (.keep [2, 3]
        .ret))
       (.seq
        (.reg [.bin 10 .eql (.t 4) (.c (S [92, 43])),
          .mv 9 (.t 10)])
       (.cond (.t 9)
        (.seq
         (.reg [.mv 11 (.t 0),
           .build 12 (.a [(S []), (I 0), (I 0), (I 0)]) [(0, 1, (.t 11)), (1, 1, (.c (I 900))), (3, 1, (.c (I 900)))],
           .st 4 (.t 2) (.t 12),
           .mv 3 (.c (B true))])
        (.keep [2, 3]
         .ret))
        (.seq
         (.reg [.bin 14 .eql (.t 4) (.c (S [45])),
           .mv 13 (.t 14)])
        (.cond (.t 13)
         (.seq
          (.reg [.mv 15 (.t 0),
            .build 16 (.a [(S []), (I 0), (I 0), (I 0)]) [(0, 1, (.t 15)), (1, 1, (.c (I 200))), (3, 1, (.c (I 200)))],
            .st 4 (.t 2) (.t 16),
            .mv 3 (.c (B true))])
         (.keep [2, 3]
          .ret))
         .skip))))))))
    (.keep [2]
     (.seq
      (.reg [.build 17 (.a [(S []), (I 0), (I 0), (I 0)]) [],
        .st 4 (.t 2) (.t 17),
        .mv 3 (.c (B false))])
     (.keep [2, 3]
      .ret)))))
def LB.impl_SignsOf_0 : AC :=
        (.seq
         (.seq
          (.reg [.mv 11 (.t 5),
            .mv 12 (.t 0),
            .slen 13 (.t 12),
            .bin 14 .lss (.t 11) (.t 13)])
         (.keep [0, 4, 5, 14]
          (.cond (.t 14)
           .skip
           (.keep [4]
            (.exit 0)))))
        (.keep [0, 4, 5]
         (.block 1
          (.seq
           (.seq
            (.reg [.mv 15 (.t 0),
              .mv 16 (.t 5),
              .ix 17 (.t 15) (.t 16)])
           (.block 2
            (.seq
             (.seq
              (.reg [.bin 19 .eql (.t 17) (.c (U8 32)),
                .mv 18 (.t 19)])
             (.cond (.t 18)
              .skip
              (.seq
               (.reg [.bin 20 .eql (.t 17) (.c (U8 9)),
                 .mv 18 (.t 20)])
              (.cond (.t 18)
               .skip
               (.reg [.bin 21 .eql (.t 17) (.c (U8 10)),
                 .mv 18 (.t 21)])))))
            (.keep [0, 4, 5, 17, 18]
             (.cond (.t 18)
              (.seq
               (.reg [.mv 22 (.t 5),
                 .bin 23 .add (.t 22) (.c (I 1)),
                 .mv 5 (.t 23)])
              (.keep [0, 4, 5]
               (.exit 1)))
              (.seq
               (.reg [.bin 25 .eql (.t 17) (.c (U8 37)),
                 .mv 24 (.t 25)])
              (.cond (.t 24)
               (.seq
                (.reg [.mv 26 (.t 0),
                  .mv 27 (.t 5),
                  .call (some 28) (.c (Fc F.impl_run)) [(.t 26), (.t 27), (.c (Fc F.impl_SignsOf_1))] (.ro false),
                  .mv 5 (.t 28)])
               (.keep [0, 4, 5]
                (.exit 1)))
               .skip)))))))
          (.keep [0, 4, 5]
           (.seq
            (.reg [.mv 30 (.t 0),
              .mv 31 (.t 5),
              .call (some 32) (.c (Fc F.impl_nextSign)) [(.t 30), (.t 31)] (.ro false),
              .mv 29 (.t 32),
              .ext 33 (.t 29) 0,
              .ext 34 (.t 29) 1,
              .new 6 (.c (.a [(I 0), (S []), (I 0), (I 0), (B false)])),
              .st 5 (.t 6) (.t 33),
              .mv 7 (.t 34)])
           (.keep [0, 4, 6, 7]
            (.seq
             (.reg [.mv 35 (.t 7),
               .mv 36 (.t 0),
               .slen 37 (.t 36),
               .bin 38 .lss (.t 35) (.t 37),
               .mv 39 (.t 38),
               .gd 39 true (some 40) (.mv 40 (.t 0)),
               .gd 39 true (some 41) (.mv 41 (.t 7)),
               .gd 39 true (some 42) (.ix 42 (.t 40) (.t 41)),
               .gd 39 true (some 43) (.bin 43 .eql (.t 42) (.c (U8 40))),
               .pick 44 (.t 39) (.t 43) (.c (B false)),
               .fa 45 (.t 6) 4,
               .st 1 (.t 45) (.t 44)])
            (.keep [0, 4, 6, 7]
             (.seq
              (.reg [.mv 46 (.t 4),
                .ld 47 true 5 (.t 6),
                .mks 48 5 [(.t 47)],
                .app 49 5 48 (.t 46) (.t 48),
                .mv 4 (.t 49)])
             (.keep [0, 4, 7]
              (.reg [.mv 50 (.t 7),
                .mv 5 (.t 50)]))))))))))))
def L.impl_SignsOf_0 : Lp := ⟨[0, 4, 5], [(1, 0)], LB.impl_SignsOf_0⟩
@[go_sem] theorem L.impl_SignsOf_0_ls : L.impl_SignsOf_0.ls = [0, 4, 5] := rfl
@[go_sem] theorem L.impl_SignsOf_0_ks : L.impl_SignsOf_0.ks = [(1, 0)] := rfl
@[go_sem] theorem L.impl_SignsOf_0_b : L.impl_SignsOf_0.body = LB.impl_SignsOf_0 := rfl
def A.impl_SignsOf : AF where
  nargs := 1
  ntmps := 52
  res := [.tmp 2, .tmp 3]
  body :=
    (.seq
     (.reg [.mv 2 (.c (.n 5)),
       .mv 3 (.c (B false))])
    (.seq
     (.seq
      (.reg [.mv 8 (.t 0),
        .slen 9 (.t 8),
        .bin 10 .gtr (.t 9) (.c (I 3000))])
     (.cond (.t 10)
      (.seq
       (.reg [.mv 2 (.c (.n 5)),
         .mv 3 (.c (B false))])
      (.keep [2, 3]
       .ret))
      .skip))
    (.keep [0]
     (.seq
      (.reg [.mv 4 (.c (.n 5))])
     (.seq
      (.seq
       (.reg [.mv 5 (.c (I 0))])
      (.block 0
       (lpC L.impl_SignsOf_0)))
     (.keep [4]
      (.seq
       (.reg [.mv 51 (.t 4),
         .mv 2 (.t 51),
         .mv 3 (.c (B true))])
      (.keep [2, 3]
       .ret))))))))
def A.spec_Control : AF where
  nargs := 1
  ntmps := 32
  res := [.tmp 2]
  body :=
    (.seq
     (.reg [.mv 2 (.c (B false))])
    (.seq
     (.seq
      (.reg [.mv 3 (.t 0)])
     (.block 0
      (.seq
       (.seq
        (.reg [.bin 5 .eql (.t 3) (.c (S [116, 114, 117, 101, 47, 48])),
          .mv 4 (.t 5)])
       (.cond (.t 4)
        .skip
        (.seq
         (.reg [.bin 6 .eql (.t 3) (.c (S [102, 97, 105, 108, 47, 48])),
           .mv 4 (.t 6)])
        (.cond (.t 4)
         .skip
         (.seq
          (.reg [.bin 7 .eql (.t 3) (.c (S [33, 47, 48])),
            .mv 4 (.t 7)])
         (.cond (.t 4)
          .skip
          (.seq
           (.reg [.bin 8 .eql (.t 3) (.c (S [44, 47, 50])),
             .mv 4 (.t 8)])
          (.cond (.t 4)
           .skip
           (.seq
            (.reg [.bin 9 .eql (.t 3) (.c (S [59, 47, 50])),
              .mv 4 (.t 9)])
           (.cond (.t 4)
            .skip
            (.seq
             (.reg [.bin 10 .eql (.t 3) (.c (S [45, 62, 47, 50])),
               .mv 4 (.t 10)])
            (.cond (.t 4)
             .skip
             (.seq
              (.reg [.bin 11 .eql (.t 3) (.c (S [92, 43, 47, 49])),
                .mv 4 (.t 11)])
             (.cond (.t 4)
              .skip
              (.seq
               (.reg [.bin 12 .eql (.t 3) (.c (S [99, 97, 108, 108, 47, 49])),
                 .mv 4 (.t 12)])
              (.cond (.t 4)
               .skip
               (.seq
                (.reg [.bin 13 .eql (.t 3) (.c (S [99, 97, 108, 108, 47, 50])),
                  .mv 4 (.t 13)])
               (.cond (.t 4)
                .skip
                (.seq
                 (.reg [.bin 14 .eql (.t 3) (.c (S [99, 97, 108, 108, 47, 51])),
                   .mv 4 (.t 14)])
                (.cond (.t 4)
                 .skip
                 (.seq
                  (.reg [.bin 15 .eql (.t 3) (.c (S [99, 97, 116, 99, 104, 47, 51])),
                    .mv 4 (.t 15)])
                 (.cond (.t 4)
                  .skip
                  (.reg [.bin 16 .eql (.t 3) (.c (S [116, 104, 114, 111, 119, 47, 49])),
                    .mv 4 (.t 16)])))))))))))))))))))))))
      (.keep [3, 4]
       (.cond (.t 4)
        (.seq
         (.reg [.mv 2 (.c (B true))])
        (.keep [2]
         .ret))
        (.seq
         (.seq
          (.reg [.bin 18 .eql (.t 3) (.c (S [61, 47, 50])),
            .mv 17 (.t 18)])
         (.cond (.t 17)
          .skip
          (.seq
           (.reg [.bin 19 .eql (.t 3) (.c (S [92, 61, 47, 50])),
             .mv 17 (.t 19)])
          (.cond (.t 17)
           .skip
           (.seq
            (.reg [.bin 20 .eql (.t 3) (.c (S [61, 61, 47, 50])),
              .mv 17 (.t 20)])
           (.cond (.t 17)
            .skip
            (.seq
             (.reg [.bin 21 .eql (.t 3) (.c (S [105, 115, 47, 50])),
               .mv 17 (.t 21)])
            (.cond (.t 17)
             .skip
             (.seq
              (.reg [.bin 22 .eql (.t 3) (.c (S [60, 47, 50])),
                .mv 17 (.t 22)])
             (.cond (.t 17)
              .skip
              (.seq
               (.reg [.bin 23 .eql (.t 3) (.c (S [61, 58, 61, 47, 50])),
                 .mv 17 (.t 23)])
              (.cond (.t 17)
               .skip
               (.seq
                (.reg [.bin 24 .eql (.t 3) (.c (S [118, 97, 114, 47, 49])),
                  .mv 17 (.t 24)])
               (.cond (.t 17)
                .skip
                (.seq
                 (.reg [.bin 25 .eql (.t 3) (.c (S [97, 116, 111, 109, 47, 49])),
                   .mv 17 (.t 25)])
                (.cond (.t 17)
                 .skip
                 (.seq
                  (.reg [.bin 26 .eql (.t 3) (.c (S [119, 114, 105, 116, 101, 47, 49])),
                    .mv 17 (.t 26)])
                 (.cond (.t 17)
                  .skip
                  (.seq
                   (.reg [.bin 27 .eql (.t 3) (.c (S [97, 115, 115, 101, 114, 116, 122, 47, 49])),
                     .mv 17 (.t 27)])
                  (.cond (.t 17)
                   .skip
                   (.seq
                    (.reg [.bin 28 .eql (.t 3) (.c (S [114, 101, 116, 114, 97, 99, 116, 47, 49])),
                      .mv 17 (.t 28)])
                   (.cond (.t 17)
                    .skip
                    (.seq
                     (.reg [.bin 29 .eql (.t 3) (.c (S [58, 45, 47, 50])),
                       .mv 17 (.t 29)])
                    (.cond (.t 17)
                     .skip
                     (.seq
                      (.reg [.bin 30 .eql (.t 3) (.c (S [58, 45, 47, 49])),
                        .mv 17 (.t 30)])
                     (.cond (.t 17)
                      .skip
                      (.reg [.bin 31 .eql (.t 3) (.c (S [45, 45, 62, 47, 50])),
                        .mv 17 (.t 31)])))))))))))))))))))))))))))
        (.keep [17]
         (.cond (.t 17)
          (.seq
           (.reg [.mv 2 (.c (B true))])
          (.keep [2]
           .ret))
          .skip))))))))
    (.keep []
     (.seq
      (.reg [.mv 2 (.c (B false))])
     (.keep [2]
      .ret)))))
def LB.spec_l03Vars_0 : AC :=
        (.seq
         (.seq
          (.reg [.mv 21 (.t 5),
            .fa 22 (.t 2) 3,
            .ld 23 false 1 (.t 22),
            .len 24 (.t 23),
            .bin 25 .lss (.t 21) (.t 24)])
         (.keep [1, 2, 5, 25]
          (.cond (.t 25)
           .skip
           (.keep [1]
            (.exit 0)))))
        (.keep [1, 2, 5]
         (.seq
          (.block 1
           (.reg [.fa 28 (.t 2) 3,
             .ld 29 false 1 (.t 28),
             .mv 30 (.t 5),
             .ia 31 4 (.t 29) (.t 30),
             .ld 32 true 4 (.t 31),
             .mv 33 (.t 1),
             .call (some 34) (.c (Fc F.spec_l03Vars)) [(.t 32), (.t 33)] (.io false),
             .mv 1 (.t 34)]))
         (.keep [1, 2, 5]
          (.reg [.mv 26 (.t 5),
            .bin 27 .add (.t 26) (.c (I 1)),
            .mv 5 (.t 27)])))))
def L.spec_l03Vars_0 : Lp := ⟨[1, 2, 5], [(0, 0)], LB.spec_l03Vars_0⟩
@[go_sem] theorem L.spec_l03Vars_0_ls : L.spec_l03Vars_0.ls = [1, 2, 5] := rfl
@[go_sem] theorem L.spec_l03Vars_0_ks : L.spec_l03Vars_0.ks = [(0, 0)] := rfl
@[go_sem] theorem L.spec_l03Vars_0_b : L.spec_l03Vars_0.body = LB.spec_l03Vars_0 := rfl
def A.spec_l03Vars : AF where
  nargs := 2
  ntmps := 36
  res := [.tmp 4]
  body :=
    (.seq
     (.reg [.new 2 (.t 0),
       .mv 4 (.c (.n 1))])
    (.seq
     (.seq
      (.reg [.fa 6 (.t 2) 0,
        .ld 7 false 1 (.t 6),
        .bin 8 .eql (.t 7) (.c (I 1)),
        .mv 9 (.t 8),
        .gd 9 true (some 10) (.mv 10 (.t 1)),
        .gd 9 true (some 11) (.fa 11 (.t 2) 2),
        .gd 9 true (some 12) (.ld 12 false 1 (.t 11)),
        .gd 9 true (some 13) (.call (some 13) (.c (Fc F.spec_l03Has)) [(.t 10), (.t 12)] (.ro true)),
        .gd 9 true (some 14) (.un 14 .not (.t 13)),
        .pick 15 (.t 9) (.t 14) (.c (B false))])
     (.keep [1, 2, 15]
      (.cond (.t 15)
       (.reg [.mv 16 (.t 1),
         .fa 17 (.t 2) 2,
         .ld 18 false 1 (.t 17),
         .mks 19 1 [(.t 18)],
         .app 20 1 8 (.t 16) (.t 19),
         .mv 1 (.t 20)])
       .skip)))
    (.keep [1, 2]
     (.seq
      (.seq
       (.reg [.mv 5 (.c (I 0))])
      (.block 0
       (lpC L.spec_l03Vars_0)))
     (.keep [1]
      (.seq
       (.reg [.mv 35 (.t 1),
         .mv 4 (.t 35)])
      (.keep [4]
       .ret)))))))
def LB.spec_l03At_0 : AC :=
       (.seq
        (.seq
         (.reg [.mv 6 (.t 5),
           .mv 7 (.t 0),
           .len 8 (.t 7),
           .bin 9 .lss (.t 6) (.t 8)])
        (.keep [0, 1, 5, 9]
         (.cond (.t 9)
          .skip
          (.keep []
           (.exit 0)))))
       (.keep [0, 1, 5]
        (.seq
         (.block 1
          (.seq
           (.reg [.mv 12 (.t 0),
             .mv 13 (.t 5),
             .ia 14 1 (.t 12) (.t 13),
             .ld 15 false 1 (.t 14),
             .mv 16 (.t 1),
             .bin 17 .eql (.t 15) (.t 16)])
          (.keep [0, 1, 5, 17]
           (.cond (.t 17)
            (.seq
             (.reg [.mv 18 (.t 5),
               .mv 4 (.t 18)])
            (.keep [4]
             .ret))
            .skip))))
        (.keep [0, 1, 5]
         (.reg [.mv 10 (.t 5),
           .bin 11 .add (.t 10) (.c (I 1)),
           .mv 5 (.t 11)])))))
def L.spec_l03At_0 : Lp := ⟨[0, 1, 5], [(2, 0)], LB.spec_l03At_0⟩
@[go_sem] theorem L.spec_l03At_0_ls : L.spec_l03At_0.ls = [0, 1, 5] := rfl
@[go_sem] theorem L.spec_l03At_0_ks : L.spec_l03At_0.ks = [(2, 0)] := rfl
@[go_sem] theorem L.spec_l03At_0_b : L.spec_l03At_0.body = LB.spec_l03At_0 := rfl
def A.spec_l03At : AF where
  nargs := 2
  ntmps := 19
  res := [.tmp 4]
  body :=
    (.seq
     (.reg [.mv 4 (.c (I 0))])
    (.seq
     (.seq
      (.reg [.mv 5 (.c (I 0))])
     (.block 0
      (lpC L.spec_l03At_0)))
    (.keep []
     (.seq
      (.reg [.mv 4 (.c (I (-1)))])
     (.keep [4]
      .ret)))))
def LB.slices_Index_string_string_0 : AC :=
       (.seq
        (.reg [.bin 9 .lss (.t 8) (.t 7)])
       (.seq
        (.cond (.t 9)
         .skip
         (.keep []
          (.exit 0)))
       (.keep [0, 1, 7, 8]
        (.seq
         (.block 1
          (.seq
           (.reg [.mv 10 (.t 8),
             .mv 5 (.t 10)])
          (.seq
           (.reg [.mv 11 (.t 1),
             .mv 12 (.t 0),
             .mv 13 (.t 5),
             .ia 14 1 (.t 12) (.t 13),
             .ld 15 false 1 (.t 14),
             .bin 16 .eql (.t 11) (.t 15)])
          (.keep [0, 1, 5, 7, 8, 16]
           (.cond (.t 16)
            (.seq
             (.reg [.mv 17 (.t 5),
               .mv 4 (.t 17)])
            (.keep [4]
             .ret))
            .skip)))))
        (.keep [0, 1, 7, 8]
         (.reg [.bin 18 .add (.t 8) (.c (I 1)),
           .mv 8 (.t 18)]))))))
def L.slices_Index_string_string_0 : Lp := ⟨[0, 1, 7, 8], [(2, 0)], LB.slices_Index_string_string_0⟩
@[go_sem] theorem L.slices_Index_string_string_0_ls : L.slices_Index_string_string_0.ls = [0, 1, 7, 8] := rfl
@[go_sem] theorem L.slices_Index_string_string_0_ks : L.slices_Index_string_string_0.ks = [(2, 0)] := rfl
@[go_sem] theorem L.slices_Index_string_string_0_b : L.slices_Index_string_string_0.body = LB.slices_Index_string_string_0 := rfl
def A.slices_Index_string_string : AF where
  nargs := 2
  ntmps := 19
  res := [.tmp 4]
  body :=
    (.seq
     (.reg [.mv 4 (.c (I 0))])
    (.seq
     (.seq
      (.reg [.mv 6 (.t 0),
        .len 7 (.t 6),
        .mv 8 (.c (I 0))])
     (.block 0
      (lpC L.slices_Index_string_string_0)))
    (.keep []
     (.seq
      (.reg [.mv 4 (.c (I (-1)))])
     (.keep [4]
      .ret)))))
def A.slices_Contains_int_int : AF where
  nargs := 2
  ntmps := 9
  res := [.tmp 4]
  body :=
    (.seq
     (.reg [.mv 4 (.c (B false))])
    (.seq
     (.reg [.mv 5 (.t 0),
       .mv 6 (.t 1),
       .call (some 7) (.c (Fc F.slices_Index_int_int)) [(.t 5), (.t 6)] (.ro false),
       .bin 8 .geq (.t 7) (.c (I 0)),
       .mv 4 (.t 8)])
    (.keep [4]
     .ret)))
def A.spec_l05Word : AF where
  nargs := 1
  ntmps := 13
  res := [.tmp 2]
  body :=
    (.seq
     (.reg [.mv 2 (.c (B false))])
    (.seq
     (.reg [.mv 3 (.t 0),
       .call (some 4) (.c (Fc F.spec_l05Small)) [(.t 3)] (.ro false),
       .mv 5 (.t 4),
       .gd 5 false (some 6) (.mv 6 (.t 0)),
       .gd 5 false (some 7) (.call (some 7) (.c (Fc F.spec_l05Great)) [(.t 6)] (.ro false)),
       .pick 8 (.t 5) (.c (B true)) (.t 7),
       .mv 9 (.t 8),
       .gd 9 false (some 10) (.mv 10 (.t 0)),
       .gd 9 false (some 11) (.call (some 11) (.c (Fc F.spec_l05Figure)) [(.t 10)] (.ro false)),
       .pick 12 (.t 9) (.c (B true)) (.t 11),
       .mv 2 (.t 12)])
    (.keep [2]
     .ret)))
def LB.impl_run_0 : AC :=
       (.seq
        (.seq
         (.reg [.mv 7 (.t 1),
           .mv 8 (.t 0),
           .slen 9 (.t 8),
           .bin 10 .lss (.t 7) (.t 9),
           .mv 11 (.t 10),
           .gd 11 true (some 12) (.mv 12 (.t 2)),
           .gd 11 true (some 13) (.mv 13 (.t 0)),
           .gd 11 true (some 14) (.mv 14 (.t 1)),
           .gd 11 true (some 15) (.ix 15 (.t 13) (.t 14)),
           .gd 11 true (some 16) (.call (some 16) (.t 12) [(.t 15)] (.ro true)),
           .pick 17 (.t 11) (.t 16) (.c (B false))])
        (.keep [0, 1, 2, 17]
         (.cond (.t 17)
          .skip
          (.keep [1]
           (.exit 0)))))
       (.keep [0, 1, 2]
        (.block 1
         (.reg [.mv 18 (.t 1),
           .bin 19 .add (.t 18) (.c (I 1)),
           .mv 1 (.t 19)]))))
def L.impl_run_0 : Lp := ⟨[0, 1, 2], [(3, 0)], LB.impl_run_0⟩
@[go_sem] theorem L.impl_run_0_ls : L.impl_run_0.ls = [0, 1, 2] := rfl
@[go_sem] theorem L.impl_run_0_ks : L.impl_run_0.ks = [(3, 0)] := rfl
@[go_sem] theorem L.impl_run_0_b : L.impl_run_0.body = LB.impl_run_0 := rfl
def A.impl_run : AF where
  nargs := 3
  ntmps := 21
  res := [.tmp 6]
  body :=
    (.seq
     (.reg [.mv 6 (.c (I 0))])
    (.seq
     (.block 0
      (lpC L.impl_run_0))
    (.keep [1]
     (.seq
      (.reg [.mv 20 (.t 1),
        .mv 6 (.t 20)])
     (.keep [6]
      .ret)))))
def A.impl_SignsOf_1 : AF where
  nargs := 1
  ntmps := 5
  res := [.tmp 2]
  body :=
    (.seq
     (.reg [.mv 2 (.c (B false))])
    (.seq
     (.reg [.mv 3 (.t 0),
       .bin 4 .neq (.t 3) (.c (U8 10)),
       .mv 2 (.t 4)])
    (.keep [2]
     .ret)))
def LB.impl_nextSign_0 : AC :=
                 (.seq
                  (.seq
                   (.reg [.mv 52 (.t 10),
                     .mv 53 (.t 8),
                     .bin 54 .lss (.t 52) (.t 53),
                     .mv 55 (.t 54),
                     .gd 55 true (some 56) (.mv 56 (.t 9)),
                     .gd 55 true (some 57) (.bin 57 .leq (.t 56) (.c (I 999999999))),
                     .pick 58 (.t 55) (.t 57) (.c (B false))])
                  (.keep [0, 1, 4, 7, 8, 9, 10, 58]
                   (.cond (.t 58)
                    .skip
                    (.keep [0, 1, 4, 7, 8, 9]
                     (.exit 1)))))
                 (.keep [0, 1, 4, 7, 8, 9, 10]
                  (.seq
                   (.block 2
                    (.reg [.mv 61 (.t 9),
                      .bin 62 .mul (.c (I 10)) (.t 61),
                      .mv 63 (.t 0),
                      .mv 64 (.t 10),
                      .ix 65 (.t 63) (.t 64),
                      .bin 66 .sub (.t 65) (.c (U8 48)),
                      .int 67 .i64 (.t 66),
                      .bin 68 .add (.t 62) (.t 67),
                      .mv 9 (.t 68)]))
                  (.keep [0, 1, 4, 7, 8, 9, 10]
                   (.reg [.mv 59 (.t 10),
                     .bin 60 .add (.t 59) (.c (I 1)),
                     .mv 10 (.t 60)])))))
def L.impl_nextSign_0 : Lp := ⟨[0, 1, 4, 7, 8, 9, 10], [(2, 0)], LB.impl_nextSign_0⟩
@[go_sem] theorem L.impl_nextSign_0_ls : L.impl_nextSign_0.ls = [0, 1, 4, 7, 8, 9, 10] := rfl
@[go_sem] theorem L.impl_nextSign_0_ks : L.impl_nextSign_0.ks = [(2, 0)] := rfl
@[go_sem] theorem L.impl_nextSign_0_b : L.impl_nextSign_0.body = LB.impl_nextSign_0 := rfl
def A.impl_nextSign : AF where
  nargs := 2
  ntmps := 160
  res := [.cell 4 true 5, .tmp 5]
  body :=
    (.seq
     (.reg [.new 4 (.c (.a [(I 0), (S []), (I 0), (I 0), (B false)])),
       .mv 5 (.c (I 0))])
    (.seq
     (.reg [.mv 12 (.t 0),
       .mv 13 (.t 1),
       .ix 14 (.t 12) (.t 13),
       .mv 6 (.t 14)])
    (.keep [0, 1, 4, 6]
     (.seq
      (.reg [.mv 15 (.t 1),
        .build 16 (.a [(I 0), (S []), (I 0), (I 0), (B false)]) [(3, 1, (.t 15))],
        .new 7 (.c (.a [(I 0), (S []), (I 0), (I 0), (B false)])),
        .st 5 (.t 7) (.t 16)])
     (.keep [0, 1, 4, 6, 7]
      (.seq
       (.reg [.mv 17 (.t 1),
         .bin 18 .add (.t 17) (.c (I 1)),
         .mv 8 (.t 18)])
      (.seq
       (.block 0
        (.seq
         (.reg [.mv 20 (.t 0),
           .mv 21 (.t 1),
           .call (some 22) (.c (Fc F.impl_endsHere)) [(.t 20), (.t 21)] (.ro true),
           .mv 19 (.t 22)])
        (.keep [0, 1, 4, 6, 7, 8, 19]
         (.cond (.t 19)
          (.seq
           (.reg [.fa 23 (.t 7) 0,
             .st 1 (.t 23) (.c (I 5)),
             .fa 24 (.t 7) 1,
             .st 1 (.t 24) (.c (S [46]))])
          (.keep [4, 7, 8]
           (.seq
            (.reg [.ld 25 true 5 (.t 7),
              .mv 26 (.t 8),
              .st 5 (.t 4) (.t 25),
              .mv 5 (.t 26)])
           (.keep [4, 5]
            .ret))))
          (.seq
           (.reg [.mv 28 (.t 6),
             .call (some 29) (.c (Fc F.impl_lower)) [(.t 28)] (.ro true),
             .mv 30 (.t 29),
             .gd 30 false (some 31) (.mv 31 (.t 6)),
             .gd 30 false (some 32) (.call (some 32) (.c (Fc F.impl_upper)) [(.t 31)] (.ro true)),
             .pick 33 (.t 30) (.c (B true)) (.t 32),
             .mv 34 (.t 33),
             .gd 34 false (some 35) (.mv 35 (.t 6)),
             .gd 34 false (some 36) (.bin 36 .eql (.t 35) (.c (U8 95))),
             .pick 37 (.t 34) (.c (B true)) (.t 36),
             .mv 27 (.t 37)])
          (.keep [0, 1, 4, 6, 7, 8, 27]
           (.cond (.t 27)
            (.seq
             (.reg [.mv 38 (.t 0),
               .mv 39 (.t 1),
               .call (some 40) (.c (Fc F.impl_run)) [(.t 38), (.t 39), (.c (Fc F.impl_wordByte))] (.ro false),
               .mv 8 (.t 40)])
            (.keep [0, 1, 4, 6, 7, 8]
             (.seq
              (.reg [.fa 41 (.t 7) 0,
                .st 1 (.t 41) (.c (I 2))])
             (.seq
              (.reg [.mv 42 (.t 6),
                .call (some 43) (.c (Fc F.impl_lower)) [(.t 42)] (.ro true)])
             (.cond (.t 43)
              (.reg [.fa 44 (.t 7) 0,
                .st 1 (.t 44) (.c (I 1))])
              .skip)))))
            (.seq
             (.reg [.mv 46 (.t 6),
               .call (some 47) (.c (Fc F.impl_figure)) [(.t 46)] (.ro true),
               .mv 45 (.t 47)])
            (.cond (.t 45)
             (.seq
              (.reg [.mv 48 (.t 0),
                .mv 49 (.t 1),
                .call (some 50) (.c (Fc F.impl_run)) [(.t 48), (.t 49), (.c (Fc F.impl_figure))] (.ro false),
                .mv 8 (.t 50)])
             (.keep [0, 1, 4, 7, 8]
              (.seq
               (.reg [.mv 9 (.c (I 0))])
              (.seq
               (.seq
                (.reg [.mv 51 (.t 1),
                  .mv 10 (.t 51)])
               (.block 1
                (lpC L.impl_nextSign_0)))
              (.keep [0, 1, 4, 7, 8, 9]
               (.seq
                (.reg [.mv 69 (.t 9),
                  .bin 70 .leq (.t 69) (.c (I 999999999))])
               (.cond (.t 70)
                (.seq
                 (.reg [.mv 71 (.t 9),
                   .fa 72 (.t 7) 0,
                   .st 1 (.t 72) (.c (I 3)),
                   .fa 73 (.t 7) 2,
                   .st 1 (.t 73) (.t 71)])
                (.keep [4, 7, 8]
                 (.seq
                  (.reg [.ld 74 true 5 (.t 7),
                    .mv 75 (.t 8),
                    .st 5 (.t 4) (.t 74),
                    .mv 5 (.t 75)])
                 (.keep [4, 5]
                  .ret))))
                .skip)))))))
             (.seq
              (.reg [.mv 77 (.t 6),
                .call (some 78) (.c (Fc F.impl_SymbolByte)) [(.t 77)] (.ro true),
                .mv 76 (.t 78)])
             (.cond (.t 76)
              (.seq
               (.reg [.mv 79 (.t 0),
                 .mv 80 (.t 1),
                 .call (some 81) (.c (Fc F.impl_run)) [(.t 79), (.t 80), (.c (Fc F.impl_SymbolByte))] (.ro false),
                 .mv 8 (.t 81)])
              (.keep [0, 1, 4, 7, 8]
               (.reg [.fa 82 (.t 7) 0,
                 .st 1 (.t 82) (.c (I 1))])))
              (.seq
               (.reg [.mv 84 (.t 6),
                 .bin 85 .eql (.t 84) (.c (U8 33)),
                 .mv 86 (.t 85),
                 .gd 86 false (some 87) (.mv 87 (.t 6)),
                 .gd 86 false (some 88) (.bin 88 .eql (.t 87) (.c (U8 59))),
                 .pick 89 (.t 86) (.c (B true)) (.t 88),
                 .mv 83 (.t 89)])
              (.keep [0, 1, 4, 6, 7, 8, 83]
               (.cond (.t 83)
                (.reg [.fa 90 (.t 7) 0,
                  .st 1 (.t 90) (.c (I 1))])
                (.seq
                 (.reg [.mv 92 (.t 6),
                   .call (some 93) (.c (Fc F.strings_IndexByte)) [(.c (S [40, 41, 91, 93, 44, 124])), (.t 92)] (.ro true),
                   .bin 94 .geq (.t 93) (.c (I 0)),
                   .mv 91 (.t 94)])
                (.keep [0, 1, 4, 6, 7, 8, 91]
                 (.cond (.t 91)
                  (.reg [.fa 95 (.t 7) 0,
                    .st 1 (.t 95) (.c (I 4))])
                  (.seq
                   (.reg [.mv 97 (.t 6),
                     .bin 98 .eql (.t 97) (.c (U8 39)),
                     .mv 96 (.t 98)])
                  (.cond (.t 96)
                   (.seq
                    (.reg [.mv 99 (.t 0),
                      .mv 100 (.t 1),
                      .bin 101 .add (.t 100) (.c (I 1)),
                      .call (some 102) (.c (Fc F.impl_run)) [(.t 99), (.t 101), (.c (Fc F.impl_nextSign_1))] (.ro false),
                      .mv 11 (.t 102)])
                   (.keep [0, 1, 4, 7, 8, 11]
                    (.seq
                     (.reg [.mv 103 (.t 11),
                       .mv 104 (.t 0),
                       .slen 105 (.t 104),
                       .bin 106 .lss (.t 103) (.t 105),
                       .mv 107 (.t 106),
                       .gd 107 true (some 108) (.mv 108 (.t 0)),
                       .gd 107 true (some 109) (.mv 109 (.t 11)),
                       .gd 107 true (some 110) (.ix 110 (.t 108) (.t 109)),
                       .gd 107 true (some 111) (.bin 111 .eql (.t 110) (.c (U8 39))),
                       .pick 112 (.t 107) (.t 111) (.c (B false)),
                       .mv 113 (.t 112),
                       .gd 113 true (some 114) (.mv 114 (.t 11)),
                       .gd 113 true (some 115) (.mv 115 (.t 1)),
                       .gd 113 true (some 116) (.bin 116 .sub (.t 114) (.t 115)),
                       .gd 113 true (some 117) (.bin 117 .sub (.t 116) (.c (I 1))),
                       .gd 113 true (some 118) (.call (some 118) (.c (Fc F.impl_within)) [(.t 117), (.c (I 1)), (.c (I 20))] (.ro true)),
                       .pick 119 (.t 113) (.t 118) (.c (B false))])
                    (.keep [0, 1, 4, 7, 8, 11, 119]
                     (.cond (.t 119)
                      (.seq
                       (.dreg [⟨0, []⟩, ⟨0, []⟩, ⟨0, []⟩, ⟨0, []⟩, ⟨0, []⟩, ⟨0, []⟩, ⟨1, [(0, 0), (0, 1), (0, 2), (0, 3), (1, 0), (1, 1), (1, 2), (1, 3), (7, 0), (40, 0), (40, 1), (40, 2), (40, 3), (50, 0), (50, 1), (50, 2), (50, 3), (81, 0), (81, 1), (81, 2), (81, 3), (102, 0), (102, 1), (102, 2), (102, 3), (100000, 0), (100000, 1), (100000, 2), (100000, 3), (100000, 4), (100000, 5)]⟩, ⟨0, []⟩, ⟨1, [(0, 0), (0, 1), (0, 2), (0, 3), (1, 0), (1, 1), (1, 2), (1, 3), (7, 0), (40, 0), (40, 1), (40, 2), (40, 3), (50, 0), (50, 1), (50, 2), (50, 3), (81, 0), (81, 1), (81, 2), (81, 3), (102, 0), (102, 1), (102, 2), (102, 3), (100000, 0), (100000, 1), (100000, 2), (100000, 3), (100000, 4), (100000, 5)]⟩]
                        [.mv 120 (.t 0),
                         .mv 121 (.t 1),
                         .bin 122 .add (.t 121) (.c (I 1)),
                         .mv 123 (.t 11),
                         .ssl 124 (.t 120) (some (.t 122)) (some (.t 123)),
                         .fa 125 (.t 7) 0,
                         .st 1 (.t 125) (.c (I 1)),
                         .fa 126 (.t 7) 1,
                         .st 1 (.t 126) (.t 124)])
                      (.keep [4, 7, 11]
                       (.seq
                        (.reg [.ld 127 true 5 (.t 7),
                          .mv 128 (.t 11),
                          .bin 129 .add (.t 128) (.c (I 1)),
                          .st 5 (.t 4) (.t 127),
                          .mv 5 (.t 129)])
                       (.keep [4, 5]
                        .ret))))
                      .skip)))))
                   .skip)))))))))))))))))))
      (.keep [0, 1, 4, 7, 8]
       (.seq
        (.reg [.mv 130 (.t 0),
          .mv 131 (.t 1),
          .mv 132 (.t 8),
          .ssl 133 (.t 130) (some (.t 131)) (some (.t 132)),
          .fa 134 (.t 7) 1,
          .st 1 (.t 134) (.t 133)])
       (.keep [0, 1, 4, 7, 8]
        (.seq
         (.seq
          (.reg [.fa 135 (.t 7) 0,
            .ld 136 false 1 (.t 135),
            .bin 137 .eql (.t 136) (.c (I 0)),
            .mv 138 (.t 137),
            .gd 138 false (some 139) (.fa 139 (.t 7) 0),
            .gd 138 false (some 140) (.ld 140 false 1 (.t 139)),
            .gd 138 false (some 141) (.bin 141 .neq (.t 140) (.c (I 4))),
            .gd 138 false (some 142) (.mv 142 (.t 141)),
            .gd 142 true (some 143) (.fa 143 (.t 7) 1),
            .gd 142 true (some 144) (.ld 144 false 1 (.t 143)),
            .gd 142 true (some 145) (.slen 145 (.t 144)),
            .gd 142 true (some 146) (.bin 146 .gtr (.t 145) (.c (I 20))),
            .gd 138 false (some 147) (.pick 147 (.t 142) (.t 146) (.c (B false))),
            .pick 148 (.t 138) (.c (B true)) (.t 147)])
         (.keep [0, 1, 4, 7, 8, 148]
          (.cond (.t 148)
           (.seq
            (.dreg [⟨0, []⟩, ⟨0, []⟩, ⟨0, []⟩, ⟨0, []⟩, ⟨0, []⟩, ⟨0, []⟩, ⟨1, [(0, 0), (0, 1), (0, 2), (0, 3), (1, 0), (1, 1), (1, 2), (1, 3), (7, 0), (40, 0), (40, 1), (40, 2), (40, 3), (50, 0), (50, 1), (50, 2), (50, 3), (81, 0), (81, 1), (81, 2), (81, 3), (102, 0), (102, 1), (102, 2), (102, 3), (100000, 0), (100000, 1), (100000, 2), (100000, 3), (100000, 4), (100000, 5)]⟩, ⟨0, []⟩, ⟨1, [(0, 0), (0, 1), (0, 2), (0, 3), (1, 0), (1, 1), (1, 2), (1, 3), (7, 0), (40, 0), (40, 1), (40, 2), (40, 3), (50, 0), (50, 1), (50, 2), (50, 3), (81, 0), (81, 1), (81, 2), (81, 3), (102, 0), (102, 1), (102, 2), (102, 3), (100000, 0), (100000, 1), (100000, 2), (100000, 3), (100000, 4), (100000, 5)]⟩]
             [.mv 149 (.t 0),
              .mv 150 (.t 1),
              .mv 151 (.t 1),
              .bin 152 .add (.t 151) (.c (I 1)),
              .ssl 153 (.t 149) (some (.t 150)) (some (.t 152)),
              .fa 154 (.t 7) 0,
              .st 1 (.t 154) (.c (I 6)),
              .fa 155 (.t 7) 1,
              .st 1 (.t 155) (.t 153)])
           (.keep [1, 4, 7]
            (.reg [.mv 156 (.t 1),
              .bin 157 .add (.t 156) (.c (I 1)),
              .mv 8 (.t 157)])))
           .skip)))
        (.keep [4, 7, 8]
         (.seq
          (.reg [.ld 158 true 5 (.t 7),
            .mv 159 (.t 8),
            .st 5 (.t 4) (.t 158),
            .mv 5 (.t 159)])
         (.keep [4, 5]
          .ret))))))))))))))
def LB.spec_l03Has_0 : AC :=
       (.seq
        (.seq
         (.reg [.mv 6 (.t 5),
           .mv 7 (.t 0),
           .len 8 (.t 7),
           .bin 9 .lss (.t 6) (.t 8)])
        (.keep [0, 1, 5, 9]
         (.cond (.t 9)
          .skip
          (.keep []
           (.exit 0)))))
       (.keep [0, 1, 5]
        (.seq
         (.block 1
          (.seq
           (.reg [.mv 12 (.t 0),
             .mv 13 (.t 5),
             .ia 14 1 (.t 12) (.t 13),
             .ld 15 false 1 (.t 14),
             .mv 16 (.t 1),
             .bin 17 .eql (.t 15) (.t 16)])
          (.keep [0, 1, 5, 17]
           (.cond (.t 17)
            (.seq
             (.reg [.mv 4 (.c (B true))])
            (.keep [4]
             .ret))
            .skip))))
        (.keep [0, 1, 5]
         (.reg [.mv 10 (.t 5),
           .bin 11 .add (.t 10) (.c (I 1)),
           .mv 5 (.t 11)])))))
def L.spec_l03Has_0 : Lp := ⟨[0, 1, 5], [(2, 0)], LB.spec_l03Has_0⟩
@[go_sem] theorem L.spec_l03Has_0_ls : L.spec_l03Has_0.ls = [0, 1, 5] := rfl
@[go_sem] theorem L.spec_l03Has_0_ks : L.spec_l03Has_0.ks = [(2, 0)] := rfl
@[go_sem] theorem L.spec_l03Has_0_b : L.spec_l03Has_0.body = LB.spec_l03Has_0 := rfl
def A.spec_l03Has : AF where
  nargs := 2
  ntmps := 18
  res := [.tmp 4]
  body :=
    (.seq
     (.reg [.mv 4 (.c (B false))])
    (.seq
     (.seq
      (.reg [.mv 5 (.c (I 0))])
     (.block 0
      (lpC L.spec_l03Has_0)))
    (.keep []
     (.seq
      (.reg [.mv 4 (.c (B false))])
     (.keep [4]
      .ret)))))
def A.impl_endsHere : AF where
  nargs := 2
  ntmps := 33
  res := [.tmp 4]
  body :=
    (.seq
     (.reg [.mv 4 (.c (B false))])
    (.seq
     (.seq
      (.reg [.mv 5 (.t 0),
        .mv 6 (.t 1),
        .ix 7 (.t 5) (.t 6),
        .bin 8 .neq (.t 7) (.c (U8 46)),
        .mv 9 (.t 8),
        .gd 9 false (some 10) (.mv 10 (.t 1)),
        .gd 9 false (some 11) (.bin 11 .gtr (.t 10) (.c (I 0))),
        .gd 9 false (some 12) (.mv 12 (.t 11)),
        .gd 12 true (some 13) (.mv 13 (.t 0)),
        .gd 12 true (some 14) (.mv 14 (.t 1)),
        .gd 12 true (some 15) (.bin 15 .sub (.t 14) (.c (I 1))),
        .gd 12 true (some 16) (.ix 16 (.t 13) (.t 15)),
        .gd 12 true (some 17) (.call (some 17) (.c (Fc F.impl_SymbolByte)) [(.t 16)] (.ro true)),
        .gd 9 false (some 18) (.pick 18 (.t 12) (.t 17) (.c (B false))),
        .pick 19 (.t 9) (.c (B true)) (.t 18)])
     (.keep [0, 1, 19]
      (.cond (.t 19)
       (.seq
        (.reg [.mv 4 (.c (B false))])
       (.keep [4]
        .ret))
       .skip)))
    (.keep [0, 1]
     (.seq
      (.reg [.mv 20 (.t 1),
        .bin 21 .add (.t 20) (.c (I 1)),
        .mv 22 (.t 0),
        .slen 23 (.t 22),
        .bin 24 .eql (.t 21) (.t 23),
        .mv 25 (.t 24),
        .gd 25 false (some 26) (.mv 26 (.t 0)),
        .gd 25 false (some 27) (.mv 27 (.t 1)),
        .gd 25 false (some 28) (.bin 28 .add (.t 27) (.c (I 1))),
        .gd 25 false (some 29) (.ix 29 (.t 26) (.t 28)),
        .gd 25 false (some 30) (.call (some 30) (.c (Fc F.strings_IndexByte)) [(.c (S [32, 9, 10, 37])), (.t 29)] (.ro false)),
        .gd 25 false (some 31) (.bin 31 .geq (.t 30) (.c (I 0))),
        .pick 32 (.t 25) (.c (B true)) (.t 31),
        .mv 4 (.t 32)])
     (.keep [4]
      .ret)))))
def A.impl_lower : AF where
  nargs := 1
  ntmps := 9
  res := [.tmp 2]
  body :=
    (.seq
     (.reg [.mv 2 (.c (B false))])
    (.seq
     (.reg [.mv 3 (.t 0),
       .bin 4 .geq (.t 3) (.c (U8 97)),
       .mv 5 (.t 4),
       .gd 5 true (some 6) (.mv 6 (.t 0)),
       .gd 5 true (some 7) (.bin 7 .leq (.t 6) (.c (U8 122))),
       .pick 8 (.t 5) (.t 7) (.c (B false)),
       .mv 2 (.t 8)])
    (.keep [2]
     .ret)))
def A.impl_upper : AF where
  nargs := 1
  ntmps := 9
  res := [.tmp 2]
  body :=
    (.seq
     (.reg [.mv 2 (.c (B false))])
    (.seq
     (.reg [.mv 3 (.t 0),
       .bin 4 .geq (.t 3) (.c (U8 65)),
       .mv 5 (.t 4),
       .gd 5 true (some 6) (.mv 6 (.t 0)),
       .gd 5 true (some 7) (.bin 7 .leq (.t 6) (.c (U8 90))),
       .pick 8 (.t 5) (.t 7) (.c (B false)),
       .mv 2 (.t 8)])
    (.keep [2]
     .ret)))
def A.impl_wordByte : AF where
  nargs := 1
  ntmps := 17
  res := [.tmp 2]
  body :=
    (.seq
     (.reg [.mv 2 (.c (B false))])
    (.seq
     (.reg [.mv 3 (.t 0),
       .call (some 4) (.c (Fc F.impl_lower)) [(.t 3)] (.ro false),
       .mv 5 (.t 4),
       .gd 5 false (some 6) (.mv 6 (.t 0)),
       .gd 5 false (some 7) (.call (some 7) (.c (Fc F.impl_upper)) [(.t 6)] (.ro false)),
       .pick 8 (.t 5) (.c (B true)) (.t 7),
       .mv 9 (.t 8),
       .gd 9 false (some 10) (.mv 10 (.t 0)),
       .gd 9 false (some 11) (.call (some 11) (.c (Fc F.impl_figure)) [(.t 10)] (.ro false)),
       .pick 12 (.t 9) (.c (B true)) (.t 11),
       .mv 13 (.t 12),
       .gd 13 false (some 14) (.mv 14 (.t 0)),
       .gd 13 false (some 15) (.bin 15 .eql (.t 14) (.c (U8 95))),
       .pick 16 (.t 13) (.c (B true)) (.t 15),
       .mv 2 (.t 16)])
    (.keep [2]
     .ret)))
def A.impl_figure : AF where
  nargs := 1
  ntmps := 9
  res := [.tmp 2]
  body :=
    (.seq
     (.reg [.mv 2 (.c (B false))])
    (.seq
     (.reg [.mv 3 (.t 0),
       .bin 4 .geq (.t 3) (.c (U8 48)),
       .mv 5 (.t 4),
       .gd 5 true (some 6) (.mv 6 (.t 0)),
       .gd 5 true (some 7) (.bin 7 .leq (.t 6) (.c (U8 57))),
       .pick 8 (.t 5) (.t 7) (.c (B false)),
       .mv 2 (.t 8)])
    (.keep [2]
     .ret)))
def A.impl_SymbolByte : AF where
  nargs := 1
  ntmps := 6
  res := [.tmp 2]
  body :=
    (.seq
     (.reg [.mv 2 (.c (B false))])
    (.seq
     (.reg [.mv 3 (.t 0),
       .call (some 4) (.c (Fc F.strings_IndexByte)) [(.c (S [43, 45, 42, 47, 92, 94, 60, 62, 61, 126, 58, 46, 63, 64, 35, 38, 36])), (.t 3)] (.ro false),
       .bin 5 .geq (.t 4) (.c (I 0)),
       .mv 2 (.t 5)])
    (.keep [2]
     .ret)))
def A.impl_nextSign_1 : AF where
  nargs := 1
  ntmps := 14
  res := [.tmp 2]
  body :=
    (.seq
     (.reg [.mv 2 (.c (B false))])
    (.seq
     (.reg [.mv 3 (.t 0),
       .int 4 .i64 (.t 3),
       .call (some 5) (.c (Fc F.impl_within)) [(.t 4), (.c (I 33)), (.c (I 126))] (.ro false),
       .mv 6 (.t 5),
       .gd 6 true (some 7) (.mv 7 (.t 0)),
       .gd 6 true (some 8) (.bin 8 .neq (.t 7) (.c (U8 39))),
       .pick 9 (.t 6) (.t 8) (.c (B false)),
       .mv 10 (.t 9),
       .gd 10 true (some 11) (.mv 11 (.t 0)),
       .gd 10 true (some 12) (.bin 12 .neq (.t 11) (.c (U8 34))),
       .pick 13 (.t 10) (.t 12) (.c (B false)),
       .mv 2 (.t 13)])
    (.keep [2]
     .ret)))

-- 231 internal/abi.NoEscape: no body

-- 232 internal/bytealg.MakeNoZero: no body
def progA_0 : Nat → Option AE
  | 3 => some (.fn A.laws_FnExactShowDb)
  | 4 => some (.fn A.laws_FnExactPlainClause)
  | 5 => some (.fn A.laws_FnExactShowOutcome)
  | 6 => some (.fn A.laws_FnExactPlainText)
  | 9 => some (.fn A.laws_szDb)
  | 10 => some (.fn A.spec_ShowDb)
  | 11 => some (.fn A.laws_toDb)
  | 12 => some (.fn A.impl_ShowDb)
  | 13 => some (.fn A.laws_eqDb)
  | 14 => some (.fn A.laws_szClause)
  | 15 => some (.fn A.spec_PlainClause)
  | 16 => some (.fn A.laws_toClause)
  | 17 => some (.fn A.impl_PlainClause)
  | 18 => some (.fn A.laws_eqClause)
  | 19 => some (.fn A.laws_szOutcome)
  | 20 => some (.fn A.spec_ShowOutcome)
  | 21 => some (.fn A.laws_toOutcome)
  | 22 => some (.fn A.impl_ShowOutcome)
  | 23 => some (.fn A.laws_eqOutcome)
  | 24 => some (.fn A.spec_PlainText)
  | 25 => some (.fn A.impl_PlainText)
  | 32 => some (.fn A.laws_szClauseS)
  | 33 => some (.fn A.laws_szStringS)
  | 34 => some (.fn A.spec_ShowClause)
  | 35 => some (.fn A.laws_toClauseS)
  | 36 => some (.fn A.laws_toStringS)
  | 37 => some (.fn A.impl_ShowClause)
  | 38 => some (.fn A.laws_eqClauseS)
  | 39 => some (.fn A.laws_eqStringS)
  | 40 => some (.fn A.laws_szTerm)
  | 41 => some (.fn A.spec_TermOk)
  | 42 => some (.fn A.spec_PrioOf)
  | 43 => some (.fn A.spec_WritePlain)
  | 44 => some (.fn A.spec_ClauseTerm)
  | 45 => some (.fn A.spec_l28Write)
  | 46 => some (.fn A.spec_l27True)
  | 47 => some (.fn A.spec_l03Is)
  | 48 => some (.fn A.spec_l28Held)
  | 49 => some (.fn A.laws_toTerm)
  | 50 => some (.fn A.impl_TermOk)
  | 51 => some (.fn A.impl_PrioOf)
  | 52 => some (.fn A.impl_WritePlain)
  | _ => none
def progA_1 : Nat → Option AE
  | 53 => some (.fn A.impl_ClauseTerm)
  | 54 => some (.fn A.impl_isAtom)
  | 55 => some (.fn A.impl_isStruct)
  | 56 => some (.fn A.impl_bracketed)
  | 57 => some (.fn A.laws_eqTerm)
  | 58 => some (.fn A.laws_szTermS)
  | 59 => some (.fn A.spec_l31Lines)
  | 60 => some (.fn A.spec_l19Lines)
  | 61 => some (.fn A.laws_toTermS)
  | 62 => some (.fn A.impl_inLines)
  | 63 => some (.fn A.impl_outcomeLines)
  | 64 => some (.fn A.laws_eqTermS)
  | 68 => some (.fn A.impl_within)
  | 71 => some (.fn A.impl_PredOf)
  | 80 => some (.fn A.spec_WriteTerm)
  | 81 => some (.fn A.impl_WriteTerm)
  | 82 => some (.fn A.spec_l03Count)
  | 83 => some (.fn A.spec_l03Right)
  | 84 => some (.fn A.spec_InfixOf)
  | 85 => some (.fn A.spec_l08ClauseTermRaw)
  | 86 => some (.fn A.spec_l34Term)
  | 87 => some (.fn A.spec_l07Write)
  | 88 => some (.fn A.spec_l28Row)
  | 89 => some (.fn A.spec_AtomText)
  | 90 => some (.fn A.impl_sized)
  | 91 => some (.fn A.impl_isInfix)
  | 92 => some (.fn A.impl_InfixOf)
  | 93 => some (.fn A.impl_plain)
  | 94 => some (.fn A.impl_structure)
  | 95 => some (.fn A.impl_copyTerm)
  | 97 => some (.fn A.spec_l01In)
  | 100 => some (.fn A.spec_PredOf)
  | _ => none
def progA_2 : Nat → Option AE
  | 109 => some (.fn A.impl_Decimal)
  | 117 => some (.fn A.impl_NeatClause)
  | 125 => some (.fn A.impl_write)
  | 126 => some (.fn A.spec_l03One)
  | 127 => some (.fn A.spec_l03Two)
  | 128 => some (.fn A.spec_l34Terms)
  | 129 => some (.fn A.spec_Decimal)
  | 130 => some (.fn A.spec_l07Op)
  | 131 => some (.fn A.spec_l07Row)
  | 132 => some (.fn A.spec_SignsOf)
  | 133 => some (.fn A.impl_nameOk)
  | 134 => some (.fn A.impl_writeWith)
  | 135 => some (.fn A.impl_plain_1)
  | 136 => some (.fn A.impl_plain_2)
  | 137 => some (.fn A.impl_signText)
  | 138 => some (.fn A.impl_renamed)
  | 139 => some (.fn A.impl_copyTerm_1)
  | 148 => some (.fn A.spec_NeatClause)
  | 150 => some (.fn A.impl_Control)
  | 152 => some (.prim itoaP)
  | 155 => some (.fn A.impl_VarsOf)
  | 158 => some (.fn A.impl_fresh)
  | _ => none
def progA_3 : Nat → Option AE
  | 160 => some (.fn A.impl_write_1)
  | 161 => some (.fn A.spec_l03Name)
  | 162 => some (.fn A.spec_l01Figure)
  | 163 => some (.fn A.spec_PrefixOf)
  | 164 => some (.fn A.spec_l05Blank)
  | 165 => some (.fn A.spec_l05Sign)
  | 166 => some (.fn A.impl_isOp)
  | 167 => some (.fn A.impl_AtomText)
  | 168 => some (.fn A.impl_isPair)
  | 169 => some (.prim joinP)
  | 173 => some (.fn A.spec_VarsOf)
  | 176 => some (.fn A.spec_l11Named)
  | 177 => some (.fn A.slices_Contains_string_string)
  | 181 => some (.fn A.impl_addVars)
  | 183 => some (.fn A.impl_fresh_1)
  | 184 => some (.fn A.slices_Index_int_int)
  | 186 => some (.fn A.spec_l05Small)
  | 187 => some (.fn A.spec_l05Great)
  | 188 => some (.fn A.spec_l05Run)
  | 189 => some (.fn A.spec_l05Figure)
  | 190 => some (.fn A.spec_l05Quoted)
  | 191 => some (.fn A.spec_l05End)
  | 192 => some (.fn A.spec_SymbolByte)
  | 193 => some (.fn A.impl_PrefixOf)
  | 194 => some (.fn A.impl_SignsOf)
  | 200 => some (.fn A.spec_Control)
  | 201 => some (.fn A.spec_l03Vars)
  | 205 => some (.fn A.spec_l03At)
  | 206 => some (.fn A.slices_Index_string_string)
  | 209 => some (.fn A.slices_Contains_int_int)
  | 210 => some (.fn A.spec_l05Word)
  | 211 => some (.fn A.impl_run)
  | 212 => some (.fn A.impl_SignsOf_1)
  | _ => none
def progA_4 : Nat → Option AE
  | 213 => some (.fn A.impl_nextSign)
  | 216 => some (.fn A.spec_l03Has)
  | 223 => some (.fn A.impl_endsHere)
  | 224 => some (.fn A.impl_lower)
  | 225 => some (.fn A.impl_upper)
  | 226 => some (.fn A.impl_wordByte)
  | 227 => some (.fn A.impl_figure)
  | 228 => some (.fn A.impl_SymbolByte)
  | 229 => some (.prim ixbP)
  | 230 => some (.fn A.impl_nextSign_1)
  | _ => none
def progA (n : Nat) : Option AE :=
  match progA_0 n with
  | some e => some e
  | none =>
  match progA_1 n with
  | some e => some e
  | none =>
  match progA_2 n with
  | some e => some e
  | none =>
  match progA_3 n with
  | some e => some e
  | none =>
  progA_4 n
theorem pA_laws_FnExactShowDb : progA F.laws_FnExactShowDb = some (.fn A.laws_FnExactShowDb) := rfl
theorem pA_laws_FnExactPlainClause : progA F.laws_FnExactPlainClause = some (.fn A.laws_FnExactPlainClause) := rfl
theorem pA_laws_FnExactShowOutcome : progA F.laws_FnExactShowOutcome = some (.fn A.laws_FnExactShowOutcome) := rfl
theorem pA_laws_FnExactPlainText : progA F.laws_FnExactPlainText = some (.fn A.laws_FnExactPlainText) := rfl
theorem pA_laws_szDb : progA F.laws_szDb = some (.fn A.laws_szDb) := rfl
theorem pA_spec_ShowDb : progA F.spec_ShowDb = some (.fn A.spec_ShowDb) := rfl
theorem pA_laws_toDb : progA F.laws_toDb = some (.fn A.laws_toDb) := rfl
theorem pA_impl_ShowDb : progA F.impl_ShowDb = some (.fn A.impl_ShowDb) := rfl
theorem pA_laws_eqDb : progA F.laws_eqDb = some (.fn A.laws_eqDb) := rfl
theorem pA_laws_szClause : progA F.laws_szClause = some (.fn A.laws_szClause) := rfl
theorem pA_spec_PlainClause : progA F.spec_PlainClause = some (.fn A.spec_PlainClause) := rfl
theorem pA_laws_toClause : progA F.laws_toClause = some (.fn A.laws_toClause) := rfl
theorem pA_impl_PlainClause : progA F.impl_PlainClause = some (.fn A.impl_PlainClause) := rfl
theorem pA_laws_eqClause : progA F.laws_eqClause = some (.fn A.laws_eqClause) := rfl
theorem pA_laws_szOutcome : progA F.laws_szOutcome = some (.fn A.laws_szOutcome) := rfl
theorem pA_spec_ShowOutcome : progA F.spec_ShowOutcome = some (.fn A.spec_ShowOutcome) := rfl
theorem pA_laws_toOutcome : progA F.laws_toOutcome = some (.fn A.laws_toOutcome) := rfl
theorem pA_impl_ShowOutcome : progA F.impl_ShowOutcome = some (.fn A.impl_ShowOutcome) := rfl
theorem pA_laws_eqOutcome : progA F.laws_eqOutcome = some (.fn A.laws_eqOutcome) := rfl
theorem pA_spec_PlainText : progA F.spec_PlainText = some (.fn A.spec_PlainText) := rfl
theorem pA_impl_PlainText : progA F.impl_PlainText = some (.fn A.impl_PlainText) := rfl
theorem pA_laws_szClauseS : progA F.laws_szClauseS = some (.fn A.laws_szClauseS) := rfl
theorem pA_laws_szStringS : progA F.laws_szStringS = some (.fn A.laws_szStringS) := rfl
theorem pA_spec_ShowClause : progA F.spec_ShowClause = some (.fn A.spec_ShowClause) := rfl
theorem pA_laws_toClauseS : progA F.laws_toClauseS = some (.fn A.laws_toClauseS) := rfl
theorem pA_laws_toStringS : progA F.laws_toStringS = some (.fn A.laws_toStringS) := rfl
theorem pA_impl_ShowClause : progA F.impl_ShowClause = some (.fn A.impl_ShowClause) := rfl
theorem pA_laws_eqClauseS : progA F.laws_eqClauseS = some (.fn A.laws_eqClauseS) := rfl
theorem pA_laws_eqStringS : progA F.laws_eqStringS = some (.fn A.laws_eqStringS) := rfl
theorem pA_laws_szTerm : progA F.laws_szTerm = some (.fn A.laws_szTerm) := rfl
theorem pA_spec_TermOk : progA F.spec_TermOk = some (.fn A.spec_TermOk) := rfl
theorem pA_spec_PrioOf : progA F.spec_PrioOf = some (.fn A.spec_PrioOf) := rfl
theorem pA_spec_WritePlain : progA F.spec_WritePlain = some (.fn A.spec_WritePlain) := rfl
theorem pA_spec_ClauseTerm : progA F.spec_ClauseTerm = some (.fn A.spec_ClauseTerm) := rfl
theorem pA_spec_l28Write : progA F.spec_l28Write = some (.fn A.spec_l28Write) := rfl
theorem pA_spec_l27True : progA F.spec_l27True = some (.fn A.spec_l27True) := rfl
theorem pA_spec_l03Is : progA F.spec_l03Is = some (.fn A.spec_l03Is) := rfl
theorem pA_spec_l28Held : progA F.spec_l28Held = some (.fn A.spec_l28Held) := rfl
theorem pA_laws_toTerm : progA F.laws_toTerm = some (.fn A.laws_toTerm) := rfl
theorem pA_impl_TermOk : progA F.impl_TermOk = some (.fn A.impl_TermOk) := rfl
theorem pA_impl_PrioOf : progA F.impl_PrioOf = some (.fn A.impl_PrioOf) := rfl
theorem pA_impl_WritePlain : progA F.impl_WritePlain = some (.fn A.impl_WritePlain) := rfl
theorem pA_impl_ClauseTerm : progA F.impl_ClauseTerm = some (.fn A.impl_ClauseTerm) := rfl
theorem pA_impl_isAtom : progA F.impl_isAtom = some (.fn A.impl_isAtom) := rfl
theorem pA_impl_isStruct : progA F.impl_isStruct = some (.fn A.impl_isStruct) := rfl
theorem pA_impl_bracketed : progA F.impl_bracketed = some (.fn A.impl_bracketed) := rfl
theorem pA_laws_eqTerm : progA F.laws_eqTerm = some (.fn A.laws_eqTerm) := rfl
theorem pA_laws_szTermS : progA F.laws_szTermS = some (.fn A.laws_szTermS) := rfl
theorem pA_spec_l31Lines : progA F.spec_l31Lines = some (.fn A.spec_l31Lines) := rfl
theorem pA_spec_l19Lines : progA F.spec_l19Lines = some (.fn A.spec_l19Lines) := rfl
theorem pA_laws_toTermS : progA F.laws_toTermS = some (.fn A.laws_toTermS) := rfl
theorem pA_impl_inLines : progA F.impl_inLines = some (.fn A.impl_inLines) := rfl
theorem pA_impl_outcomeLines : progA F.impl_outcomeLines = some (.fn A.impl_outcomeLines) := rfl
theorem pA_laws_eqTermS : progA F.laws_eqTermS = some (.fn A.laws_eqTermS) := rfl
theorem pA_impl_within : progA F.impl_within = some (.fn A.impl_within) := rfl
theorem pA_impl_PredOf : progA F.impl_PredOf = some (.fn A.impl_PredOf) := rfl
theorem pA_spec_WriteTerm : progA F.spec_WriteTerm = some (.fn A.spec_WriteTerm) := rfl
theorem pA_impl_WriteTerm : progA F.impl_WriteTerm = some (.fn A.impl_WriteTerm) := rfl
theorem pA_spec_l03Count : progA F.spec_l03Count = some (.fn A.spec_l03Count) := rfl
theorem pA_spec_l03Right : progA F.spec_l03Right = some (.fn A.spec_l03Right) := rfl
theorem pA_spec_InfixOf : progA F.spec_InfixOf = some (.fn A.spec_InfixOf) := rfl
theorem pA_spec_l08ClauseTermRaw : progA F.spec_l08ClauseTermRaw = some (.fn A.spec_l08ClauseTermRaw) := rfl
theorem pA_spec_l34Term : progA F.spec_l34Term = some (.fn A.spec_l34Term) := rfl
theorem pA_spec_l07Write : progA F.spec_l07Write = some (.fn A.spec_l07Write) := rfl
theorem pA_spec_l28Row : progA F.spec_l28Row = some (.fn A.spec_l28Row) := rfl
theorem pA_spec_AtomText : progA F.spec_AtomText = some (.fn A.spec_AtomText) := rfl
theorem pA_impl_sized : progA F.impl_sized = some (.fn A.impl_sized) := rfl
theorem pA_impl_isInfix : progA F.impl_isInfix = some (.fn A.impl_isInfix) := rfl
theorem pA_impl_InfixOf : progA F.impl_InfixOf = some (.fn A.impl_InfixOf) := rfl
theorem pA_impl_plain : progA F.impl_plain = some (.fn A.impl_plain) := rfl
theorem pA_impl_structure : progA F.impl_structure = some (.fn A.impl_structure) := rfl
theorem pA_impl_copyTerm : progA F.impl_copyTerm = some (.fn A.impl_copyTerm) := rfl
theorem pA_spec_l01In : progA F.spec_l01In = some (.fn A.spec_l01In) := rfl
theorem pA_spec_PredOf : progA F.spec_PredOf = some (.fn A.spec_PredOf) := rfl
theorem pA_impl_Decimal : progA F.impl_Decimal = some (.fn A.impl_Decimal) := rfl
theorem pA_impl_NeatClause : progA F.impl_NeatClause = some (.fn A.impl_NeatClause) := rfl
theorem pA_impl_write : progA F.impl_write = some (.fn A.impl_write) := rfl
theorem pA_spec_l03One : progA F.spec_l03One = some (.fn A.spec_l03One) := rfl
theorem pA_spec_l03Two : progA F.spec_l03Two = some (.fn A.spec_l03Two) := rfl
theorem pA_spec_l34Terms : progA F.spec_l34Terms = some (.fn A.spec_l34Terms) := rfl
theorem pA_spec_Decimal : progA F.spec_Decimal = some (.fn A.spec_Decimal) := rfl
theorem pA_spec_l07Op : progA F.spec_l07Op = some (.fn A.spec_l07Op) := rfl
theorem pA_spec_l07Row : progA F.spec_l07Row = some (.fn A.spec_l07Row) := rfl
theorem pA_spec_SignsOf : progA F.spec_SignsOf = some (.fn A.spec_SignsOf) := rfl
theorem pA_impl_nameOk : progA F.impl_nameOk = some (.fn A.impl_nameOk) := rfl
theorem pA_impl_writeWith : progA F.impl_writeWith = some (.fn A.impl_writeWith) := rfl
theorem pA_impl_plain_1 : progA F.impl_plain_1 = some (.fn A.impl_plain_1) := rfl
theorem pA_impl_plain_2 : progA F.impl_plain_2 = some (.fn A.impl_plain_2) := rfl
theorem pA_impl_signText : progA F.impl_signText = some (.fn A.impl_signText) := rfl
theorem pA_impl_renamed : progA F.impl_renamed = some (.fn A.impl_renamed) := rfl
theorem pA_impl_copyTerm_1 : progA F.impl_copyTerm_1 = some (.fn A.impl_copyTerm_1) := rfl
theorem pA_spec_NeatClause : progA F.spec_NeatClause = some (.fn A.spec_NeatClause) := rfl
theorem pA_impl_Control : progA F.impl_Control = some (.fn A.impl_Control) := rfl
theorem pA_impl_VarsOf : progA F.impl_VarsOf = some (.fn A.impl_VarsOf) := rfl
theorem pA_impl_fresh : progA F.impl_fresh = some (.fn A.impl_fresh) := rfl
theorem pA_impl_write_1 : progA F.impl_write_1 = some (.fn A.impl_write_1) := rfl
theorem pA_spec_l03Name : progA F.spec_l03Name = some (.fn A.spec_l03Name) := rfl
theorem pA_spec_l01Figure : progA F.spec_l01Figure = some (.fn A.spec_l01Figure) := rfl
theorem pA_spec_PrefixOf : progA F.spec_PrefixOf = some (.fn A.spec_PrefixOf) := rfl
theorem pA_spec_l05Blank : progA F.spec_l05Blank = some (.fn A.spec_l05Blank) := rfl
theorem pA_spec_l05Sign : progA F.spec_l05Sign = some (.fn A.spec_l05Sign) := rfl
theorem pA_impl_isOp : progA F.impl_isOp = some (.fn A.impl_isOp) := rfl
theorem pA_impl_AtomText : progA F.impl_AtomText = some (.fn A.impl_AtomText) := rfl
theorem pA_impl_isPair : progA F.impl_isPair = some (.fn A.impl_isPair) := rfl
theorem pA_spec_VarsOf : progA F.spec_VarsOf = some (.fn A.spec_VarsOf) := rfl
theorem pA_spec_l11Named : progA F.spec_l11Named = some (.fn A.spec_l11Named) := rfl
theorem pA_slices_Contains_string_string : progA F.slices_Contains_string_string = some (.fn A.slices_Contains_string_string) := rfl
theorem pA_impl_addVars : progA F.impl_addVars = some (.fn A.impl_addVars) := rfl
theorem pA_impl_fresh_1 : progA F.impl_fresh_1 = some (.fn A.impl_fresh_1) := rfl
theorem pA_slices_Index_int_int : progA F.slices_Index_int_int = some (.fn A.slices_Index_int_int) := rfl
theorem pA_spec_l05Small : progA F.spec_l05Small = some (.fn A.spec_l05Small) := rfl
theorem pA_spec_l05Great : progA F.spec_l05Great = some (.fn A.spec_l05Great) := rfl
theorem pA_spec_l05Run : progA F.spec_l05Run = some (.fn A.spec_l05Run) := rfl
theorem pA_spec_l05Figure : progA F.spec_l05Figure = some (.fn A.spec_l05Figure) := rfl
theorem pA_spec_l05Quoted : progA F.spec_l05Quoted = some (.fn A.spec_l05Quoted) := rfl
theorem pA_spec_l05End : progA F.spec_l05End = some (.fn A.spec_l05End) := rfl
theorem pA_spec_SymbolByte : progA F.spec_SymbolByte = some (.fn A.spec_SymbolByte) := rfl
theorem pA_impl_PrefixOf : progA F.impl_PrefixOf = some (.fn A.impl_PrefixOf) := rfl
theorem pA_impl_SignsOf : progA F.impl_SignsOf = some (.fn A.impl_SignsOf) := rfl
theorem pA_spec_Control : progA F.spec_Control = some (.fn A.spec_Control) := rfl
theorem pA_spec_l03Vars : progA F.spec_l03Vars = some (.fn A.spec_l03Vars) := rfl
theorem pA_spec_l03At : progA F.spec_l03At = some (.fn A.spec_l03At) := rfl
theorem pA_slices_Index_string_string : progA F.slices_Index_string_string = some (.fn A.slices_Index_string_string) := rfl
theorem pA_slices_Contains_int_int : progA F.slices_Contains_int_int = some (.fn A.slices_Contains_int_int) := rfl
theorem pA_spec_l05Word : progA F.spec_l05Word = some (.fn A.spec_l05Word) := rfl
theorem pA_impl_run : progA F.impl_run = some (.fn A.impl_run) := rfl
theorem pA_impl_SignsOf_1 : progA F.impl_SignsOf_1 = some (.fn A.impl_SignsOf_1) := rfl
theorem pA_impl_nextSign : progA F.impl_nextSign = some (.fn A.impl_nextSign) := rfl
theorem pA_spec_l03Has : progA F.spec_l03Has = some (.fn A.spec_l03Has) := rfl
theorem pA_impl_endsHere : progA F.impl_endsHere = some (.fn A.impl_endsHere) := rfl
theorem pA_impl_lower : progA F.impl_lower = some (.fn A.impl_lower) := rfl
theorem pA_impl_upper : progA F.impl_upper = some (.fn A.impl_upper) := rfl
theorem pA_impl_wordByte : progA F.impl_wordByte = some (.fn A.impl_wordByte) := rfl
theorem pA_impl_figure : progA F.impl_figure = some (.fn A.impl_figure) := rfl
theorem pA_impl_SymbolByte : progA F.impl_SymbolByte = some (.fn A.impl_SymbolByte) := rfl
theorem pA_impl_nextSign_1 : progA F.impl_nextSign_1 = some (.fn A.impl_nextSign_1) := rfl
theorem pA_strconv_Itoa : progA F.strconv_Itoa = some (.prim itoaP) := rfl
theorem pA_strings_Join : progA F.strings_Join = some (.prim joinP) := rfl
theorem pA_strings_IndexByte : progA F.strings_IndexByte = some (.prim ixbP) := rfl
end Go.Vm
