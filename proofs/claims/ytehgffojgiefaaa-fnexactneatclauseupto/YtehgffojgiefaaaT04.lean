import Derived.Test.YtehgffojgiefaaaT03

set_option autoImplicit false
set_option maxRecDepth 100000
namespace Go.Vm
abbrev F.main_main : Nat := 0
abbrev F.gosem_cut : Nat := 1
abbrev F.gosem_cut_init : Nat := 2
abbrev F.laws_FnExactPrioOf : Nat := 3
abbrev F.laws_FnExactNeatClause : Nat := 4
abbrev F.laws_FnExactShowSession : Nat := 5
abbrev F.laws_FnExactClauseAt : Nat := 6
abbrev F.laws_FnExactSameSet : Nat := 7
abbrev F.laws_szTerm : Nat := 8
abbrev F.spec_PrioOf : Nat := 9
abbrev F.laws_toTerm : Nat := 10
abbrev F.impl_PrioOf : Nat := 11
abbrev F.laws_eqTerm : Nat := 12
abbrev F.laws_szClause : Nat := 13
abbrev F.spec_NeatClause : Nat := 14
abbrev F.laws_toClause : Nat := 15
abbrev F.impl_NeatClause : Nat := 16
abbrev F.laws_eqClause : Nat := 17
abbrev F.laws_markClause : Nat := 18
abbrev F.laws_heldClause : Nat := 19
abbrev F.laws_szSession : Nat := 20
abbrev F.spec_ShowSession : Nat := 21
abbrev F.laws_toSession : Nat := 22
abbrev F.impl_ShowSession : Nat := 23
abbrev F.laws_eqSession : Nat := 24
abbrev F.laws_szDb : Nat := 25
abbrev F.spec_ClauseAt : Nat := 26
abbrev F.laws_toDb : Nat := 27
abbrev F.impl_ClauseAt : Nat := 28
abbrev F.laws_eqDb : Nat := 29
abbrev F.spec_SameSet : Nat := 30
abbrev F.impl_SameSet : Nat := 31
abbrev F.laws_szTermS : Nat := 32
abbrev F.spec_InfixOf : Nat := 33
abbrev F.laws_toTermS : Nat := 34
abbrev F.impl_isInfix : Nat := 35
abbrev F.impl_InfixOf : Nat := 36
abbrev F.laws_eqTermS : Nat := 37
abbrev F.spec_ClauseTerm : Nat := 38
abbrev F.spec_VarsOf : Nat := 39
abbrev F.spec_l11Named : Nat := 40
abbrev F.impl_fresh : Nat := 41
abbrev F.impl_ClauseTerm : Nat := 42
abbrev F.laws_markTerm : Nat := 43
abbrev F.laws_heldTerm : Nat := 44
abbrev F.laws_szFileS : Nat := 45
abbrev F.laws_szStringS : Nat := 46
abbrev F.spec_l31Lines : Nat := 47
abbrev F.laws_toFileS : Nat := 48
abbrev F.laws_toStringS : Nat := 49
abbrev F.impl_inLines : Nat := 50
abbrev F.laws_eqFileS : Nat := 51
abbrev F.laws_eqStringS : Nat := 52
abbrev F.laws_szClauseS : Nat := 53
abbrev F.spec_l29Same : Nat := 54
abbrev F.laws_toClauseS : Nat := 55
abbrev F.slices_IndexFunc_impl_Clause_impl_Clause : Nat := 56
abbrev F.impl_ClauseAt_1 : Nat := 57
abbrev F.impl_alikeClauses : Nat := 58
abbrev F.laws_eqClauseS : Nat := 59
abbrev F.spec_DiffDb : Nat := 60
abbrev F.impl_DiffDb : Nat := 61
abbrev F.spec_l08ClauseTermRaw : Nat := 62
abbrev F.spec_l34Term : Nat := 63
abbrev F.spec_l03Vars : Nat := 64
abbrev F.spec_l03At : Nat := 65
abbrev F.impl_VarsOf : Nat := 66
abbrev F.impl_renamed : Nat := 67
abbrev F.impl_fresh_1 : Nat := 68
abbrev F.slices_Index_int_int : Nat := 69
abbrev F.impl_structure : Nat := 70
abbrev F.impl_copyTerm : Nat := 71
abbrev F.laws_markTermS : Nat := 72
abbrev F.laws_heldTermS : Nat := 73
abbrev F.laws_szFile : Nat := 74
abbrev F.laws_toFile : Nat := 75
abbrev F.laws_eqFile : Nat := 76
abbrev F.spec_Variant : Nat := 77
abbrev F.impl_variantClauses : Nat := 78
abbrev F.spec_l29DiffDbRaw : Nat := 79
abbrev F.spec_l34Clauses : Nat := 80
abbrev F.impl_more : Nat := 81
abbrev F.spec_l03Two : Nat := 82
abbrev F.spec_l34Terms : Nat := 83
abbrev F.spec_l03Has : Nat := 84
abbrev F.impl_addVars : Nat := 85
abbrev F.impl_copyTerm_1 : Nat := 86
abbrev F.laws_markText : Nat := 87
abbrev F.spec_l03Like : Nat := 88
abbrev F.impl_Variant : Nat := 89
abbrev F.spec_l29Extra : Nat := 90
abbrev F.spec_l34Clause : Nat := 91
abbrev F.impl_more_1 : Nat := 92
abbrev F.impl_copyClause : Nat := 93
abbrev F.slices_Contains_int_int : Nat := 94
abbrev F.impl_SameTerm : Nat := 95
abbrev F.impl_Variant_1 : Nat := 96
abbrev F.slices_EqualFunc_impl_Term_impl_Term_impl_Term_impl_Term : Nat := 97
abbrev F.runtime_boundsError_Error : Nat := 98
abbrev F.runtime_boundsError_RuntimeError : Nat := 99
abbrev F.runtime_errorString_Error : Nat := 100
abbrev F.runtime_errorString_RuntimeError : Nat := 101
abbrev F.runtime_plainError_Error : Nat := 102
abbrev F.runtime_plainError_RuntimeError : Nat := 103
abbrev F.runtime_errorAddressString_Error : Nat := 104
abbrev F.runtime_errorAddressString_RuntimeError : Nat := 105
abbrev F.runtime_TypeAssertionError_Error : Nat := 106
abbrev F.runtime_TypeAssertionError_RuntimeError : Nat := 107
abbrev F.runtime_PanicNilError_Error : Nat := 108
abbrev F.runtime_PanicNilError_RuntimeError : Nat := 109
abbrev F.internal_abi_Type_Align : Nat := 110
abbrev F.internal_runtime_maps_unhashableTypeError_Error : Nat := 111
abbrev F.internal_runtime_maps_unhashableTypeError_RuntimeError : Nat := 112
abbrev F.internal_abi_Kind_String : Nat := 113
def C.laws_FnExactPrioOf_0 : AC :=
  (.keep []
          (.seq
           (.reg [.mv 2 (.c (B true))])
          (.keep [2]
           .ret)))
def C.laws_FnExactPrioOf_1 : AC :=
  (.keep [1, 4, 5]
        (.seq
         (.reg [.ld 17 true 4 (.t 5),
           .call (some 18) (.c (Fc F.impl_PrioOf)) [(.t 17)] (.ro true),
           .mv 6 (.t 18)])
        (.seq
         (.seq
          (.reg [.mv 19 (.t 6),
            .mv 20 (.t 4),
            .bin 21 .neq (.t 19) (.t 20)])
         (.cond (.t 21)
          (.seq
           (.reg [.mv 2 (.c (B false))])
          (.keep [2]
           .ret))
          .skip))
        (.keep [1, 5]
         (.seq
          (.seq
           (.dreg [⟨0, [(0, 0), (0, 1), (0, 2), (0, 3), (1, 0), (5, 0), (15, 0), (16, 0), (16, 1), (16, 2), (16, 3)]⟩, ⟨0, [(0, 0), (0, 1), (0, 2), (0, 3), (1, 0)]⟩, ⟨2, [(0, 0), (0, 1), (0, 2), (0, 3), (1, 0), (23, 0)]⟩, ⟨2, [(0, 0), (0, 1), (0, 2), (0, 3), (1, 0), (5, 0), (15, 0), (16, 0), (16, 1), (16, 2), (16, 3), (22, 0), (23, 0), (24, 0), (24, 1), (24, 2), (24, 3)]⟩, ⟨0, []⟩]
            [.ldq 22 true 4 (.t 5),
             .ldq 23 true 4 (.t 1),
             .call (some 24) (.c (Fc F.laws_toTerm)) [(.t 23)] (.ro true),
             .call (some 25) (.c (Fc F.laws_eqTerm)) [(.t 22), (.t 24)] (.ro true),
             .un 26 .not (.t 25)])
          (.keep [26]
           (.cond (.t 26)
            (.seq
             (.reg [.mv 2 (.c (B false))])
            (.keep [2]
             .ret))
            .skip)))
         C.laws_FnExactPrioOf_0)))))
def C.laws_FnExactPrioOf_2 : AC :=
  (.keep [1, 3]
     (.seq
      (.seq
       (.reg [.mv 10 (.t 3),
         .bin 11 .lss (.t 10) (.c (I 0))])
      (.cond (.t 11)
       (.seq
        (.reg [.mv 2 (.c (B true))])
       (.keep [2]
        .ret))
       .skip))
     (.keep [1]
      (.seq
       (.reg [.ld 12 true 4 (.t 1),
         .call (some 13) (.c (Fc F.laws_toTerm)) [(.t 12)] (.ro true),
         .call (some 14) (.c (Fc F.spec_PrioOf)) [(.t 13)] (.ro true),
         .mv 4 (.t 14)])
      (.keep [1, 4]
       (.seq
        (.reg [.ld 15 true 4 (.t 1),
          .call (some 16) (.c (Fc F.laws_toTerm)) [(.t 15)] (.ro true),
          .new 5 (.c (.a [(I 0), (S []), (I 0), (.n 4)])),
          .st 4 (.t 5) (.t 16)])
       C.laws_FnExactPrioOf_1))))))
def A.laws_FnExactPrioOf : AF where
  nargs := 1
  ntmps := 27
  res := [.tmp 2]
  body :=
    (.seq
     (.reg [.new 1 (.t 0),
       .mv 2 (.c (B false))])
    (.seq
     (.reg [.mv 3 (.c (I 1048576))])
    (.seq
     (.reg [.ld 7 true 4 (.t 1),
       .mv 8 (.t 3),
       .call (some 9) (.c (Fc F.laws_szTerm)) [(.t 7), (.t 8)] (.ro true),
       .mv 3 (.t 9)])
    C.laws_FnExactPrioOf_2)))
def C.laws_FnExactNeatClause_0 : AC :=
  (.keep [2]
                       .ret)
def C.laws_FnExactNeatClause_1 : AC :=
  (.keep [8, 9]
                    (.seq
                     (.seq
                      (.reg [.mv 64 (.t 9),
                        .bin 65 .lss (.t 64) (.c (I 0))])
                     (.cond (.t 65)
                      (.seq
                       (.reg [.mv 2 (.c (B false))])
                      (.keep [2]
                       .ret))
                      .skip))
                    (.keep [8, 9]
                     (.seq
                      (.seq
                       (.reg [.mv 66 (.t 9),
                         .mv 67 (.t 8),
                         .bin 68 .neq (.t 66) (.t 67)])
                      (.cond (.t 68)
                       (.seq
                        (.reg [.mv 2 (.c (B false))])
                       (.keep [2]
                        .ret))
                       .skip))
                     (.keep []
                      (.seq
                       (.reg [.mv 2 (.c (B true))])
                      C.laws_FnExactNeatClause_0))))))
def C.laws_FnExactNeatClause_2 : AC :=
  (.keep [4, 6, 8, 10]
                  (.seq
                   (.seq
                    (.reg [.ld 57 true 9 (.t 10),
                      .ld 58 true 9 (.t 4),
                      .call (some 59) (.c (Fc F.laws_eqClause)) [(.t 57), (.t 58)] (.ro true),
                      .un 60 .not (.t 59)])
                   (.keep [6, 8, 60]
                    (.cond (.t 60)
                     (.seq
                      (.reg [.mv 2 (.c (B false))])
                     (.keep [2]
                      .ret))
                     .skip)))
                  (.keep [6, 8]
                   (.seq
                    (.reg [.mv 9 (.c (I 1))])
                   (.seq
                    (.reg [.ld 61 true 9 (.t 6),
                      .mv 62 (.t 9),
                      .call (some 63) (.c (Fc F.laws_heldClause)) [(.t 61), (.t 62)] (.ro true),
                      .mv 9 (.t 63)])
                   C.laws_FnExactNeatClause_1)))))
def C.laws_FnExactNeatClause_3 : AC :=
  (.keep [1, 4, 6, 8, 9]
               (.seq
                (.seq
                 (.reg [.mv 49 (.t 9),
                   .bin 50 .lss (.t 49) (.c (I 0))])
                (.cond (.t 50)
                 (.seq
                  (.reg [.mv 2 (.c (B false))])
                 (.keep [2]
                  .ret))
                 .skip))
               (.keep [1, 4, 6, 8, 9]
                (.seq
                 (.seq
                  (.reg [.mv 51 (.t 9),
                    .mv 52 (.t 8),
                    .bin 53 .neq (.t 51) (.t 52)])
                 (.cond (.t 53)
                  (.seq
                   (.reg [.mv 2 (.c (B false))])
                  (.keep [2]
                   .ret))
                  .skip))
                (.keep [1, 4, 6, 8]
                 (.seq
                  (.reg [.ld 54 true 9 (.t 1),
                    .call (some 55) (.c (Fc F.laws_toClause)) [(.t 54)] (.ro true),
                    .call (some 56) (.c (Fc F.impl_NeatClause)) [(.t 55)] (.ro true),
                    .new 10 (.c (.a [(I 0), (S []), (I 0), (.n 4), (I 0), (S []), (I 0), (.n 4), (S [])])),
                    .st 9 (.t 10) (.t 56)])
                 C.laws_FnExactNeatClause_2))))))
def C.laws_FnExactNeatClause_4 : AC :=
  (.keep [1, 4, 6]
             (.seq
              (.reg [.mv 8 (.c (I 1))])
             (.seq
              (.reg [.ld 43 true 9 (.t 6),
                .mv 44 (.t 8),
                .call (some 45) (.c (Fc F.laws_markClause)) [(.t 43), (.t 44)] (.io false),
                .mv 8 (.t 45)])
             (.keep [1, 4, 6, 8]
              (.seq
               (.reg [.mv 9 (.c (I 1))])
              (.seq
               (.reg [.ld 46 true 9 (.t 6),
                 .mv 47 (.t 9),
                 .call (some 48) (.c (Fc F.laws_heldClause)) [(.t 46), (.t 47)] (.ro true),
                 .mv 9 (.t 48)])
              C.laws_FnExactNeatClause_3))))))
def C.laws_FnExactNeatClause_5 : AC :=
  (.keep [1, 4, 5, 6]
           (.seq
            (.reg [.mv 7 (.c (I 1))])
           (.seq
            (.reg [.ld 32 true 9 (.t 5),
              .mv 33 (.t 7),
              .call (some 34) (.c (Fc F.laws_markClause)) [(.t 32), (.t 33)] (.io false),
              .mv 7 (.t 34)])
           (.keep [1, 4, 6, 7]
            (.seq
             (.seq
              (.reg [.mv 35 (.t 7),
                .bin 36 .lss (.t 35) (.c (I 0)),
                .mv 37 (.t 36),
                .gd 37 false (some 38) (.ld 38 true 9 (.t 6)),
                .gd 37 false (some 39) (.ld 39 true 9 (.t 4)),
                .gd 37 false (some 40) (.call (some 40) (.c (Fc F.laws_eqClause)) [(.t 38), (.t 39)] (.ro true)),
                .gd 37 false (some 41) (.un 41 .not (.t 40)),
                .pick 42 (.t 37) (.c (B true)) (.t 41)])
             (.keep [1, 4, 6, 42]
              (.cond (.t 42)
               (.seq
                (.reg [.mv 2 (.c (B false))])
               (.keep [2]
                .ret))
               .skip)))
            C.laws_FnExactNeatClause_4)))))
def C.laws_FnExactNeatClause_6 : AC :=
  (.keep [1, 4, 5]
        (.seq
         (.reg [.ld 21 true 9 (.t 5),
           .call (some 22) (.c (Fc F.impl_NeatClause)) [(.t 21)] (.ro false),
           .new 6 (.c (.a [(I 0), (S []), (I 0), (.n 4), (I 0), (S []), (I 0), (.n 4), (S [])])),
           .st 9 (.t 6) (.t 22)])
        (.keep [1, 4, 5, 6]
         (.seq
          (.seq
           (.reg [.ld 23 true 9 (.t 6),
             .ld 24 true 9 (.t 4),
             .call (some 25) (.c (Fc F.laws_eqClause)) [(.t 23), (.t 24)] (.ro true),
             .un 26 .not (.t 25)])
          (.keep [1, 4, 5, 6, 26]
           (.cond (.t 26)
            (.seq
             (.reg [.mv 2 (.c (B false))])
            (.keep [2]
             .ret))
            .skip)))
         (.keep [1, 4, 5, 6]
          (.seq
           (.seq
            (.dreg [⟨0, [(0, 0), (0, 1), (0, 2), (0, 3), (1, 0), (5, 0), (19, 0), (20, 0), (20, 1), (20, 2), (20, 3)]⟩, ⟨0, [(0, 0), (0, 1), (0, 2), (0, 3), (1, 0)]⟩, ⟨2, [(0, 0), (0, 1), (0, 2), (0, 3), (1, 0), (28, 0)]⟩, ⟨2, [(0, 0), (0, 1), (0, 2), (0, 3), (1, 0), (5, 0), (19, 0), (20, 0), (20, 1), (20, 2), (20, 3), (27, 0), (28, 0), (29, 0), (29, 1), (29, 2), (29, 3)]⟩, ⟨0, []⟩]
             [.ldq 27 true 9 (.t 5),
              .ldq 28 true 9 (.t 1),
              .call (some 29) (.c (Fc F.laws_toClause)) [(.t 28)] (.ro true),
              .call (some 30) (.c (Fc F.laws_eqClause)) [(.t 27), (.t 29)] (.ro true),
              .un 31 .not (.t 30)])
           (.keep [1, 4, 5, 6, 31]
            (.cond (.t 31)
             (.seq
              (.reg [.mv 2 (.c (B false))])
             (.keep [2]
              .ret))
             .skip)))
          C.laws_FnExactNeatClause_5))))))
def C.laws_FnExactNeatClause_7 : AC :=
  (.keep [1, 3]
     (.seq
      (.seq
       (.reg [.mv 14 (.t 3),
         .bin 15 .lss (.t 14) (.c (I 0))])
      (.cond (.t 15)
       (.seq
        (.reg [.mv 2 (.c (B true))])
       (.keep [2]
        .ret))
       .skip))
     (.keep [1]
      (.seq
       (.reg [.ld 16 true 9 (.t 1),
         .call (some 17) (.c (Fc F.laws_toClause)) [(.t 16)] (.ro true),
         .call (some 18) (.c (Fc F.spec_NeatClause)) [(.t 17)] (.ro true),
         .new 4 (.c (.a [(I 0), (S []), (I 0), (.n 4), (I 0), (S []), (I 0), (.n 4), (S [])])),
         .st 9 (.t 4) (.t 18)])
      (.keep [1, 4]
       (.seq
        (.reg [.ld 19 true 9 (.t 1),
          .call (some 20) (.c (Fc F.laws_toClause)) [(.t 19)] (.ro false),
          .new 5 (.c (.a [(I 0), (S []), (I 0), (.n 4), (I 0), (S []), (I 0), (.n 4), (S [])])),
          .st 9 (.t 5) (.t 20)])
       C.laws_FnExactNeatClause_6))))))
def A.laws_FnExactNeatClause : AF where
  nargs := 1
  ntmps := 69
  res := [.tmp 2]
  body :=
    (.seq
     (.reg [.new 1 (.t 0),
       .mv 2 (.c (B false))])
    (.seq
     (.reg [.mv 3 (.c (I 1048576))])
    (.seq
     (.reg [.ld 11 true 9 (.t 1),
       .mv 12 (.t 3),
       .call (some 13) (.c (Fc F.laws_szClause)) [(.t 11), (.t 12)] (.ro true),
       .mv 3 (.t 13)])
    C.laws_FnExactNeatClause_7)))
def C.laws_FnExactShowSession_0 : AC :=
  (.keep []
          (.seq
           (.reg [.mv 2 (.c (B true))])
          (.keep [2]
           .ret)))
def C.laws_FnExactShowSession_1 : AC :=
  (.keep [1, 4, 5]
        (.seq
         (.reg [.ld 17 true 5 (.t 5),
           .call (some 18) (.c (Fc F.impl_ShowSession)) [(.t 17)] (.ro true),
           .mv 6 (.t 18)])
        (.seq
         (.seq
          (.reg [.mv 19 (.t 6),
            .mv 20 (.t 4),
            .bin 21 .neq (.t 19) (.t 20)])
         (.cond (.t 21)
          (.seq
           (.reg [.mv 2 (.c (B false))])
          (.keep [2]
           .ret))
          .skip))
        (.keep [1, 5]
         (.seq
          (.seq
           (.dreg [⟨0, [(0, 0), (0, 1), (0, 2), (0, 3), (1, 0), (5, 0), (15, 0), (16, 0), (16, 1), (16, 2), (16, 3)]⟩, ⟨0, [(0, 0), (0, 1), (0, 2), (0, 3), (1, 0)]⟩, ⟨2, [(0, 0), (0, 1), (0, 2), (0, 3), (1, 0), (23, 0)]⟩, ⟨2, [(0, 0), (0, 1), (0, 2), (0, 3), (1, 0), (5, 0), (15, 0), (16, 0), (16, 1), (16, 2), (16, 3), (22, 0), (23, 0), (24, 0), (24, 1), (24, 2), (24, 3)]⟩, ⟨0, []⟩]
            [.ldq 22 true 5 (.t 5),
             .ldq 23 true 5 (.t 1),
             .call (some 24) (.c (Fc F.laws_toSession)) [(.t 23)] (.ro true),
             .call (some 25) (.c (Fc F.laws_eqSession)) [(.t 22), (.t 24)] (.ro true),
             .un 26 .not (.t 25)])
          (.keep [26]
           (.cond (.t 26)
            (.seq
             (.reg [.mv 2 (.c (B false))])
            (.keep [2]
             .ret))
            .skip)))
         C.laws_FnExactShowSession_0)))))
def C.laws_FnExactShowSession_2 : AC :=
  (.keep [1, 3]
     (.seq
      (.seq
       (.reg [.mv 10 (.t 3),
         .bin 11 .lss (.t 10) (.c (I 0))])
      (.cond (.t 11)
       (.seq
        (.reg [.mv 2 (.c (B true))])
       (.keep [2]
        .ret))
       .skip))
     (.keep [1]
      (.seq
       (.reg [.ld 12 true 5 (.t 1),
         .call (some 13) (.c (Fc F.laws_toSession)) [(.t 12)] (.ro true),
         .call (some 14) (.c (Fc F.spec_ShowSession)) [(.t 13)] (.ro true),
         .mv 4 (.t 14)])
      (.keep [1, 4]
       (.seq
        (.reg [.ld 15 true 5 (.t 1),
          .call (some 16) (.c (Fc F.laws_toSession)) [(.t 15)] (.ro true),
          .new 5 (.c (.a [(.n 2), (.n 9), (.n 1), (.n 1), (S [])])),
          .st 5 (.t 5) (.t 16)])
       C.laws_FnExactShowSession_1))))))
def A.laws_FnExactShowSession : AF where
  nargs := 1
  ntmps := 27
  res := [.tmp 2]
  body :=
    (.seq
     (.reg [.new 1 (.t 0),
       .mv 2 (.c (B false))])
    (.seq
     (.reg [.mv 3 (.c (I 1048576))])
    (.seq
     (.reg [.ld 7 true 5 (.t 1),
       .mv 8 (.t 3),
       .call (some 9) (.c (Fc F.laws_szSession)) [(.t 7), (.t 8)] (.ro true),
       .mv 3 (.t 9)])
    C.laws_FnExactShowSession_2)))
def C.laws_FnExactClauseAt_0 : AC :=
  (.keep [3, 8]
              (.seq
               (.seq
                (.dreg [⟨0, [(1, 0), (1, 1), (1, 2), (1, 3), (3, 0), (8, 0), (27, 0), (28, 0), (28, 1), (28, 2), (28, 3)]⟩, ⟨0, [(1, 0), (1, 1), (1, 2), (1, 3), (3, 0)]⟩, ⟨2, [(1, 0), (1, 1), (1, 2), (1, 3), (3, 0), (41, 0)]⟩, ⟨2, [(1, 0), (1, 1), (1, 2), (1, 3), (3, 0), (8, 0), (27, 0), (28, 0), (28, 1), (28, 2), (28, 3), (40, 0), (41, 0), (42, 0), (42, 1), (42, 2), (42, 3)]⟩, ⟨0, []⟩]
                 [.ldq 40 true 9 (.t 8),
                  .ldq 41 true 9 (.t 3),
                  .call (some 42) (.c (Fc F.laws_toClause)) [(.t 41)] (.ro true),
                  .call (some 43) (.c (Fc F.laws_eqClause)) [(.t 40), (.t 42)] (.ro true),
                  .un 44 .not (.t 43)])
               (.keep [44]
                (.cond (.t 44)
                 (.seq
                  (.reg [.mv 4 (.c (B false))])
                 (.keep [4]
                  .ret))
                 .skip)))
              (.keep []
               (.seq
                (.reg [.mv 4 (.c (B true))])
               (.keep [4]
                .ret)))))
def C.laws_FnExactClauseAt_1 : AC :=
  (.keep [2, 3, 6, 7, 8]
           (.seq
            (.reg [.ld 29 true 2 (.t 7),
              .ld 30 true 9 (.t 8),
              .call (some 31) (.c (Fc F.impl_ClauseAt)) [(.t 29), (.t 30)] (.ro true),
              .mv 9 (.t 31)])
           (.keep [2, 3, 6, 7, 8, 9]
            (.seq
             (.seq
              (.reg [.mv 32 (.t 9),
                .mv 33 (.t 6),
                .bin 34 .neq (.t 32) (.t 33)])
             (.cond (.t 34)
              (.seq
               (.reg [.mv 4 (.c (B false))])
              (.keep [4]
               .ret))
              .skip))
            (.keep [2, 3, 7, 8]
             (.seq
              (.seq
               (.dreg [⟨0, [(0, 0), (0, 1), (0, 2), (0, 3), (2, 0), (7, 0), (25, 0), (26, 0), (26, 1), (26, 2), (26, 3)]⟩, ⟨0, [(0, 0), (0, 1), (0, 2), (0, 3), (2, 0)]⟩, ⟨2, [(0, 0), (0, 1), (0, 2), (0, 3), (2, 0), (36, 0)]⟩, ⟨2, [(0, 0), (0, 1), (0, 2), (0, 3), (2, 0), (7, 0), (25, 0), (26, 0), (26, 1), (26, 2), (26, 3), (35, 0), (36, 0), (37, 0), (37, 1), (37, 2), (37, 3)]⟩, ⟨0, []⟩]
                [.ldq 35 true 2 (.t 7),
                 .ldq 36 true 2 (.t 2),
                 .call (some 37) (.c (Fc F.laws_toDb)) [(.t 36)] (.ro true),
                 .call (some 38) (.c (Fc F.laws_eqDb)) [(.t 35), (.t 37)] (.ro true),
                 .un 39 .not (.t 38)])
              (.keep [3, 8, 39]
               (.cond (.t 39)
                (.seq
                 (.reg [.mv 4 (.c (B false))])
                (.keep [4]
                 .ret))
                .skip)))
             C.laws_FnExactClauseAt_0))))))
def C.laws_FnExactClauseAt_2 : AC :=
  (.keep [2, 3]
        (.seq
         (.dreg [⟨0, [(0, 0), (0, 1), (0, 2), (0, 3), (2, 0)]⟩, ⟨2, [(0, 0), (0, 1), (0, 2), (0, 3), (2, 0), (20, 0)]⟩, ⟨0, [(1, 0), (1, 1), (1, 2), (1, 3), (3, 0)]⟩, ⟨2, [(1, 0), (1, 1), (1, 2), (1, 3), (3, 0), (22, 0)]⟩, ⟨2, [(0, 0), (0, 1), (0, 2), (0, 3), (1, 0), (1, 1), (1, 2), (1, 3), (2, 0), (3, 0), (20, 0), (21, 0), (21, 1), (21, 2), (21, 3), (22, 0), (23, 0), (23, 1), (23, 2), (23, 3)]⟩, ⟨0, []⟩]
          [.ldq 20 true 2 (.t 2),
           .call (some 21) (.c (Fc F.laws_toDb)) [(.t 20)] (.ro true),
           .ldq 22 true 9 (.t 3),
           .call (some 23) (.c (Fc F.laws_toClause)) [(.t 22)] (.ro true),
           .call (some 24) (.c (Fc F.spec_ClauseAt)) [(.t 21), (.t 23)] (.ro true),
           .mv 6 (.t 24)])
        (.keep [2, 3, 6]
         (.seq
          (.reg [.ld 25 true 2 (.t 2),
            .call (some 26) (.c (Fc F.laws_toDb)) [(.t 25)] (.ro true),
            .new 7 (.c (.a [(.n 9), (.n 1)])),
            .st 2 (.t 7) (.t 26)])
         (.keep [2, 3, 6, 7]
          (.seq
           (.reg [.ld 27 true 9 (.t 3),
             .call (some 28) (.c (Fc F.laws_toClause)) [(.t 27)] (.ro true),
             .new 8 (.c (.a [(I 0), (S []), (I 0), (.n 4), (I 0), (S []), (I 0), (.n 4), (S [])])),
             .st 9 (.t 8) (.t 28)])
          C.laws_FnExactClauseAt_1))))))
def C.laws_FnExactClauseAt_3 : AC :=
  (.keep [2, 3, 5]
     (.seq
      (.seq
       (.reg [.mv 13 (.t 5),
         .bin 14 .lss (.t 13) (.c (I 0))])
      (.cond (.t 14)
       (.seq
        (.reg [.mv 4 (.c (B true))])
       (.keep [4]
        .ret))
       .skip))
     (.keep [2, 3, 5]
      (.seq
       (.reg [.ld 15 true 9 (.t 3),
         .mv 16 (.t 5),
         .call (some 17) (.c (Fc F.laws_szClause)) [(.t 15), (.t 16)] (.ro true),
         .mv 5 (.t 17)])
      (.keep [2, 3, 5]
       (.seq
        (.seq
         (.reg [.mv 18 (.t 5),
           .bin 19 .lss (.t 18) (.c (I 0))])
        (.cond (.t 19)
         (.seq
          (.reg [.mv 4 (.c (B true))])
         (.keep [4]
          .ret))
         .skip))
       C.laws_FnExactClauseAt_2))))))
def A.laws_FnExactClauseAt : AF where
  nargs := 2
  ntmps := 45
  res := [.tmp 4]
  body :=
    (.seq
     (.reg [.new 2 (.t 0),
       .new 3 (.t 1),
       .mv 4 (.c (B false))])
    (.seq
     (.reg [.mv 5 (.c (I 1048576))])
    (.seq
     (.reg [.ld 10 true 2 (.t 2),
       .mv 11 (.t 5),
       .call (some 12) (.c (Fc F.laws_szDb)) [(.t 10), (.t 11)] (.ro true),
       .mv 5 (.t 12)])
    C.laws_FnExactClauseAt_3)))
def C.laws_FnExactSameSet_0 : AC :=
  (.keep [3, 8]
              (.seq
               (.seq
                (.dreg [⟨0, [(1, 0), (1, 1), (1, 2), (1, 3), (3, 0), (8, 0), (27, 0), (28, 0), (28, 1), (28, 2), (28, 3)]⟩, ⟨0, [(1, 0), (1, 1), (1, 2), (1, 3), (3, 0)]⟩, ⟨2, [(1, 0), (1, 1), (1, 2), (1, 3), (3, 0), (41, 0)]⟩, ⟨2, [(1, 0), (1, 1), (1, 2), (1, 3), (3, 0), (8, 0), (27, 0), (28, 0), (28, 1), (28, 2), (28, 3), (40, 0), (41, 0), (42, 0), (42, 1), (42, 2), (42, 3)]⟩, ⟨0, []⟩]
                 [.ldq 40 true 2 (.t 8),
                  .ldq 41 true 2 (.t 3),
                  .call (some 42) (.c (Fc F.laws_toDb)) [(.t 41)] (.ro true),
                  .call (some 43) (.c (Fc F.laws_eqDb)) [(.t 40), (.t 42)] (.ro true),
                  .un 44 .not (.t 43)])
               (.keep [44]
                (.cond (.t 44)
                 (.seq
                  (.reg [.mv 4 (.c (B false))])
                 (.keep [4]
                  .ret))
                 .skip)))
              (.keep []
               (.seq
                (.reg [.mv 4 (.c (B true))])
               (.keep [4]
                .ret)))))
def C.laws_FnExactSameSet_1 : AC :=
  (.keep [2, 3, 6, 7, 8]
           (.seq
            (.reg [.ld 29 true 2 (.t 7),
              .ld 30 true 2 (.t 8),
              .call (some 31) (.c (Fc F.impl_SameSet)) [(.t 29), (.t 30)] (.ro true),
              .mv 9 (.t 31)])
           (.keep [2, 3, 6, 7, 8, 9]
            (.seq
             (.seq
              (.reg [.mv 32 (.t 9),
                .mv 33 (.t 6),
                .eqs 34 0 true (.t 32) (.t 33)])
             (.cond (.t 34)
              (.seq
               (.reg [.mv 4 (.c (B false))])
              (.keep [4]
               .ret))
              .skip))
            (.keep [2, 3, 7, 8]
             (.seq
              (.seq
               (.dreg [⟨0, [(0, 0), (0, 1), (0, 2), (0, 3), (2, 0), (7, 0), (25, 0), (26, 0), (26, 1), (26, 2), (26, 3)]⟩, ⟨0, [(0, 0), (0, 1), (0, 2), (0, 3), (2, 0)]⟩, ⟨2, [(0, 0), (0, 1), (0, 2), (0, 3), (2, 0), (36, 0)]⟩, ⟨2, [(0, 0), (0, 1), (0, 2), (0, 3), (2, 0), (7, 0), (25, 0), (26, 0), (26, 1), (26, 2), (26, 3), (35, 0), (36, 0), (37, 0), (37, 1), (37, 2), (37, 3)]⟩, ⟨0, []⟩]
                [.ldq 35 true 2 (.t 7),
                 .ldq 36 true 2 (.t 2),
                 .call (some 37) (.c (Fc F.laws_toDb)) [(.t 36)] (.ro true),
                 .call (some 38) (.c (Fc F.laws_eqDb)) [(.t 35), (.t 37)] (.ro true),
                 .un 39 .not (.t 38)])
              (.keep [3, 8, 39]
               (.cond (.t 39)
                (.seq
                 (.reg [.mv 4 (.c (B false))])
                (.keep [4]
                 .ret))
                .skip)))
             C.laws_FnExactSameSet_0))))))
def C.laws_FnExactSameSet_2 : AC :=
  (.keep [2, 3]
        (.seq
         (.dreg [⟨0, [(0, 0), (0, 1), (0, 2), (0, 3), (2, 0)]⟩, ⟨2, [(0, 0), (0, 1), (0, 2), (0, 3), (2, 0), (20, 0)]⟩, ⟨0, [(1, 0), (1, 1), (1, 2), (1, 3), (3, 0)]⟩, ⟨2, [(1, 0), (1, 1), (1, 2), (1, 3), (3, 0), (22, 0)]⟩, ⟨2, [(0, 0), (0, 1), (0, 2), (0, 3), (1, 0), (1, 1), (1, 2), (1, 3), (2, 0), (3, 0), (20, 0), (21, 0), (21, 1), (21, 2), (21, 3), (22, 0), (23, 0), (23, 1), (23, 2), (23, 3)]⟩, ⟨0, []⟩]
          [.ldq 20 true 2 (.t 2),
           .call (some 21) (.c (Fc F.laws_toDb)) [(.t 20)] (.ro true),
           .ldq 22 true 2 (.t 3),
           .call (some 23) (.c (Fc F.laws_toDb)) [(.t 22)] (.ro true),
           .call (some 24) (.c (Fc F.spec_SameSet)) [(.t 21), (.t 23)] (.ro true),
           .mv 6 (.t 24)])
        (.keep [2, 3, 6]
         (.seq
          (.reg [.ld 25 true 2 (.t 2),
            .call (some 26) (.c (Fc F.laws_toDb)) [(.t 25)] (.ro true),
            .new 7 (.c (.a [(.n 9), (.n 1)])),
            .st 2 (.t 7) (.t 26)])
         (.keep [2, 3, 6, 7]
          (.seq
           (.reg [.ld 27 true 2 (.t 3),
             .call (some 28) (.c (Fc F.laws_toDb)) [(.t 27)] (.ro true),
             .new 8 (.c (.a [(.n 9), (.n 1)])),
             .st 2 (.t 8) (.t 28)])
          C.laws_FnExactSameSet_1))))))
def C.laws_FnExactSameSet_3 : AC :=
  (.keep [2, 3, 5]
     (.seq
      (.seq
       (.reg [.mv 13 (.t 5),
         .bin 14 .lss (.t 13) (.c (I 0))])
      (.cond (.t 14)
       (.seq
        (.reg [.mv 4 (.c (B true))])
       (.keep [4]
        .ret))
       .skip))
     (.keep [2, 3, 5]
      (.seq
       (.reg [.ld 15 true 2 (.t 3),
         .mv 16 (.t 5),
         .call (some 17) (.c (Fc F.laws_szDb)) [(.t 15), (.t 16)] (.ro true),
         .mv 5 (.t 17)])
      (.keep [2, 3, 5]
       (.seq
        (.seq
         (.reg [.mv 18 (.t 5),
           .bin 19 .lss (.t 18) (.c (I 0))])
        (.cond (.t 19)
         (.seq
          (.reg [.mv 4 (.c (B true))])
         (.keep [4]
          .ret))
         .skip))
       C.laws_FnExactSameSet_2))))))
def A.laws_FnExactSameSet : AF where
  nargs := 2
  ntmps := 45
  res := [.tmp 4]
  body :=
    (.seq
     (.reg [.new 2 (.t 0),
       .new 3 (.t 1),
       .mv 4 (.c (B false))])
    (.seq
     (.reg [.mv 5 (.c (I 1048576))])
    (.seq
     (.reg [.ld 10 true 2 (.t 2),
       .mv 11 (.t 5),
       .call (some 12) (.c (Fc F.laws_szDb)) [(.t 10), (.t 11)] (.ro true),
       .mv 5 (.t 12)])
    C.laws_FnExactSameSet_3)))
def A.laws_szTerm : AF where
  nargs := 2
  ntmps := 19
  res := [.tmp 4]
  body :=
    (.seq
     (.reg [.new 2 (.t 0),
       .mv 4 (.c (I 0))])
    (.seq
     (.reg [.mv 5 (.t 1),
       .fa 6 (.t 2) 1,
       .ld 7 false 1 (.t 6),
       .slen 8 (.t 7),
       .bin 9 .sub (.t 5) (.t 8),
       .mv 1 (.t 9)])
    (.keep [1, 2]
     (.seq
      (.seq
       (.reg [.mv 10 (.t 1),
         .bin 11 .lss (.t 10) (.c (I 0))])
      (.cond (.t 11)
       (.seq
        (.reg [.mv 4 (.c (I (-1)))])
       (.keep [4]
        .ret))
       .skip))
     (.keep [1, 2]
      (.seq
       (.reg [.fa 12 (.t 2) 3,
         .ld 13 false 1 (.t 12),
         .mv 14 (.t 1),
         .call (some 15) (.c (Fc F.laws_szTermS)) [(.t 13), (.t 14)] (.ro false),
         .mv 1 (.t 15)])
      (.keep [1]
       (.seq
        (.seq
         (.reg [.mv 16 (.t 1),
           .bin 17 .lss (.t 16) (.c (I 0))])
        (.cond (.t 17)
         (.seq
          (.reg [.mv 4 (.c (I (-1)))])
         (.keep [4]
          .ret))
         .skip))
       (.keep [1]
        (.seq
         (.reg [.mv 18 (.t 1),
           .mv 4 (.t 18)])
        (.keep [4]
         .ret)))))))))))
def A.spec_PrioOf : AF where
  nargs := 1
  ntmps := 24
  res := [.tmp 2]
  body :=
    (.seq
     (.reg [.new 1 (.t 0),
       .mv 2 (.c (I 0))])
    (.seq
     (.seq
      (.reg [.fa 5 (.t 1) 0,
        .ld 6 false 1 (.t 5),
        .bin 7 .neq (.t 6) (.c (I 4)),
        .mv 8 (.t 7),
        .gd 8 false (some 9) (.fa 9 (.t 1) 3),
        .gd 8 false (some 10) (.ld 10 false 1 (.t 9)),
        .gd 8 false (some 11) (.len 11 (.t 10)),
        .gd 8 false (some 12) (.bin 12 .neq (.t 11) (.c (I 2))),
        .pick 13 (.t 8) (.c (B true)) (.t 12)])
     (.keep [1, 13]
      (.cond (.t 13)
       (.seq
        (.reg [.mv 2 (.c (I 0))])
       (.keep [2]
        .ret))
       .skip)))
    (.keep [1]
     (.seq
      (.reg [.fa 15 (.t 1) 1,
        .ld 16 false 1 (.t 15),
        .call (some 17) (.c (Fc F.spec_InfixOf)) [(.t 16)] (.ro false),
        .mv 14 (.t 17),
        .ext 18 (.t 14) 0,
        .ext 19 (.t 14) 1,
        .new 3 (.c (.a [(S []), (I 0), (I 0), (I 0)])),
        .st 4 (.t 3) (.t 18),
        .mv 4 (.t 19)])
     (.keep [3, 4]
      (.seq
       (.seq
        (.reg [.mv 20 (.t 4),
          .un 21 .not (.t 20)])
       (.cond (.t 21)
        (.seq
         (.reg [.mv 2 (.c (I 0))])
        (.keep [2]
         .ret))
        .skip))
      (.keep [3]
       (.seq
        (.reg [.fa 22 (.t 3) 1,
          .ld 23 false 1 (.t 22),
          .mv 2 (.t 23)])
       (.keep [2]
        .ret)))))))))
def A.laws_toTerm : AF where
  nargs := 1
  ntmps := 18
  res := [.cell 2 true 4]
  body :=
    (.seq
     (.reg [.new 1 (.t 0),
       .new 2 (.c (.a [(I 0), (S []), (I 0), (.n 4)]))])
    (.seq
     (.reg [.new 3 (.c (.a [(I 0), (S []), (I 0), (.n 4)]))])
    (.seq
     (.reg [.fa 4 (.t 1) 0,
       .ld 5 false 1 (.t 4),
       .fa 6 (.t 3) 0,
       .st 1 (.t 6) (.t 5)])
    (.keep [1, 2, 3]
     (.seq
      (.reg [.fa 7 (.t 1) 1,
        .ld 8 false 1 (.t 7),
        .fa 9 (.t 3) 1,
        .st 1 (.t 9) (.t 8)])
     (.keep [1, 2, 3]
      (.seq
       (.reg [.fa 10 (.t 1) 2,
         .ld 11 false 1 (.t 10),
         .fa 12 (.t 3) 2,
         .st 1 (.t 12) (.t 11)])
      (.keep [1, 2, 3]
       (.seq
        (.reg [.fa 13 (.t 1) 3,
          .ld 14 false 1 (.t 13),
          .call (some 15) (.c (Fc F.laws_toTermS)) [(.t 14)] (.ro false),
          .fa 16 (.t 3) 3,
          .st 1 (.t 16) (.t 15)])
       (.keep [2, 3]
        (.seq
         (.reg [.ld 17 true 4 (.t 3),
           .st 4 (.t 2) (.t 17)])
        (.keep [2]
         .ret))))))))))))
def A.impl_PrioOf : AF where
  nargs := 1
  ntmps := 16
  res := [.tmp 2]
  body :=
    (.seq
     (.reg [.new 1 (.t 0),
       .mv 2 (.c (I 0))])
    (.seq
     (.seq
      (.reg [.ld 5 true 4 (.t 1),
        .call (some 6) (.c (Fc F.impl_isInfix)) [(.t 5)] (.ro true),
        .un 7 .not (.t 6)])
     (.cond (.t 7)
      (.seq
       (.reg [.mv 2 (.c (I 0))])
      (.keep [2]
       .ret))
      .skip))
    (.keep [1]
     (.seq
      (.reg [.fa 9 (.t 1) 1,
        .ld 10 false 1 (.t 9),
        .call (some 11) (.c (Fc F.impl_InfixOf)) [(.t 10)] (.ro false),
        .mv 8 (.t 11),
        .ext 12 (.t 8) 0,
        .ext 13 (.t 8) 1,
        .new 3 (.c (.a [(S []), (I 0), (I 0), (I 0)])),
        .st 4 (.t 3) (.t 12),
        .mv 4 (.t 13)])
     (.keep [3]
      (.seq
       (.reg [.fa 14 (.t 3) 1,
         .ld 15 false 1 (.t 14),
         .mv 2 (.t 15)])
      (.keep [2]
       .ret)))))))
def A.laws_eqTerm : AF where
  nargs := 2
  ntmps := 26
  res := [.tmp 4]
  body :=
    (.seq
     (.reg [.new 2 (.t 0),
       .new 3 (.t 1),
       .mv 4 (.c (B false))])
    (.seq
     (.seq
      (.reg [.fa 5 (.t 2) 0,
        .ld 6 false 1 (.t 5),
        .fa 7 (.t 3) 0,
        .ld 8 false 1 (.t 7),
        .bin 9 .neq (.t 6) (.t 8)])
     (.keep [2, 3, 9]
      (.cond (.t 9)
       (.seq
        (.reg [.mv 4 (.c (B false))])
       (.keep [4]
        .ret))
       .skip)))
    (.keep [2, 3]
     (.seq
      (.seq
       (.reg [.fa 10 (.t 2) 1,
         .ld 11 false 1 (.t 10),
         .fa 12 (.t 3) 1,
         .ld 13 false 1 (.t 12),
         .bin 14 .neq (.t 11) (.t 13)])
      (.keep [2, 3, 14]
       (.cond (.t 14)
        (.seq
         (.reg [.mv 4 (.c (B false))])
        (.keep [4]
         .ret))
        .skip)))
     (.keep [2, 3]
      (.seq
       (.seq
        (.reg [.fa 15 (.t 2) 2,
          .ld 16 false 1 (.t 15),
          .fa 17 (.t 3) 2,
          .ld 18 false 1 (.t 17),
          .bin 19 .neq (.t 16) (.t 18)])
       (.keep [2, 3, 19]
        (.cond (.t 19)
         (.seq
          (.reg [.mv 4 (.c (B false))])
         (.keep [4]
          .ret))
         .skip)))
      (.keep [2, 3]
       (.seq
        (.seq
         (.reg [.fa 20 (.t 2) 3,
           .ld 21 false 1 (.t 20),
           .fa 22 (.t 3) 3,
           .ld 23 false 1 (.t 22),
           .call (some 24) (.c (Fc F.laws_eqTermS)) [(.t 21), (.t 23)] (.ro true),
           .un 25 .not (.t 24)])
        (.keep [25]
         (.cond (.t 25)
          (.seq
           (.reg [.mv 4 (.c (B false))])
          (.keep [4]
           .ret))
          .skip)))
       (.keep []
        (.seq
         (.reg [.mv 4 (.c (B true))])
        (.keep [4]
         .ret)))))))))))
def A.laws_szClause : AF where
  nargs := 2
  ntmps := 25
  res := [.tmp 4]
  body :=
    (.seq
     (.reg [.new 2 (.t 0),
       .mv 4 (.c (I 0))])
    (.seq
     (.reg [.fa 5 (.t 2) 0,
       .ld 6 true 4 (.t 5),
       .mv 7 (.t 1),
       .call (some 8) (.c (Fc F.laws_szTerm)) [(.t 6), (.t 7)] (.ro false),
       .mv 1 (.t 8)])
    (.keep [1, 2]
     (.seq
      (.seq
       (.reg [.mv 9 (.t 1),
         .bin 10 .lss (.t 9) (.c (I 0))])
      (.cond (.t 10)
       (.seq
        (.reg [.mv 4 (.c (I (-1)))])
       (.keep [4]
        .ret))
       .skip))
     (.keep [1, 2]
      (.seq
       (.reg [.fa 11 (.t 2) 4,
         .ld 12 true 4 (.t 11),
         .mv 13 (.t 1),
         .call (some 14) (.c (Fc F.laws_szTerm)) [(.t 12), (.t 13)] (.ro false),
         .mv 1 (.t 14)])
      (.keep [1, 2]
       (.seq
        (.seq
         (.reg [.mv 15 (.t 1),
           .bin 16 .lss (.t 15) (.c (I 0))])
        (.cond (.t 16)
         (.seq
          (.reg [.mv 4 (.c (I (-1)))])
         (.keep [4]
          .ret))
         .skip))
       (.keep [1, 2]
        (.seq
         (.reg [.mv 17 (.t 1),
           .fa 18 (.t 2) 8,
           .ld 19 false 1 (.t 18),
           .slen 20 (.t 19),
           .bin 21 .sub (.t 17) (.t 20),
           .mv 1 (.t 21)])
        (.keep [1]
         (.seq
          (.seq
           (.reg [.mv 22 (.t 1),
             .bin 23 .lss (.t 22) (.c (I 0))])
          (.cond (.t 23)
           (.seq
            (.reg [.mv 4 (.c (I (-1)))])
           (.keep [4]
            .ret))
           .skip))
         (.keep [1]
          (.seq
           (.reg [.mv 24 (.t 1),
             .mv 4 (.t 24)])
          (.keep [4]
           .ret)))))))))))))))
def A.spec_NeatClause : AF where
  nargs := 1
  ntmps := 20
  res := [.cell 2 true 9]
  body :=
    (.seq
     (.reg [.new 1 (.t 0),
       .new 2 (.c (.a [(I 0), (S []), (I 0), (.n 4), (I 0), (S []), (I 0), (.n 4), (S [])]))])
    (.seq
     (.reg [.ld 5 true 9 (.t 1),
       .call (some 6) (.c (Fc F.spec_ClauseTerm)) [(.t 5)] (.ro false),
       .new 3 (.c (.a [(I 0), (S []), (I 0), (.n 4)])),
       .st 4 (.t 3) (.t 6)])
    (.keep [1, 2, 3]
     (.seq
      (.reg [.ld 7 true 4 (.t 3),
        .call (some 8) (.c (Fc F.spec_VarsOf)) [(.t 7)] (.ro false),
        .mv 4 (.t 8)])
     (.seq
      (.dreg [⟨0, []⟩, ⟨0, [(0, 0), (0, 1), (0, 2), (0, 3), (1, 0)]⟩, ⟨0, []⟩, ⟨2, [(0, 0), (0, 1), (0, 2), (0, 3), (1, 0), (3, 0), (5, 0), (6, 0), (6, 1), (6, 2), (6, 3), (7, 0), (8, 0), (8, 1), (8, 2), (8, 3), (10, 0)]⟩, ⟨0, []⟩, ⟨0, [(0, 0), (0, 1), (0, 2), (0, 3), (1, 0)]⟩, ⟨0, []⟩, ⟨2, [(0, 0), (0, 1), (0, 2), (0, 3), (1, 0), (3, 0), (5, 0), (6, 0), (6, 1), (6, 2), (6, 3), (7, 0), (8, 0), (8, 1), (8, 2), (8, 3), (14, 0)]⟩, ⟨0, []⟩, ⟨0, [(0, 0), (0, 1), (0, 2), (0, 3), (1, 0)]⟩, ⟨0, []⟩, ⟨1, [(0, 0), (0, 1), (0, 2), (0, 3), (1, 0), (2, 0), (3, 0), (5, 0), (6, 0), (6, 1), (6, 2), (6, 3), (7, 0), (8, 0), (8, 1), (8, 2), (8, 3), (10, 0), (12, 0), (12, 1), (12, 2), (12, 3), (14, 0), (16, 0), (16, 1), (16, 2), (16, 3), (18, 0)]⟩]
       [.fa 9 (.t 1) 0,
        .ldq 10 true 4 (.t 9),
        .mv 11 (.t 4),
        .call (some 12) (.c (Fc F.spec_l11Named)) [(.t 10), (.t 11), (.c (I 0))] (.ro false),
        .fa 13 (.t 1) 4,
        .ldq 14 true 4 (.t 13),
        .mv 15 (.t 4),
        .call (some 16) (.c (Fc F.spec_l11Named)) [(.t 14), (.t 15), (.c (I 0))] (.ro false),
        .fa 17 (.t 1) 8,
        .ldq 18 false 1 (.t 17),
        .build 19 (.a [(I 0), (S []), (I 0), (.n 4), (I 0), (S []), (I 0), (.n 4), (S [])]) [(0, 4, (.t 12)), (4, 4, (.t 16)), (8, 1, (.t 18))],
        .st 9 (.t 2) (.t 19)])
     (.keep [2]
      .ret))))))
def A.laws_toClause : AF where
  nargs := 1
  ntmps := 16
  res := [.cell 2 true 9]
  body :=
    (.seq
     (.reg [.new 1 (.t 0),
       .new 2 (.c (.a [(I 0), (S []), (I 0), (.n 4), (I 0), (S []), (I 0), (.n 4), (S [])]))])
    (.seq
     (.reg [.new 3 (.c (.a [(I 0), (S []), (I 0), (.n 4), (I 0), (S []), (I 0), (.n 4), (S [])]))])
    (.seq
     (.reg [.fa 4 (.t 1) 0,
       .ld 5 true 4 (.t 4),
       .call (some 6) (.c (Fc F.laws_toTerm)) [(.t 5)] (.ro false),
       .fa 7 (.t 3) 0,
       .st 4 (.t 7) (.t 6)])
    (.keep [1, 2, 3]
     (.seq
      (.reg [.fa 8 (.t 1) 4,
        .ld 9 true 4 (.t 8),
        .call (some 10) (.c (Fc F.laws_toTerm)) [(.t 9)] (.ro false),
        .fa 11 (.t 3) 4,
        .st 4 (.t 11) (.t 10)])
     (.keep [1, 2, 3]
      (.seq
       (.reg [.fa 12 (.t 1) 8,
         .ld 13 false 1 (.t 12),
         .fa 14 (.t 3) 8,
         .st 1 (.t 14) (.t 13)])
      (.keep [2, 3]
       (.seq
        (.reg [.ld 15 true 9 (.t 3),
          .st 9 (.t 2) (.t 15)])
       (.keep [2]
        .ret))))))))))
def A.impl_NeatClause : AF where
  nargs := 1
  ntmps := 18
  res := [.cell 2 true 9]
  body :=
    (.seq
     (.reg [.new 1 (.t 0),
       .new 2 (.c (.a [(I 0), (S []), (I 0), (.n 4), (I 0), (S []), (I 0), (.n 4), (S [])]))])
    (.seq
     (.reg [.ld 4 true 9 (.t 1),
       .call (some 5) (.c (Fc F.impl_ClauseTerm)) [(.t 4)] (.ro false),
       .call (some 6) (.c (Fc F.impl_fresh)) [(.t 5), (.c (I 0))] (.ro false),
       .new 3 (.c (.a [(I 0), (S []), (I 0), (.n 4)])),
       .st 4 (.t 3) (.t 6)])
    (.keep [1, 2, 3]
     (.seq
      (.opn [(500000, (6, 0), 0), (500001, (6, 0), 1)] (.dreg [⟨0, []⟩, ⟨0, [(0, 0), (0, 1), (0, 2), (0, 3), (1, 0), (3, 0), (4, 0), (5, 0), (5, 1), (5, 2), (5, 3), (6, 0), (6, 1), (6, 2), (6, 3)]⟩, ⟨0, [(0, 0), (0, 1), (0, 2), (0, 3), (1, 0), (3, 0), (4, 0), (5, 0), (5, 1), (5, 2), (5, 3), (6, 0), (6, 1), (6, 2), (6, 3), (8, 0)]⟩, ⟨0, [(0, 0), (0, 1), (0, 2), (0, 3), (1, 0), (3, 0), (4, 0), (5, 0), (5, 1), (5, 2), (5, 3), (6, 0), (6, 1), (6, 2), (6, 3), (8, 0)]⟩, ⟨0, []⟩, ⟨0, [(0, 0), (0, 1), (0, 2), (0, 3), (1, 0), (3, 0), (4, 0), (5, 0), (5, 1), (5, 2), (5, 3), (6, 0), (6, 1), (6, 2), (6, 3)]⟩, ⟨0, [(0, 0), (0, 1), (0, 2), (0, 3), (1, 0), (3, 0), (4, 0), (5, 0), (5, 1), (5, 2), (5, 3), (6, 0), (6, 1), (6, 2), (6, 3), (12, 0)]⟩, ⟨0, [(0, 0), (0, 1), (0, 2), (0, 3), (1, 0), (3, 0), (4, 0), (5, 0), (5, 1), (5, 2), (5, 3), (6, 0), (6, 1), (6, 2), (6, 3), (12, 0)]⟩, ⟨0, []⟩, ⟨0, [(0, 0), (0, 1), (0, 2), (0, 3), (1, 0)]⟩, ⟨0, []⟩, ⟨1, [(0, 0), (0, 1), (0, 2), (0, 3), (1, 0), (2, 0), (3, 0), (4, 0), (5, 0), (5, 1), (5, 2), (5, 3), (6, 0), (6, 1), (6, 2), (6, 3), (8, 0), (10, 0), (12, 0), (14, 0), (16, 0)]⟩]
       [.fa 7 (.t 3) 3,
        .ldq 8 false 1 (.t 7),
        .ia 9 4 (.t 8) (.c (I 0)),
        .ldq 10 true 4 (.t 9),
        .fa 11 (.t 3) 3,
        .ldq 12 false 1 (.t 11),
        .ia 13 4 (.t 12) (.c (I 1)),
        .ldq 14 true 4 (.t 13),
        .fa 15 (.t 1) 8,
        .ldq 16 false 1 (.t 15),
        .build 17 (.a [(I 0), (S []), (I 0), (.n 4), (I 0), (S []), (I 0), (.n 4), (S [])]) [(0, 4, (.t 10)), (4, 4, (.t 14)), (8, 1, (.t 16))],
        .st 9 (.t 2) (.t 17)]))
     (.keep [2]
      .ret)))))
def A.laws_eqClause : AF where
  nargs := 2
  ntmps := 22
  res := [.tmp 4]
  body :=
    (.seq
     (.reg [.new 2 (.t 0),
       .new 3 (.t 1),
       .mv 4 (.c (B false))])
    (.seq
     (.seq
      (.reg [.fa 5 (.t 2) 0,
        .ld 6 true 4 (.t 5),
        .fa 7 (.t 3) 0,
        .ld 8 true 4 (.t 7),
        .call (some 9) (.c (Fc F.laws_eqTerm)) [(.t 6), (.t 8)] (.ro true),
        .un 10 .not (.t 9)])
     (.keep [2, 3, 10]
      (.cond (.t 10)
       (.seq
        (.reg [.mv 4 (.c (B false))])
       (.keep [4]
        .ret))
       .skip)))
    (.keep [2, 3]
     (.seq
      (.seq
       (.reg [.fa 11 (.t 2) 4,
         .ld 12 true 4 (.t 11),
         .fa 13 (.t 3) 4,
         .ld 14 true 4 (.t 13),
         .call (some 15) (.c (Fc F.laws_eqTerm)) [(.t 12), (.t 14)] (.ro true),
         .un 16 .not (.t 15)])
      (.keep [2, 3, 16]
       (.cond (.t 16)
        (.seq
         (.reg [.mv 4 (.c (B false))])
        (.keep [4]
         .ret))
        .skip)))
     (.keep [2, 3]
      (.seq
       (.seq
        (.reg [.fa 17 (.t 2) 8,
          .ld 18 false 1 (.t 17),
          .fa 19 (.t 3) 8,
          .ld 20 false 1 (.t 19),
          .bin 21 .neq (.t 18) (.t 20)])
       (.keep [21]
        (.cond (.t 21)
         (.seq
          (.reg [.mv 4 (.c (B false))])
         (.keep [4]
          .ret))
         .skip)))
      (.keep []
       (.seq
        (.reg [.mv 4 (.c (B true))])
       (.keep [4]
        .ret)))))))))
def A.laws_markClause : AF where
  nargs := 2
  ntmps := 14
  res := [.tmp 4]
  body :=
    (.seq
     (.reg [.new 2 (.t 0),
       .mv 4 (.c (I 0))])
    (.seq
     (.reg [.fa 5 (.t 2) 0,
       .ld 6 true 4 (.t 5),
       .mv 7 (.t 1),
       .call (some 8) (.c (Fc F.laws_markTerm)) [(.t 6), (.t 7)] (.io false),
       .mv 1 (.t 8)])
    (.keep [1, 2]
     (.seq
      (.reg [.fa 9 (.t 2) 4,
        .ld 10 true 4 (.t 9),
        .mv 11 (.t 1),
        .call (some 12) (.c (Fc F.laws_markTerm)) [(.t 10), (.t 11)] (.io false),
        .mv 1 (.t 12)])
     (.keep [1]
      (.seq
       (.reg [.mv 13 (.t 1),
         .mv 4 (.t 13)])
      (.keep [4]
       .ret)))))))
def A.laws_heldClause : AF where
  nargs := 2
  ntmps := 18
  res := [.tmp 4]
  body :=
    (.seq
     (.reg [.new 2 (.t 0),
       .mv 4 (.c (I 0))])
    (.seq
     (.reg [.fa 5 (.t 2) 0,
       .ld 6 true 4 (.t 5),
       .mv 7 (.t 1),
       .call (some 8) (.c (Fc F.laws_heldTerm)) [(.t 6), (.t 7)] (.ro false),
       .mv 1 (.t 8)])
    (.keep [1, 2]
     (.seq
      (.seq
       (.reg [.mv 9 (.t 1),
         .bin 10 .lss (.t 9) (.c (I 0))])
      (.cond (.t 10)
       (.seq
        (.reg [.mv 4 (.c (I (-1)))])
       (.keep [4]
        .ret))
       .skip))
     (.keep [1, 2]
      (.seq
       (.reg [.fa 11 (.t 2) 4,
         .ld 12 true 4 (.t 11),
         .mv 13 (.t 1),
         .call (some 14) (.c (Fc F.laws_heldTerm)) [(.t 12), (.t 13)] (.ro false),
         .mv 1 (.t 14)])
      (.keep [1]
       (.seq
        (.seq
         (.reg [.mv 15 (.t 1),
           .bin 16 .lss (.t 15) (.c (I 0))])
        (.cond (.t 16)
         (.seq
          (.reg [.mv 4 (.c (I (-1)))])
         (.keep [4]
          .ret))
         .skip))
       (.keep [1]
        (.seq
         (.reg [.mv 17 (.t 1),
           .mv 4 (.t 17)])
        (.keep [4]
         .ret)))))))))))
def A.laws_szSession : AF where
  nargs := 2
  ntmps := 31
  res := [.tmp 4]
  body :=
    (.seq
     (.reg [.new 2 (.t 0),
       .mv 4 (.c (I 0))])
    (.seq
     (.reg [.fa 5 (.t 2) 0,
       .ld 6 false 1 (.t 5),
       .mv 7 (.t 1),
       .call (some 8) (.c (Fc F.laws_szFileS)) [(.t 6), (.t 7)] (.ro false),
       .mv 1 (.t 8)])
    (.keep [1, 2]
     (.seq
      (.seq
       (.reg [.mv 9 (.t 1),
         .bin 10 .lss (.t 9) (.c (I 0))])
      (.cond (.t 10)
       (.seq
        (.reg [.mv 4 (.c (I (-1)))])
       (.keep [4]
        .ret))
       .skip))
     (.keep [1, 2]
      (.seq
       (.reg [.fa 11 (.t 2) 1,
         .ld 12 true 2 (.t 11),
         .mv 13 (.t 1),
         .call (some 14) (.c (Fc F.laws_szDb)) [(.t 12), (.t 13)] (.ro false),
         .mv 1 (.t 14)])
      (.keep [1, 2]
       (.seq
        (.seq
         (.reg [.mv 15 (.t 1),
           .bin 16 .lss (.t 15) (.c (I 0))])
        (.cond (.t 16)
         (.seq
          (.reg [.mv 4 (.c (I (-1)))])
         (.keep [4]
          .ret))
         .skip))
       (.keep [1, 2]
        (.seq
         (.reg [.fa 17 (.t 2) 3,
           .ld 18 false 1 (.t 17),
           .mv 19 (.t 1),
           .call (some 20) (.c (Fc F.laws_szStringS)) [(.t 18), (.t 19)] (.ro false),
           .mv 1 (.t 20)])
        (.keep [1, 2]
         (.seq
          (.seq
           (.reg [.mv 21 (.t 1),
             .bin 22 .lss (.t 21) (.c (I 0))])
          (.cond (.t 22)
           (.seq
            (.reg [.mv 4 (.c (I (-1)))])
           (.keep [4]
            .ret))
           .skip))
         (.keep [1, 2]
          (.seq
           (.reg [.mv 23 (.t 1),
             .fa 24 (.t 2) 4,
             .ld 25 false 1 (.t 24),
             .slen 26 (.t 25),
             .bin 27 .sub (.t 23) (.t 26),
             .mv 1 (.t 27)])
          (.keep [1]
           (.seq
            (.seq
             (.reg [.mv 28 (.t 1),
               .bin 29 .lss (.t 28) (.c (I 0))])
            (.cond (.t 29)
             (.seq
              (.reg [.mv 4 (.c (I (-1)))])
             (.keep [4]
              .ret))
             .skip))
           (.keep [1]
            (.seq
             (.reg [.mv 30 (.t 1),
               .mv 4 (.t 30)])
            (.keep [4]
             .ret)))))))))))))))))))
def A.spec_ShowSession : AF where
  nargs := 1
  ntmps := 6
  res := [.tmp 2]
  body :=
    (.seq
     (.reg [.new 1 (.t 0),
       .mv 2 (.c (S []))])
    (.seq
     (.reg [.fa 3 (.t 1) 3,
       .ld 4 false 1 (.t 3),
       .call (some 5) (.c (Fc F.spec_l31Lines)) [(.t 4)] (.ro false),
       .mv 2 (.t 5)])
    (.keep [2]
     .ret)))
def A.laws_toSession : AF where
  nargs := 1
  ntmps := 20
  res := [.cell 2 true 5]
  body :=
    (.seq
     (.reg [.new 1 (.t 0),
       .new 2 (.c (.a [(.n 2), (.n 9), (.n 1), (.n 1), (S [])]))])
    (.seq
     (.reg [.new 3 (.c (.a [(.n 2), (.n 9), (.n 1), (.n 1), (S [])]))])
    (.seq
     (.reg [.fa 4 (.t 1) 0,
       .ld 5 false 1 (.t 4),
       .call (some 6) (.c (Fc F.laws_toFileS)) [(.t 5)] (.ro false),
       .fa 7 (.t 3) 0,
       .st 1 (.t 7) (.t 6)])
    (.keep [1, 2, 3]
     (.seq
      (.reg [.fa 8 (.t 1) 1,
        .ld 9 true 2 (.t 8),
        .call (some 10) (.c (Fc F.laws_toDb)) [(.t 9)] (.ro false),
        .fa 11 (.t 3) 1,
        .st 2 (.t 11) (.t 10)])
     (.keep [1, 2, 3]
      (.seq
       (.reg [.fa 12 (.t 1) 3,
         .ld 13 false 1 (.t 12),
         .call (some 14) (.c (Fc F.laws_toStringS)) [(.t 13)] (.ro false),
         .fa 15 (.t 3) 3,
         .st 1 (.t 15) (.t 14)])
      (.keep [1, 2, 3]
       (.seq
        (.reg [.fa 16 (.t 1) 4,
          .ld 17 false 1 (.t 16),
          .fa 18 (.t 3) 4,
          .st 1 (.t 18) (.t 17)])
       (.keep [2, 3]
        (.seq
         (.reg [.ld 19 true 5 (.t 3),
           .st 5 (.t 2) (.t 19)])
        (.keep [2]
         .ret))))))))))))
def A.impl_ShowSession : AF where
  nargs := 1
  ntmps := 6
  res := [.tmp 2]
  body :=
    (.seq
     (.reg [.new 1 (.t 0),
       .mv 2 (.c (S []))])
    (.seq
     (.reg [.fa 3 (.t 1) 3,
       .ld 4 false 1 (.t 3),
       .call (some 5) (.c (Fc F.impl_inLines)) [(.t 4)] (.ro false),
       .mv 2 (.t 5)])
    (.keep [2]
     .ret)))
def A.laws_eqSession : AF where
  nargs := 2
  ntmps := 28
  res := [.tmp 4]
  body :=
    (.seq
     (.reg [.new 2 (.t 0),
       .new 3 (.t 1),
       .mv 4 (.c (B false))])
    (.seq
     (.seq
      (.reg [.fa 5 (.t 2) 0,
        .ld 6 false 1 (.t 5),
        .fa 7 (.t 3) 0,
        .ld 8 false 1 (.t 7),
        .call (some 9) (.c (Fc F.laws_eqFileS)) [(.t 6), (.t 8)] (.ro true),
        .un 10 .not (.t 9)])
     (.keep [2, 3, 10]
      (.cond (.t 10)
       (.seq
        (.reg [.mv 4 (.c (B false))])
       (.keep [4]
        .ret))
       .skip)))
    (.keep [2, 3]
     (.seq
      (.seq
       (.reg [.fa 11 (.t 2) 1,
         .ld 12 true 2 (.t 11),
         .fa 13 (.t 3) 1,
         .ld 14 true 2 (.t 13),
         .call (some 15) (.c (Fc F.laws_eqDb)) [(.t 12), (.t 14)] (.ro true),
         .un 16 .not (.t 15)])
      (.keep [2, 3, 16]
       (.cond (.t 16)
        (.seq
         (.reg [.mv 4 (.c (B false))])
        (.keep [4]
         .ret))
        .skip)))
     (.keep [2, 3]
      (.seq
       (.seq
        (.reg [.fa 17 (.t 2) 3,
          .ld 18 false 1 (.t 17),
          .fa 19 (.t 3) 3,
          .ld 20 false 1 (.t 19),
          .call (some 21) (.c (Fc F.laws_eqStringS)) [(.t 18), (.t 20)] (.ro true),
          .un 22 .not (.t 21)])
       (.keep [2, 3, 22]
        (.cond (.t 22)
         (.seq
          (.reg [.mv 4 (.c (B false))])
         (.keep [4]
          .ret))
         .skip)))
      (.keep [2, 3]
       (.seq
        (.seq
         (.reg [.fa 23 (.t 2) 4,
           .ld 24 false 1 (.t 23),
           .fa 25 (.t 3) 4,
           .ld 26 false 1 (.t 25),
           .bin 27 .neq (.t 24) (.t 26)])
        (.keep [27]
         (.cond (.t 27)
          (.seq
           (.reg [.mv 4 (.c (B false))])
          (.keep [4]
           .ret))
          .skip)))
       (.keep []
        (.seq
         (.reg [.mv 4 (.c (B true))])
        (.keep [4]
         .ret)))))))))))
def A.laws_szDb : AF where
  nargs := 2
  ntmps := 18
  res := [.tmp 4]
  body :=
    (.seq
     (.reg [.new 2 (.t 0),
       .mv 4 (.c (I 0))])
    (.seq
     (.reg [.fa 5 (.t 2) 0,
       .ld 6 false 1 (.t 5),
       .mv 7 (.t 1),
       .call (some 8) (.c (Fc F.laws_szClauseS)) [(.t 6), (.t 7)] (.ro false),
       .mv 1 (.t 8)])
    (.keep [1, 2]
     (.seq
      (.seq
       (.reg [.mv 9 (.t 1),
         .bin 10 .lss (.t 9) (.c (I 0))])
      (.cond (.t 10)
       (.seq
        (.reg [.mv 4 (.c (I (-1)))])
       (.keep [4]
        .ret))
       .skip))
     (.keep [1, 2]
      (.seq
       (.reg [.fa 11 (.t 2) 1,
         .ld 12 false 1 (.t 11),
         .mv 13 (.t 1),
         .call (some 14) (.c (Fc F.laws_szStringS)) [(.t 12), (.t 13)] (.ro false),
         .mv 1 (.t 14)])
      (.keep [1]
       (.seq
        (.seq
         (.reg [.mv 15 (.t 1),
           .bin 16 .lss (.t 15) (.c (I 0))])
        (.cond (.t 16)
         (.seq
          (.reg [.mv 4 (.c (I (-1)))])
         (.keep [4]
          .ret))
         .skip))
       (.keep [1]
        (.seq
         (.reg [.mv 17 (.t 1),
           .mv 4 (.t 17)])
        (.keep [4]
         .ret)))))))))))
def LB.spec_ClauseAt_0 : AC :=
       (.seq
        (.seq
         (.reg [.mv 6 (.t 5),
           .fa 7 (.t 2) 0,
           .ld 8 false 1 (.t 7),
           .len 9 (.t 8),
           .bin 10 .lss (.t 6) (.t 9)])
        (.keep [2, 3, 5, 10]
         (.cond (.t 10)
          .skip
          (.keep []
           (.exit 0)))))
       (.keep [2, 3, 5]
        (.seq
         (.block 1
          (.seq
           (.dreg [⟨0, []⟩, ⟨0, [(0, 0), (0, 1), (0, 2), (0, 3), (2, 0), (100000, 0), (100000, 1), (100000, 2), (100000, 3), (100000, 4), (100000, 5)]⟩, ⟨0, []⟩, ⟨0, [(0, 0), (0, 1), (0, 2), (0, 3), (2, 0), (14, 0), (100000, 0), (100000, 1), (100000, 2), (100000, 3), (100000, 4), (100000, 5)]⟩, ⟨0, [(0, 0), (0, 1), (0, 2), (0, 3), (2, 0), (14, 0), (100000, 0), (100000, 1), (100000, 2), (100000, 3), (100000, 4), (100000, 5)]⟩, ⟨0, [(1, 0), (1, 1), (1, 2), (1, 3), (3, 0), (100000, 0), (100000, 1), (100000, 2), (100000, 3), (100000, 4), (100000, 5)]⟩, ⟨2, [(0, 0), (0, 1), (0, 2), (0, 3), (1, 0), (1, 1), (1, 2), (1, 3), (2, 0), (3, 0), (14, 0), (17, 0), (18, 0), (100000, 0), (100000, 1), (100000, 2), (100000, 3), (100000, 4), (100000, 5)]⟩]
            [.fa 13 (.t 2) 0,
             .ldq 14 false 1 (.t 13),
             .mv 15 (.t 5),
             .ia 16 9 (.t 14) (.t 15),
             .ldq 17 true 9 (.t 16),
             .ldq 18 true 9 (.t 3),
             .call (some 19) (.c (Fc F.spec_l29Same)) [(.t 17), (.t 18)] (.ro true)])
          (.keep [2, 3, 5, 19]
           (.cond (.t 19)
            (.seq
             (.reg [.mv 20 (.t 5),
               .mv 4 (.t 20)])
            (.keep [4]
             .ret))
            .skip))))
        (.keep [2, 3, 5]
         (.reg [.mv 11 (.t 5),
           .bin 12 .add (.t 11) (.c (I 1)),
           .mv 5 (.t 12)])))))
def L.spec_ClauseAt_0 : Lp := ⟨[2, 3, 5], [(2, 0)], LB.spec_ClauseAt_0⟩
@[go_sem] theorem L.spec_ClauseAt_0_ls : L.spec_ClauseAt_0.ls = [2, 3, 5] := rfl
@[go_sem] theorem L.spec_ClauseAt_0_ks : L.spec_ClauseAt_0.ks = [(2, 0)] := rfl
@[go_sem] theorem L.spec_ClauseAt_0_b : L.spec_ClauseAt_0.body = LB.spec_ClauseAt_0 := rfl
def A.spec_ClauseAt : AF where
  nargs := 2
  ntmps := 21
  res := [.tmp 4]
  body :=
    (.seq
     (.reg [.new 2 (.t 0),
       .new 3 (.t 1),
       .mv 4 (.c (I 0))])
    (.seq
     (.seq
      (.reg [.mv 5 (.c (I 0))])
     (.block 0
      (lpC L.spec_ClauseAt_0)))
    (.keep []
     (.seq
      (.reg [.mv 4 (.c (I (-1)))])
     (.keep [4]
      .ret)))))
def A.laws_toDb : AF where
  nargs := 1
  ntmps := 13
  res := [.cell 2 true 2]
  body :=
    (.seq
     (.reg [.new 1 (.t 0),
       .new 2 (.c (.a [(.n 9), (.n 1)]))])
    (.seq
     (.reg [.new 3 (.c (.a [(.n 9), (.n 1)]))])
    (.seq
     (.reg [.fa 4 (.t 1) 0,
       .ld 5 false 1 (.t 4),
       .call (some 6) (.c (Fc F.laws_toClauseS)) [(.t 5)] (.ro false),
       .fa 7 (.t 3) 0,
       .st 1 (.t 7) (.t 6)])
    (.keep [1, 2, 3]
     (.seq
      (.reg [.fa 8 (.t 1) 1,
        .ld 9 false 1 (.t 8),
        .call (some 10) (.c (Fc F.laws_toStringS)) [(.t 9)] (.ro false),
        .fa 11 (.t 3) 1,
        .st 1 (.t 11) (.t 10)])
     (.keep [2, 3]
      (.seq
       (.reg [.ld 12 true 2 (.t 3),
         .st 2 (.t 2) (.t 12)])
      (.keep [2]
       .ret))))))))
def A.impl_ClauseAt : AF where
  nargs := 2
  ntmps := 9
  res := [.tmp 4]
  body :=
    (.seq
     (.reg [.new 2 (.t 0),
       .new 3 (.t 1),
       .mv 4 (.c (I 0))])
    (.seq
     (.reg [.fa 5 (.t 2) 0,
       .ld 6 false 1 (.t 5),
       .fun 7 (.func F.impl_ClauseAt_1) [] [(.t 3)],
       .call (some 8) (.c (Fc F.slices_IndexFunc_impl_Clause_impl_Clause)) [(.t 6), (.t 7)] (.ro false),
       .mv 4 (.t 8)])
    (.keep [4]
     .ret)))
def A.laws_eqDb : AF where
  nargs := 2
  ntmps := 17
  res := [.tmp 4]
  body :=
    (.seq
     (.reg [.new 2 (.t 0),
       .new 3 (.t 1),
       .mv 4 (.c (B false))])
    (.seq
     (.seq
      (.reg [.fa 5 (.t 2) 0,
        .ld 6 false 1 (.t 5),
        .fa 7 (.t 3) 0,
        .ld 8 false 1 (.t 7),
        .call (some 9) (.c (Fc F.laws_eqClauseS)) [(.t 6), (.t 8)] (.ro true),
        .un 10 .not (.t 9)])
     (.keep [2, 3, 10]
      (.cond (.t 10)
       (.seq
        (.reg [.mv 4 (.c (B false))])
       (.keep [4]
        .ret))
       .skip)))
    (.keep [2, 3]
     (.seq
      (.seq
       (.reg [.fa 11 (.t 2) 1,
         .ld 12 false 1 (.t 11),
         .fa 13 (.t 3) 1,
         .ld 14 false 1 (.t 13),
         .call (some 15) (.c (Fc F.laws_eqStringS)) [(.t 12), (.t 14)] (.ro true),
         .un 16 .not (.t 15)])
      (.keep [16]
       (.cond (.t 16)
        (.seq
         (.reg [.mv 4 (.c (B false))])
        (.keep [4]
         .ret))
        .skip)))
     (.keep []
      (.seq
       (.reg [.mv 4 (.c (B true))])
      (.keep [4]
       .ret)))))))
def A.spec_SameSet : AF where
  nargs := 2
  ntmps := 21
  res := [.tmp 4]
  body :=
    (.seq
     (.reg [.new 2 (.t 0),
       .new 3 (.t 1),
       .mv 4 (.c (B false))])
    (.seq
     (.reg [.ld 8 true 2 (.t 2),
       .ld 9 true 2 (.t 3),
       .call (some 10) (.c (Fc F.spec_DiffDb)) [(.t 8), (.t 9)] (.ro false),
       .mv 7 (.t 10),
       .ext 11 (.t 7) 0,
       .ext 12 (.t 7) 1,
       .mv 5 (.t 11),
       .mv 6 (.t 12)])
    (.keep [5, 6]
     (.seq
      (.reg [.mv 13 (.t 5),
        .len 14 (.t 13),
        .bin 15 .eql (.t 14) (.c (I 0)),
        .mv 16 (.t 15),
        .gd 16 true (some 17) (.mv 17 (.t 6)),
        .gd 16 true (some 18) (.len 18 (.t 17)),
        .gd 16 true (some 19) (.bin 19 .eql (.t 18) (.c (I 0))),
        .pick 20 (.t 16) (.t 19) (.c (B false)),
        .mv 4 (.t 20)])
     (.keep [4]
      .ret)))))
def A.impl_SameSet : AF where
  nargs := 2
  ntmps := 19
  res := [.tmp 4]
  body :=
    (.seq
     (.reg [.new 2 (.t 0),
       .new 3 (.t 1),
       .mv 4 (.c (B false))])
    (.seq
     (.reg [.ld 8 true 2 (.t 2),
       .ld 9 true 2 (.t 3),
       .call (some 10) (.c (Fc F.impl_DiffDb)) [(.t 8), (.t 9)] (.ro false),
       .mv 7 (.t 10),
       .ext 11 (.t 7) 0,
       .ext 12 (.t 7) 1,
       .mv 5 (.t 11),
       .mv 6 (.t 12)])
    (.keep [5, 6]
     (.seq
      (.reg [.mv 13 (.t 5),
        .len 14 (.t 13),
        .mv 15 (.t 6),
        .len 16 (.t 15),
        .bin 17 .add (.t 14) (.t 16),
        .bin 18 .eql (.t 17) (.c (I 0)),
        .mv 4 (.t 18)])
     (.keep [4]
      .ret)))))
def LB.laws_szTermS_0 : AC :=
         (.seq
          (.seq
           (.reg [.mv 12 (.t 5),
             .mv 13 (.t 0),
             .len 14 (.t 13),
             .bin 15 .lss (.t 12) (.t 14)])
          (.keep [0, 1, 5, 15]
           (.cond (.t 15)
            .skip
            (.keep [1]
             (.exit 0)))))
         (.keep [0, 1, 5]
          (.seq
           (.block 1
            (.seq
             (.reg [.mv 18 (.t 0),
               .mv 19 (.t 5),
               .ia 20 4 (.t 18) (.t 19),
               .ld 21 true 4 (.t 20),
               .mv 22 (.t 1),
               .call (some 23) (.c (Fc F.laws_szTerm)) [(.t 21), (.t 22)] (.ro false),
               .mv 1 (.t 23)])
            (.keep [0, 1, 5]
             (.seq
              (.reg [.mv 24 (.t 1),
                .bin 25 .lss (.t 24) (.c (I 0))])
             (.cond (.t 25)
              (.seq
               (.reg [.mv 4 (.c (I (-1)))])
              (.keep [4]
               .ret))
              .skip)))))
          (.keep [0, 1, 5]
           (.reg [.mv 16 (.t 5),
             .bin 17 .add (.t 16) (.c (I 1)),
             .mv 5 (.t 17)])))))
def L.laws_szTermS_0 : Lp := ⟨[0, 1, 5], [(2, 0)], LB.laws_szTermS_0⟩
@[go_sem] theorem L.laws_szTermS_0_ls : L.laws_szTermS_0.ls = [0, 1, 5] := rfl
@[go_sem] theorem L.laws_szTermS_0_ks : L.laws_szTermS_0.ks = [(2, 0)] := rfl
@[go_sem] theorem L.laws_szTermS_0_b : L.laws_szTermS_0.body = LB.laws_szTermS_0 := rfl
def A.laws_szTermS : AF where
  nargs := 2
  ntmps := 27
  res := [.tmp 4]
  body :=
    (.seq
     (.reg [.mv 4 (.c (I 0))])
    (.seq
     (.reg [.mv 6 (.t 1),
       .mv 7 (.t 0),
       .len 8 (.t 7),
       .bin 9 .sub (.t 6) (.t 8),
       .mv 1 (.t 9)])
    (.keep [0, 1]
     (.seq
      (.seq
       (.reg [.mv 10 (.t 1),
         .bin 11 .lss (.t 10) (.c (I 0))])
      (.cond (.t 11)
       (.seq
        (.reg [.mv 4 (.c (I (-1)))])
       (.keep [4]
        .ret))
       .skip))
     (.keep [0, 1]
      (.seq
       (.seq
        (.reg [.mv 5 (.c (I 0))])
       (.block 0
        (lpC L.laws_szTermS_0)))
      (.keep [1]
       (.seq
        (.reg [.mv 26 (.t 1),
          .mv 4 (.t 26)])
       (.keep [4]
        .ret)))))))))
def A.spec_InfixOf : AF where
  nargs := 1
  ntmps := 42
  res := [.cell 2 true 4, .tmp 3]
  body :=
    (.seq
     (.reg [.new 2 (.c (.a [(S []), (I 0), (I 0), (I 0)])),
       .mv 3 (.c (B false))])
    (.seq
     (.seq
      (.reg [.mv 4 (.t 0)])
     (.block 0
      (.seq
       (.seq
        (.reg [.bin 6 .eql (.t 4) (.c (S [58, 45])),
          .mv 5 (.t 6)])
       (.cond (.t 5)
        .skip
        (.reg [.bin 7 .eql (.t 4) (.c (S [45, 45, 62])),
          .mv 5 (.t 7)])))
      (.keep [0, 2, 4, 5]
       (.cond (.t 5)
        (.seq
         (.reg [.mv 8 (.t 0),
           .build 9 (.a [(S []), (I 0), (I 0), (I 0)]) [(0, 1, (.t 8)), (1, 1, (.c (I 1200))), (2, 1, (.c (I 1199))), (3, 1, (.c (I 1199)))],
           .st 4 (.t 2) (.t 9),
           .mv 3 (.c (B true))])
        (.keep [2, 3]
         .ret))
        (.seq
         (.reg [.bin 11 .eql (.t 4) (.c (S [59])),
           .mv 10 (.t 11)])
        (.cond (.t 10)
         (.seq
          (.reg [.mv 12 (.t 0),
            .build 13 (.a [(S []), (I 0), (I 0), (I 0)]) [(0, 1, (.t 12)), (1, 1, (.c (I 1100))), (2, 1, (.c (I 1099))), (3, 1, (.c (I 1100)))],
            .st 4 (.t 2) (.t 13),
            .mv 3 (.c (B true))])
         (.keep [2, 3]
          .ret))
         (.seq
          (.reg [.bin 15 .eql (.t 4) (.c (S [45, 62])),
            .mv 14 (.t 15)])
         (.cond (.t 14)
          (.seq
           (.reg [.mv 16 (.t 0),
             .build 17 (.a [(S []), (I 0), (I 0), (I 0)]) [(0, 1, (.t 16)), (1, 1, (.c (I 1050))), (2, 1, (.c (I 1049))), (3, 1, (.c (I 1050)))],
             .st 4 (.t 2) (.t 17),
             .mv 3 (.c (B true))])
          (.keep [2, 3]
           .ret))
          (.seq
           (.reg [.bin 19 .eql (.t 4) (.c (S [44])),
             .mv 18 (.t 19)])
          (.cond (.t 18)
           (.seq
            (.reg [.mv 20 (.t 0),
              .build 21 (.a [(S []), (I 0), (I 0), (I 0)]) [(0, 1, (.t 20)), (1, 1, (.c (I 1000))), (2, 1, (.c (I 999))), (3, 1, (.c (I 1000)))],
              .st 4 (.t 2) (.t 21),
              .mv 3 (.c (B true))])
           (.keep [2, 3]
            .ret))
           (.seq
            (.seq
             (.reg [.bin 23 .eql (.t 4) (.c (S [61])),
               .mv 22 (.t 23)])
            (.cond (.t 22)
             .skip
             (.seq
              (.reg [.bin 24 .eql (.t 4) (.c (S [92, 61])),
                .mv 22 (.t 24)])
             (.cond (.t 22)
              .skip
              (.seq
               (.reg [.bin 25 .eql (.t 4) (.c (S [61, 61])),
                 .mv 22 (.t 25)])
              (.cond (.t 22)
               .skip
               (.seq
                (.reg [.bin 26 .eql (.t 4) (.c (S [105, 115])),
                  .mv 22 (.t 26)])
               (.cond (.t 22)
                .skip
                (.seq
                 (.reg [.bin 27 .eql (.t 4) (.c (S [60])),
                   .mv 22 (.t 27)])
                (.cond (.t 22)
                 .skip
                 (.reg [.bin 28 .eql (.t 4) (.c (S [61, 58, 61])),
                   .mv 22 (.t 28)])))))))))))
           (.keep [0, 2, 4, 22]
            (.cond (.t 22)
             (.seq
              (.reg [.mv 29 (.t 0),
                .build 30 (.a [(S []), (I 0), (I 0), (I 0)]) [(0, 1, (.t 29)), (1, 1, (.c (I 700))), (2, 1, (.c (I 699))), (3, 1, (.c (I 699)))],
                .st 4 (.t 2) (.t 30),
                .mv 3 (.c (B true))])
             (.keep [2, 3]
              .ret))
             (.seq
              (.seq
               (.reg [.bin 32 .eql (.t 4) (.c (S [43])),
                 .mv 31 (.t 32)])
              (.cond (.t 31)
               .skip
               (.reg [.bin 33 .eql (.t 4) (.c (S [45])),
                 .mv 31 (.t 33)])))
             (.keep [0, 2, 4, 31]
              (.cond (.t 31)
               (.seq
                (.reg [.mv 34 (.t 0),
                  .build 35 (.a [(S []), (I 0), (I 0), (I 0)]) [(0, 1, (.t 34)), (1, 1, (.c (I 500))), (2, 1, (.c (I 500))), (3, 1, (.c (I 499)))],
                  .st 4 (.t 2) (.t 35),
                  .mv 3 (.c (B true))])
               (.keep [2, 3]
                .ret))
               (.seq
                (.seq
                 (.reg [.bin 37 .eql (.t 4) (.c (S [42])),
                   .mv 36 (.t 37)])
                (.cond (.t 36)
                 .skip
                 (.reg [.bin 38 .eql (.t 4) (.c (S [47, 47])),
                   .mv 36 (.t 38)])))
               (.keep [0, 2, 36]
                (.cond (.t 36)
                 (.seq
                  (.reg [.mv 39 (.t 0),
                    .build 40 (.a [(S []), (I 0), (I 0), (I 0)]) [(0, 1, (.t 39)), (1, 1, (.c (I 400))), (2, 1, (.c (I 400))), (3, 1, (.c (I 399)))],
                    .st 4 (.t 2) (.t 40),
                    .mv 3 (.c (B true))])
                 (.keep [2, 3]
                  .ret))
                 .skip))))))))))))))))))))
    (.keep [2]
     (.seq
      (.reg [.build 41 (.a [(S []), (I 0), (I 0), (I 0)]) [],
        .st 4 (.t 2) (.t 41),
        .mv 3 (.c (B false))])
     (.keep [2, 3]
      .ret)))))
def LB.laws_toTermS_0 : AC :=
        (.seq
         (.seq
          (.reg [.mv 8 (.t 4),
            .mv 9 (.t 0),
            .len 10 (.t 9),
            .bin 11 .lss (.t 8) (.t 10)])
         (.keep [0, 3, 4, 11]
          (.cond (.t 11)
           .skip
           (.keep [3]
            (.exit 0)))))
        (.keep [0, 3, 4]
         (.seq
          (.block 1
           (.reg [.mv 14 (.t 3),
             .mv 15 (.t 4),
             .mv 16 (.t 0),
             .mv 17 (.t 4),
             .ia 18 4 (.t 16) (.t 17),
             .ld 19 true 4 (.t 18),
             .call (some 20) (.c (Fc F.laws_toTerm)) [(.t 19)] (.ro false),
             .ia 21 4 (.t 14) (.t 15),
             .st 4 (.t 21) (.t 20)]))
         (.keep [0, 3, 4]
          (.reg [.mv 12 (.t 4),
            .bin 13 .add (.t 12) (.c (I 1)),
            .mv 4 (.t 13)])))))
def L.laws_toTermS_0 : Lp := ⟨[0, 3, 4], [(1, 0)], LB.laws_toTermS_0⟩
@[go_sem] theorem L.laws_toTermS_0_ls : L.laws_toTermS_0.ls = [0, 3, 4] := rfl
@[go_sem] theorem L.laws_toTermS_0_ks : L.laws_toTermS_0.ks = [(1, 0)] := rfl
@[go_sem] theorem L.laws_toTermS_0_b : L.laws_toTermS_0.body = LB.laws_toTermS_0 := rfl
def A.laws_toTermS : AF where
  nargs := 1
  ntmps := 23
  res := [.tmp 2]
  body :=
    (.seq
     (.reg [.mv 2 (.c (.n 4))])
    (.seq
     (.reg [.mv 5 (.t 0),
       .len 6 (.t 5),
       .mk 7 4 (.a [(I 0), (S []), (I 0), (.n 4)]) 56 (.t 6) (.t 6),
       .mv 3 (.t 7)])
    (.keep [0, 3]
     (.seq
      (.seq
       (.reg [.mv 4 (.c (I 0))])
      (.block 0
       (lpC L.laws_toTermS_0)))
     (.keep [3]
      (.seq
       (.reg [.mv 22 (.t 3),
         .mv 2 (.t 22)])
      (.keep [2]
       .ret)))))))
def A.impl_isInfix : AF where
  nargs := 1
  ntmps := 23
  res := [.tmp 2]
  body :=
    (.seq
     (.reg [.new 1 (.t 0),
       .mv 2 (.c (B false))])
    (.seq
     (.reg [.fa 6 (.t 1) 1,
       .ld 7 false 1 (.t 6),
       .call (some 8) (.c (Fc F.impl_InfixOf)) [(.t 7)] (.ro false),
       .mv 5 (.t 8),
       .ext 9 (.t 5) 0,
       .ext 10 (.t 5) 1,
       .new 3 (.c (.a [(S []), (I 0), (I 0), (I 0)])),
       .st 4 (.t 3) (.t 9),
       .mv 4 (.t 10)])
    (.keep [1, 4]
     (.seq
      (.reg [.mv 11 (.t 4),
        .mv 12 (.t 11),
        .gd 12 true (some 13) (.fa 13 (.t 1) 0),
        .gd 12 true (some 14) (.ld 14 false 1 (.t 13)),
        .gd 12 true (some 15) (.bin 15 .eql (.t 14) (.c (I 4))),
        .pick 16 (.t 12) (.t 15) (.c (B false)),
        .mv 17 (.t 16),
        .gd 17 true (some 18) (.fa 18 (.t 1) 3),
        .gd 17 true (some 19) (.ld 19 false 1 (.t 18)),
        .gd 17 true (some 20) (.len 20 (.t 19)),
        .gd 17 true (some 21) (.bin 21 .eql (.t 20) (.c (I 2))),
        .pick 22 (.t 17) (.t 21) (.c (B false)),
        .mv 2 (.t 22)])
     (.keep [2]
      .ret)))))
def A.impl_InfixOf : AF where
  nargs := 1
  ntmps := 42
  res := [.cell 2 true 4, .tmp 3]
  body :=
    (.seq
     (.reg [.new 2 (.c (.a [(S []), (I 0), (I 0), (I 0)])),
       .mv 3 (.c (B false))])
    (.seq
     (.seq
      (.reg [.mv 4 (.t 0)])
     (.block 0
      (.seq
       (.seq
        (.reg [.bin 6 .eql (.t 4) (.c (S [58, 45])),
          .mv 5 (.t 6)])
       (.cond (.t 5)
        .skip
        (.reg [.bin 7 .eql (.t 4) (.c (S [45, 45, 62])),
          .mv 5 (.t 7)])))
      (.keep [0, 2, 4, 5]
       (.cond (.t 5)
        (.seq
         (.reg [.mv 8 (.t 0),
           .build 9 (.a [(S []), (I 0), (I 0), (I 0)]) [(0, 1, (.t 8)), (1, 1, (.c (I 1200))), (2, 1, (.c (I 1199))), (3, 1, (.c (I 1199)))],
           .st 4 (.t 2) (.t 9),
           .mv 3 (.c (B true))])
        (.keep [2, 3]
         .ret))
        (.seq
         (.reg [.bin 11 .eql (.t 4) (.c (S [59])),
           .mv 10 (.t 11)])
        (.cond (.t 10)
         (.seq
          (.reg [.mv 12 (.t 0),
            .build 13 (.a [(S []), (I 0), (I 0), (I 0)]) [(0, 1, (.t 12)), (1, 1, (.c (I 1100))), (2, 1, (.c (I 1099))), (3, 1, (.c (I 1100)))],
            .st 4 (.t 2) (.t 13),
            .mv 3 (.c (B true))])
         (.keep [2, 3]
          .ret))
         (.seq
          (.reg [.bin 15 .eql (.t 4) (.c (S [45, 62])),
            .mv 14 (.t 15)])
         (.cond (.t 14)
          (.seq
           (.reg [.mv 16 (.t 0),
             .build 17 (.a [(S []), (I 0), (I 0), (I 0)]) [(0, 1, (.t 16)), (1, 1, (.c (I 1050))), (2, 1, (.c (I 1049))), (3, 1, (.c (I 1050)))],
             .st 4 (.t 2) (.t 17),
             .mv 3 (.c (B true))])
          (.keep [2, 3]
           .ret))
          (.seq
           (.reg [.bin 19 .eql (.t 4) (.c (S [44])),
             .mv 18 (.t 19)])
          (.cond (.t 18)
           (.seq
            (.reg [.mv 20 (.t 0),
              .build 21 (.a [(S []), (I 0), (I 0), (I 0)]) [(0, 1, (.t 20)), (1, 1, (.c (I 1000))), (2, 1, (.c (I 999))), (3, 1, (.c (I 1000)))],
              .st 4 (.t 2) (.t 21),
              .mv 3 (.c (B true))])
           (.keep [2, 3]
            .ret))
           (.seq
            (.seq
             (.reg [.bin 23 .eql (.t 4) (.c (S [61])),
               .mv 22 (.t 23)])
            (.cond (.t 22)
             .skip
             (.seq
              (.reg [.bin 24 .eql (.t 4) (.c (S [92, 61])),
                .mv 22 (.t 24)])
             (.cond (.t 22)
              .skip
              (.seq
               (.reg [.bin 25 .eql (.t 4) (.c (S [61, 61])),
                 .mv 22 (.t 25)])
              (.cond (.t 22)
               .skip
               (.seq
                (.reg [.bin 26 .eql (.t 4) (.c (S [105, 115])),
                  .mv 22 (.t 26)])
               (.cond (.t 22)
                .skip
                (.seq
                 (.reg [.bin 27 .eql (.t 4) (.c (S [60])),
                   .mv 22 (.t 27)])
                (.cond (.t 22)
                 .skip
                 (.reg [.bin 28 .eql (.t 4) (.c (S [61, 58, 61])),
                   .mv 22 (.t 28)])))))))))))
           (.keep [0, 2, 4, 22]
            (.cond (.t 22)
             (.seq
              (.reg [.mv 29 (.t 0),
                .build 30 (.a [(S []), (I 0), (I 0), (I 0)]) [(0, 1, (.t 29)), (1, 1, (.c (I 700))), (2, 1, (.c (I 699))), (3, 1, (.c (I 699)))],
                .st 4 (.t 2) (.t 30),
                .mv 3 (.c (B true))])
             (.keep [2, 3]
              .ret))
             (.seq
              (.seq
               (.reg [.bin 32 .eql (.t 4) (.c (S [43])),
                 .mv 31 (.t 32)])
              (.cond (.t 31)
               .skip
               (.reg [.bin 33 .eql (.t 4) (.c (S [45])),
                 .mv 31 (.t 33)])))
             (.keep [0, 2, 4, 31]
              (.cond (.t 31)
               (.seq
                (.reg [.mv 34 (.t 0),
                  .build 35 (.a [(S []), (I 0), (I 0), (I 0)]) [(0, 1, (.t 34)), (1, 1, (.c (I 500))), (2, 1, (.c (I 500))), (3, 1, (.c (I 499)))],
                  .st 4 (.t 2) (.t 35),
                  .mv 3 (.c (B true))])
               (.keep [2, 3]
                .ret))
               (.seq
                (.seq
                 (.reg [.bin 37 .eql (.t 4) (.c (S [42])),
                   .mv 36 (.t 37)])
                (.cond (.t 36)
                 .skip
                 (.reg [.bin 38 .eql (.t 4) (.c (S [47, 47])),
                   .mv 36 (.t 38)])))
               (.keep [0, 2, 36]
                (.cond (.t 36)
                 (.seq
                  (.reg [.mv 39 (.t 0),
                    .build 40 (.a [(S []), (I 0), (I 0), (I 0)]) [(0, 1, (.t 39)), (1, 1, (.c (I 400))), (2, 1, (.c (I 400))), (3, 1, (.c (I 399)))],
                    .st 4 (.t 2) (.t 40),
                    .mv 3 (.c (B true))])
                 (.keep [2, 3]
                  .ret))
                 .skip))))))))))))))))))))
    (.keep [2]
     (.seq
      (.reg [.build 41 (.a [(S []), (I 0), (I 0), (I 0)]) [],
        .st 4 (.t 2) (.t 41),
        .mv 3 (.c (B false))])
     (.keep [2, 3]
      .ret)))))
def LB.laws_eqTermS_0 : AC :=
        (.seq
         (.seq
          (.reg [.mv 11 (.t 5),
            .mv 12 (.t 0),
            .len 13 (.t 12),
            .bin 14 .lss (.t 11) (.t 13)])
         (.keep [0, 1, 5, 14]
          (.cond (.t 14)
           .skip
           (.keep []
            (.exit 0)))))
        (.keep [0, 1, 5]
         (.seq
          (.block 1
           (.seq
            (.dreg [⟨0, []⟩, ⟨0, []⟩, ⟨0, [(0, 0), (0, 1), (0, 2), (0, 3), (100000, 0), (100000, 1), (100000, 2), (100000, 3), (100000, 4), (100000, 5)]⟩, ⟨0, [(0, 0), (0, 1), (0, 2), (0, 3), (100000, 0), (100000, 1), (100000, 2), (100000, 3), (100000, 4), (100000, 5)]⟩, ⟨0, []⟩, ⟨0, []⟩, ⟨0, [(1, 0), (1, 1), (1, 2), (1, 3), (100000, 0), (100000, 1), (100000, 2), (100000, 3), (100000, 4), (100000, 5)]⟩, ⟨0, [(1, 0), (1, 1), (1, 2), (1, 3), (100000, 0), (100000, 1), (100000, 2), (100000, 3), (100000, 4), (100000, 5)]⟩, ⟨2, [(0, 0), (0, 1), (0, 2), (0, 3), (1, 0), (1, 1), (1, 2), (1, 3), (20, 0), (24, 0), (100000, 0), (100000, 1), (100000, 2), (100000, 3), (100000, 4), (100000, 5)]⟩, ⟨0, []⟩]
             [.mv 17 (.t 0),
              .mv 18 (.t 5),
              .ia 19 4 (.t 17) (.t 18),
              .ldq 20 true 4 (.t 19),
              .mv 21 (.t 1),
              .mv 22 (.t 5),
              .ia 23 4 (.t 21) (.t 22),
              .ldq 24 true 4 (.t 23),
              .call (some 25) (.c (Fc F.laws_eqTerm)) [(.t 20), (.t 24)] (.ro true),
              .un 26 .not (.t 25)])
           (.keep [0, 1, 5, 26]
            (.cond (.t 26)
             (.seq
              (.reg [.mv 4 (.c (B false))])
             (.keep [4]
              .ret))
             .skip))))
         (.keep [0, 1, 5]
          (.reg [.mv 15 (.t 5),
            .bin 16 .add (.t 15) (.c (I 1)),
            .mv 5 (.t 16)])))))
def L.laws_eqTermS_0 : Lp := ⟨[0, 1, 5], [(2, 0)], LB.laws_eqTermS_0⟩
@[go_sem] theorem L.laws_eqTermS_0_ls : L.laws_eqTermS_0.ls = [0, 1, 5] := rfl
@[go_sem] theorem L.laws_eqTermS_0_ks : L.laws_eqTermS_0.ks = [(2, 0)] := rfl
@[go_sem] theorem L.laws_eqTermS_0_b : L.laws_eqTermS_0.body = LB.laws_eqTermS_0 := rfl
def A.laws_eqTermS : AF where
  nargs := 2
  ntmps := 27
  res := [.tmp 4]
  body :=
    (.seq
     (.reg [.mv 4 (.c (B false))])
    (.seq
     (.seq
      (.reg [.mv 6 (.t 0),
        .len 7 (.t 6),
        .mv 8 (.t 1),
        .len 9 (.t 8),
        .bin 10 .neq (.t 7) (.t 9)])
     (.keep [0, 1, 10]
      (.cond (.t 10)
       (.seq
        (.reg [.mv 4 (.c (B false))])
       (.keep [4]
        .ret))
       .skip)))
    (.keep [0, 1]
     (.seq
      (.seq
       (.reg [.mv 5 (.c (I 0))])
      (.block 0
       (lpC L.laws_eqTermS_0)))
     (.keep []
      (.seq
       (.reg [.mv 4 (.c (B true))])
      (.keep [4]
       .ret)))))))
def A.spec_ClauseTerm : AF where
  nargs := 1
  ntmps := 8
  res := [.cell 2 true 4]
  body :=
    (.seq
     (.reg [.new 1 (.t 0),
       .new 2 (.c (.a [(I 0), (S []), (I 0), (.n 4)]))])
    (.seq
     (.reg [.ld 4 true 9 (.t 1),
       .call (some 5) (.c (Fc F.spec_l08ClauseTermRaw)) [(.t 4)] (.ro false),
       .new 3 (.c (.a [(I 0), (S []), (I 0), (.n 4)])),
       .st 4 (.t 3) (.t 5)])
    (.keep [2, 3]
     (.seq
      (.reg [.ld 6 true 4 (.t 3),
        .call (some 7) (.c (Fc F.spec_l34Term)) [(.t 6)] (.ro false),
        .st 4 (.t 2) (.t 7)])
     (.keep [2]
      .ret)))))
def A.spec_VarsOf : AF where
  nargs := 1
  ntmps := 6
  res := [.tmp 2]
  body :=
    (.seq
     (.reg [.new 1 (.t 0),
       .mv 2 (.c (.n 1))])
    (.seq
     (.reg [.ld 3 true 4 (.t 1),
       .mks 4 1 [],
       .call (some 5) (.c (Fc F.spec_l03Vars)) [(.t 3), (.t 4)] (.io false),
       .mv 2 (.t 5)])
    (.keep [2]
     .ret)))
def LB.spec_l11Named_0 : AC :=
        (.seq
         (.seq
          (.reg [.mv 22 (.t 8),
            .fa 23 (.t 3) 3,
            .ld 24 false 1 (.t 23),
            .len 25 (.t 24),
            .bin 26 .lss (.t 22) (.t 25)])
         (.keep [1, 2, 3, 6, 7, 8, 26]
          (.cond (.t 26)
           .skip
           (.keep [6, 7]
            (.exit 0)))))
        (.keep [1, 2, 3, 6, 7, 8]
         (.seq
          (.block 1
           (.dreg [⟨0, []⟩, ⟨0, [(0, 0), (0, 1), (0, 2), (0, 3), (1, 0), (1, 1), (1, 2), (1, 3), (2, 0), (2, 1), (2, 2), (2, 3), (3, 0), (7, 0), (9, 0), (16, 0), (17, 0), (17, 1), (17, 2), (17, 3), (20, 0), (32, 0), (35, 0), (100000, 0), (100000, 1), (100000, 2), (100000, 3), (100000, 4), (100000, 5)]⟩, ⟨0, []⟩, ⟨0, [(0, 0), (0, 1), (0, 2), (0, 3), (3, 0), (100000, 0), (100000, 1), (100000, 2), (100000, 3), (100000, 4), (100000, 5)]⟩, ⟨0, []⟩, ⟨0, [(0, 0), (0, 1), (0, 2), (0, 3), (3, 0), (32, 0), (100000, 0), (100000, 1), (100000, 2), (100000, 3), (100000, 4), (100000, 5)]⟩, ⟨0, [(0, 0), (0, 1), (0, 2), (0, 3), (3, 0), (32, 0), (100000, 0), (100000, 1), (100000, 2), (100000, 3), (100000, 4), (100000, 5)]⟩, ⟨0, []⟩, ⟨0, []⟩, ⟨2, [(0, 0), (0, 1), (0, 2), (0, 3), (1, 0), (1, 1), (1, 2), (1, 3), (2, 0), (2, 1), (2, 2), (2, 3), (3, 0), (32, 0), (35, 0), (100000, 0), (100000, 1), (100000, 2), (100000, 3), (100000, 4), (100000, 5)]⟩, ⟨1, []⟩, ⟨1, [(0, 0), (0, 1), (0, 2), (0, 3), (1, 0), (1, 1), (1, 2), (1, 3), (2, 0), (2, 1), (2, 2), (2, 3), (3, 0), (7, 0), (9, 0), (16, 0), (17, 0), (17, 1), (17, 2), (17, 3), (20, 0), (30, 0), (32, 0), (35, 0), (38, 0), (38, 1), (38, 2), (38, 3), (39, 0), (100000, 0), (100000, 1), (100000, 2), (100000, 3), (100000, 4), (100000, 5)]⟩, ⟨0, []⟩, ⟨1, [(0, 0), (0, 1), (0, 2), (0, 3), (1, 0), (1, 1), (1, 2), (1, 3), (2, 0), (2, 1), (2, 2), (2, 3), (3, 0), (7, 0), (9, 0), (16, 0), (17, 0), (17, 1), (17, 2), (17, 3), (20, 0), (30, 0), (32, 0), (35, 0), (38, 0), (38, 1), (38, 2), (38, 3), (39, 0), (40, 0), (100000, 0), (100000, 1), (100000, 2), (100000, 3), (100000, 4), (100000, 5)]⟩]
            [.fa 29 (.t 7) 3,
             .ldq 30 false 1 (.t 29),
             .fa 31 (.t 3) 3,
             .ldq 32 false 1 (.t 31),
             .mv 33 (.t 8),
             .ia 34 4 (.t 32) (.t 33),
             .ldq 35 true 4 (.t 34),
             .mv 36 (.t 1),
             .mv 37 (.t 2),
             .call (some 38) (.c (Fc F.spec_l11Named)) [(.t 35), (.t 36), (.t 37)] (.ro false),
             .mks 39 4 [(.t 38)],
             .app 40 4 56 (.t 30) (.t 39),
             .fa 41 (.t 7) 3,
             .st 1 (.t 41) (.t 40)]))
         (.keep [1, 2, 3, 6, 7, 8]
          (.reg [.mv 27 (.t 8),
            .bin 28 .add (.t 27) (.c (I 1)),
            .mv 8 (.t 28)])))))
def L.spec_l11Named_0 : Lp := ⟨[1, 2, 3, 6, 7, 8], [(3, 0)], LB.spec_l11Named_0⟩
@[go_sem] theorem L.spec_l11Named_0_ls : L.spec_l11Named_0.ls = [1, 2, 3, 6, 7, 8] := rfl
@[go_sem] theorem L.spec_l11Named_0_ks : L.spec_l11Named_0.ks = [(3, 0)] := rfl
@[go_sem] theorem L.spec_l11Named_0_b : L.spec_l11Named_0.body = LB.spec_l11Named_0 := rfl
def A.spec_l11Named : AF where
  nargs := 3
  ntmps := 43
  res := [.cell 6 true 4]
  body :=
    (.seq
     (.reg [.new 3 (.t 0),
       .new 6 (.c (.a [(I 0), (S []), (I 0), (.n 4)]))])
    (.seq
     (.reg [.ld 9 true 4 (.t 3),
       .new 7 (.c (.a [(I 0), (S []), (I 0), (.n 4)])),
       .st 4 (.t 7) (.t 9)])
    (.seq
     (.seq
      (.reg [.fa 10 (.t 3) 0,
        .ld 11 false 1 (.t 10),
        .bin 12 .eql (.t 11) (.c (I 1))])
     (.cond (.t 12)
      (.reg [.mv 13 (.t 2),
        .mv 14 (.t 1),
        .fa 15 (.t 3) 2,
        .ld 16 false 1 (.t 15),
        .call (some 17) (.c (Fc F.spec_l03At)) [(.t 14), (.t 16)] (.ro false),
        .bin 18 .add (.t 13) (.t 17),
        .fa 19 (.t 7) 2,
        .st 1 (.t 19) (.t 18)])
      .skip))
    (.keep [1, 2, 3, 6, 7]
     (.seq
      (.reg [.mks 20 4 [],
        .fa 21 (.t 7) 3,
        .st 1 (.t 21) (.t 20)])
     (.seq
      (.seq
       (.reg [.mv 8 (.c (I 0))])
      (.block 0
       (lpC L.spec_l11Named_0)))
     (.keep [6, 7]
      (.seq
       (.reg [.ld 42 true 4 (.t 7),
         .st 4 (.t 6) (.t 42)])
      (.keep [6]
       .ret)))))))))
def A.impl_fresh : AF where
  nargs := 2
  ntmps := 11
  res := [.cell 4 true 4]
  body :=
    (.seq
     (.reg [.new 2 (.t 0),
       .new 3 (.t 1),
       .new 4 (.c (.a [(I 0), (S []), (I 0), (.n 4)]))])
    (.seq
     (.reg [.ld 6 true 4 (.t 2),
       .call (some 7) (.c (Fc F.impl_VarsOf)) [(.t 6)] (.ro false),
       .new 5 (.c (.n 1)),
       .st 1 (.t 5) (.t 7)])
    (.keep [2, 3, 4, 5]
     (.seq
      (.reg [.ld 8 true 4 (.t 2),
        .fun 9 (.func F.impl_fresh_1) [] [(.t 3), (.t 5)],
        .call (some 10) (.c (Fc F.impl_renamed)) [(.t 8), (.t 9)] (.ro false),
        .st 4 (.t 4) (.t 10)])
     (.keep [4]
      .ret)))))
def A.impl_ClauseTerm : AF where
  nargs := 1
  ntmps := 11
  res := [.cell 2 true 4]
  body :=
    (.seq
     (.reg [.new 1 (.t 0),
       .new 2 (.c (.a [(I 0), (S []), (I 0), (.n 4)]))])
    (.seq
     (.dreg [⟨0, []⟩, ⟨0, [(0, 0), (0, 1), (0, 2), (0, 3), (1, 0)]⟩, ⟨2, [(0, 0), (0, 1), (0, 2), (0, 3), (1, 0), (4, 0)]⟩, ⟨0, []⟩, ⟨0, [(0, 0), (0, 1), (0, 2), (0, 3), (1, 0)]⟩, ⟨2, [(0, 0), (0, 1), (0, 2), (0, 3), (1, 0), (7, 0)]⟩, ⟨1, []⟩, ⟨1, [(0, 0), (0, 1), (0, 2), (0, 3), (1, 0), (4, 0), (5, 0), (5, 1), (5, 2), (5, 3), (7, 0), (8, 0), (8, 1), (8, 2), (8, 3), (9, 0)]⟩, ⟨1, [(0, 0), (0, 1), (0, 2), (0, 3), (1, 0), (2, 0), (4, 0), (5, 0), (5, 1), (5, 2), (5, 3), (7, 0), (8, 0), (8, 1), (8, 2), (8, 3), (9, 0), (10, 0), (10, 1), (10, 2), (10, 3)]⟩]
      [.fa 3 (.t 1) 0,
       .ldq 4 true 4 (.t 3),
       .call (some 5) (.c (Fc F.impl_copyTerm)) [(.t 4)] (.ro false),
       .fa 6 (.t 1) 4,
       .ldq 7 true 4 (.t 6),
       .call (some 8) (.c (Fc F.impl_copyTerm)) [(.t 7)] (.ro false),
       .mks 9 4 [(.t 5), (.t 8)],
       .call (some 10) (.c (Fc F.impl_structure)) [(.c (S [58, 45])), (.t 9)] (.io false),
       .st 4 (.t 2) (.t 10)])
    (.keep [2]
     .ret)))
def A.laws_markTerm : AF where
  nargs := 2
  ntmps := 10
  res := [.tmp 4]
  body :=
    (.seq
     (.reg [.new 2 (.t 0),
       .mv 4 (.c (I 0))])
    (.seq
     (.reg [.fa 5 (.t 2) 3,
       .ld 6 false 1 (.t 5),
       .mv 7 (.t 1),
       .call (some 8) (.c (Fc F.laws_markTermS)) [(.t 6), (.t 7)] (.io false),
       .mv 1 (.t 8)])
    (.keep [1]
     (.seq
      (.reg [.mv 9 (.t 1),
        .mv 4 (.t 9)])
     (.keep [4]
      .ret)))))
def A.laws_heldTerm : AF where
  nargs := 2
  ntmps := 12
  res := [.tmp 4]
  body :=
    (.seq
     (.reg [.new 2 (.t 0),
       .mv 4 (.c (I 0))])
    (.seq
     (.reg [.fa 5 (.t 2) 3,
       .ld 6 false 1 (.t 5),
       .mv 7 (.t 1),
       .call (some 8) (.c (Fc F.laws_heldTermS)) [(.t 6), (.t 7)] (.ro false),
       .mv 1 (.t 8)])
    (.keep [1]
     (.seq
      (.seq
       (.reg [.mv 9 (.t 1),
         .bin 10 .lss (.t 9) (.c (I 0))])
      (.cond (.t 10)
       (.seq
        (.reg [.mv 4 (.c (I (-1)))])
       (.keep [4]
        .ret))
       .skip))
     (.keep [1]
      (.seq
       (.reg [.mv 11 (.t 1),
         .mv 4 (.t 11)])
      (.keep [4]
       .ret)))))))
def LB.laws_szFileS_0 : AC :=
         (.seq
          (.seq
           (.reg [.mv 12 (.t 5),
             .mv 13 (.t 0),
             .len 14 (.t 13),
             .bin 15 .lss (.t 12) (.t 14)])
          (.keep [0, 1, 5, 15]
           (.cond (.t 15)
            .skip
            (.keep [1]
             (.exit 0)))))
         (.keep [0, 1, 5]
          (.seq
           (.block 1
            (.seq
             (.reg [.mv 18 (.t 0),
               .mv 19 (.t 5),
               .ia 20 2 (.t 18) (.t 19),
               .ld 21 true 2 (.t 20),
               .mv 22 (.t 1),
               .call (some 23) (.c (Fc F.laws_szFile)) [(.t 21), (.t 22)] (.ro false),
               .mv 1 (.t 23)])
            (.keep [0, 1, 5]
             (.seq
              (.reg [.mv 24 (.t 1),
                .bin 25 .lss (.t 24) (.c (I 0))])
             (.cond (.t 25)
              (.seq
               (.reg [.mv 4 (.c (I (-1)))])
              (.keep [4]
               .ret))
              .skip)))))
          (.keep [0, 1, 5]
           (.reg [.mv 16 (.t 5),
             .bin 17 .add (.t 16) (.c (I 1)),
             .mv 5 (.t 17)])))))
def L.laws_szFileS_0 : Lp := ⟨[0, 1, 5], [(2, 0)], LB.laws_szFileS_0⟩
@[go_sem] theorem L.laws_szFileS_0_ls : L.laws_szFileS_0.ls = [0, 1, 5] := rfl
@[go_sem] theorem L.laws_szFileS_0_ks : L.laws_szFileS_0.ks = [(2, 0)] := rfl
@[go_sem] theorem L.laws_szFileS_0_b : L.laws_szFileS_0.body = LB.laws_szFileS_0 := rfl
def A.laws_szFileS : AF where
  nargs := 2
  ntmps := 27
  res := [.tmp 4]
  body :=
    (.seq
     (.reg [.mv 4 (.c (I 0))])
    (.seq
     (.reg [.mv 6 (.t 1),
       .mv 7 (.t 0),
       .len 8 (.t 7),
       .bin 9 .sub (.t 6) (.t 8),
       .mv 1 (.t 9)])
    (.keep [0, 1]
     (.seq
      (.seq
       (.reg [.mv 10 (.t 1),
         .bin 11 .lss (.t 10) (.c (I 0))])
      (.cond (.t 11)
       (.seq
        (.reg [.mv 4 (.c (I (-1)))])
       (.keep [4]
        .ret))
       .skip))
     (.keep [0, 1]
      (.seq
       (.seq
        (.reg [.mv 5 (.c (I 0))])
       (.block 0
        (lpC L.laws_szFileS_0)))
      (.keep [1]
       (.seq
        (.reg [.mv 26 (.t 1),
          .mv 4 (.t 26)])
       (.keep [4]
        .ret)))))))))
def LB.laws_szStringS_0 : AC :=
         (.seq
          (.seq
           (.reg [.mv 12 (.t 5),
             .mv 13 (.t 0),
             .len 14 (.t 13),
             .bin 15 .lss (.t 12) (.t 14)])
          (.keep [0, 1, 5, 15]
           (.cond (.t 15)
            .skip
            (.keep [1]
             (.exit 0)))))
         (.keep [0, 1, 5]
          (.seq
           (.block 1
            (.seq
             (.reg [.mv 18 (.t 1),
               .mv 19 (.t 0),
               .mv 20 (.t 5),
               .ia 21 1 (.t 19) (.t 20),
               .ld 22 false 1 (.t 21),
               .slen 23 (.t 22),
               .bin 24 .sub (.t 18) (.t 23),
               .mv 1 (.t 24)])
            (.keep [0, 1, 5]
             (.seq
              (.reg [.mv 25 (.t 1),
                .bin 26 .lss (.t 25) (.c (I 0))])
             (.cond (.t 26)
              (.seq
               (.reg [.mv 4 (.c (I (-1)))])
              (.keep [4]
               .ret))
              .skip)))))
          (.keep [0, 1, 5]
           (.reg [.mv 16 (.t 5),
             .bin 17 .add (.t 16) (.c (I 1)),
             .mv 5 (.t 17)])))))
def L.laws_szStringS_0 : Lp := ⟨[0, 1, 5], [(2, 0)], LB.laws_szStringS_0⟩
@[go_sem] theorem L.laws_szStringS_0_ls : L.laws_szStringS_0.ls = [0, 1, 5] := rfl
@[go_sem] theorem L.laws_szStringS_0_ks : L.laws_szStringS_0.ks = [(2, 0)] := rfl
@[go_sem] theorem L.laws_szStringS_0_b : L.laws_szStringS_0.body = LB.laws_szStringS_0 := rfl
def A.laws_szStringS : AF where
  nargs := 2
  ntmps := 28
  res := [.tmp 4]
  body :=
    (.seq
     (.reg [.mv 4 (.c (I 0))])
    (.seq
     (.reg [.mv 6 (.t 1),
       .mv 7 (.t 0),
       .len 8 (.t 7),
       .bin 9 .sub (.t 6) (.t 8),
       .mv 1 (.t 9)])
    (.keep [0, 1]
     (.seq
      (.seq
       (.reg [.mv 10 (.t 1),
         .bin 11 .lss (.t 10) (.c (I 0))])
      (.cond (.t 11)
       (.seq
        (.reg [.mv 4 (.c (I (-1)))])
       (.keep [4]
        .ret))
       .skip))
     (.keep [0, 1]
      (.seq
       (.seq
        (.reg [.mv 5 (.c (I 0))])
       (.block 0
        (lpC L.laws_szStringS_0)))
      (.keep [1]
       (.seq
        (.reg [.mv 27 (.t 1),
          .mv 4 (.t 27)])
       (.keep [4]
        .ret)))))))))
def LB.spec_l31Lines_0 : AC :=
       (.seq
        (.seq
         (.reg [.mv 5 (.t 4),
           .mv 6 (.t 0),
           .len 7 (.t 6),
           .bin 8 .lss (.t 5) (.t 7)])
        (.keep [0, 3, 4, 8]
         (.cond (.t 8)
          .skip
          (.keep [3]
           (.exit 0)))))
       (.keep [0, 3, 4]
        (.seq
         (.block 1
          (.reg [.mv 11 (.t 3),
            .mv 12 (.t 0),
            .mv 13 (.t 4),
            .ia 14 1 (.t 12) (.t 13),
            .ld 15 false 1 (.t 14),
            .bin 16 .add (.t 11) (.t 15),
            .bin 17 .add (.t 16) (.c (S [10])),
            .mv 3 (.t 17)]))
        (.keep [0, 3, 4]
         (.reg [.mv 9 (.t 4),
           .bin 10 .add (.t 9) (.c (I 1)),
           .mv 4 (.t 10)])))))
def L.spec_l31Lines_0 : Lp := ⟨[0, 3, 4], [(1, 0)], LB.spec_l31Lines_0⟩
@[go_sem] theorem L.spec_l31Lines_0_ls : L.spec_l31Lines_0.ls = [0, 3, 4] := rfl
@[go_sem] theorem L.spec_l31Lines_0_ks : L.spec_l31Lines_0.ks = [(1, 0)] := rfl
@[go_sem] theorem L.spec_l31Lines_0_b : L.spec_l31Lines_0.body = LB.spec_l31Lines_0 := rfl
def A.spec_l31Lines : AF where
  nargs := 1
  ntmps := 19
  res := [.tmp 2]
  body :=
    (.seq
     (.reg [.mv 2 (.c (S []))])
    (.seq
     (.reg [.mv 3 (.c (S []))])
    (.seq
     (.seq
      (.reg [.mv 4 (.c (I 0))])
     (.block 0
      (lpC L.spec_l31Lines_0)))
    (.keep [3]
     (.seq
      (.reg [.mv 18 (.t 3),
        .mv 2 (.t 18)])
     (.keep [2]
      .ret))))))
def LB.laws_toFileS_0 : AC :=
        (.seq
         (.seq
          (.reg [.mv 8 (.t 4),
            .mv 9 (.t 0),
            .len 10 (.t 9),
            .bin 11 .lss (.t 8) (.t 10)])
         (.keep [0, 3, 4, 11]
          (.cond (.t 11)
           .skip
           (.keep [3]
            (.exit 0)))))
        (.keep [0, 3, 4]
         (.seq
          (.block 1
           (.reg [.mv 14 (.t 3),
             .mv 15 (.t 4),
             .mv 16 (.t 0),
             .mv 17 (.t 4),
             .ia 18 2 (.t 16) (.t 17),
             .ld 19 true 2 (.t 18),
             .call (some 20) (.c (Fc F.laws_toFile)) [(.t 19)] (.ro false),
             .ia 21 2 (.t 14) (.t 15),
             .st 2 (.t 21) (.t 20)]))
         (.keep [0, 3, 4]
          (.reg [.mv 12 (.t 4),
            .bin 13 .add (.t 12) (.c (I 1)),
            .mv 4 (.t 13)])))))
def L.laws_toFileS_0 : Lp := ⟨[0, 3, 4], [(1, 0)], LB.laws_toFileS_0⟩
@[go_sem] theorem L.laws_toFileS_0_ls : L.laws_toFileS_0.ls = [0, 3, 4] := rfl
@[go_sem] theorem L.laws_toFileS_0_ks : L.laws_toFileS_0.ks = [(1, 0)] := rfl
@[go_sem] theorem L.laws_toFileS_0_b : L.laws_toFileS_0.body = LB.laws_toFileS_0 := rfl
def A.laws_toFileS : AF where
  nargs := 1
  ntmps := 23
  res := [.tmp 2]
  body :=
    (.seq
     (.reg [.mv 2 (.c (.n 2))])
    (.seq
     (.reg [.mv 5 (.t 0),
       .len 6 (.t 5),
       .mk 7 2 (.a [(S []), (S [])]) 32 (.t 6) (.t 6),
       .mv 3 (.t 7)])
    (.keep [0, 3]
     (.seq
      (.seq
       (.reg [.mv 4 (.c (I 0))])
      (.block 0
       (lpC L.laws_toFileS_0)))
     (.keep [3]
      (.seq
       (.reg [.mv 22 (.t 3),
         .mv 2 (.t 22)])
      (.keep [2]
       .ret)))))))
def LB.laws_toStringS_0 : AC :=
        (.seq
         (.seq
          (.reg [.mv 8 (.t 4),
            .mv 9 (.t 0),
            .len 10 (.t 9),
            .bin 11 .lss (.t 8) (.t 10)])
         (.keep [0, 3, 4, 11]
          (.cond (.t 11)
           .skip
           (.keep [3]
            (.exit 0)))))
        (.keep [0, 3, 4]
         (.seq
          (.block 1
           (.reg [.mv 14 (.t 3),
             .mv 15 (.t 4),
             .mv 16 (.t 0),
             .mv 17 (.t 4),
             .ia 18 1 (.t 16) (.t 17),
             .ld 19 false 1 (.t 18),
             .ia 20 1 (.t 14) (.t 15),
             .st 1 (.t 20) (.t 19)]))
         (.keep [0, 3, 4]
          (.reg [.mv 12 (.t 4),
            .bin 13 .add (.t 12) (.c (I 1)),
            .mv 4 (.t 13)])))))
def L.laws_toStringS_0 : Lp := ⟨[0, 3, 4], [(1, 0)], LB.laws_toStringS_0⟩
@[go_sem] theorem L.laws_toStringS_0_ls : L.laws_toStringS_0.ls = [0, 3, 4] := rfl
@[go_sem] theorem L.laws_toStringS_0_ks : L.laws_toStringS_0.ks = [(1, 0)] := rfl
@[go_sem] theorem L.laws_toStringS_0_b : L.laws_toStringS_0.body = LB.laws_toStringS_0 := rfl
def A.laws_toStringS : AF where
  nargs := 1
  ntmps := 22
  res := [.tmp 2]
  body :=
    (.seq
     (.reg [.mv 2 (.c (.n 1))])
    (.seq
     (.reg [.mv 5 (.t 0),
       .len 6 (.t 5),
       .mk 7 1 (S []) 16 (.t 6) (.t 6),
       .mv 3 (.t 7)])
    (.keep [0, 3]
     (.seq
      (.seq
       (.reg [.mv 4 (.c (I 0))])
      (.block 0
       (lpC L.laws_toStringS_0)))
     (.keep [3]
      (.seq
       (.reg [.mv 21 (.t 3),
         .mv 2 (.t 21)])
      (.keep [2]
       .ret)))))))
def LB.impl_inLines_0 : AC :=
       (.seq
        (.reg [.bin 9 .lss (.t 8) (.t 7)])
       (.seq
        (.cond (.t 9)
         .skip
         (.keep [3]
          (.exit 0)))
       (.keep [3, 6, 7, 8]
        (.seq
         (.block 1
          (.seq
           (.reg [.ia 10 1 (.t 6) (.t 8),
             .ld 11 false 1 (.t 10),
             .mv 5 (.t 11)])
          (.reg [.mv 12 (.t 3),
            .mv 13 (.t 5),
            .bin 14 .add (.t 13) (.c (S [10])),
            .bin 15 .add (.t 12) (.t 14),
            .mv 3 (.t 15)])))
        (.keep [3, 6, 7, 8]
         (.reg [.bin 16 .add (.t 8) (.c (I 1)),
           .mv 8 (.t 16)]))))))
def L.impl_inLines_0 : Lp := ⟨[3, 6, 7, 8], [(1, 0)], LB.impl_inLines_0⟩
@[go_sem] theorem L.impl_inLines_0_ls : L.impl_inLines_0.ls = [3, 6, 7, 8] := rfl
@[go_sem] theorem L.impl_inLines_0_ks : L.impl_inLines_0.ks = [(1, 0)] := rfl
@[go_sem] theorem L.impl_inLines_0_b : L.impl_inLines_0.body = LB.impl_inLines_0 := rfl
def A.impl_inLines : AF where
  nargs := 1
  ntmps := 18
  res := [.tmp 2]
  body :=
    (.seq
     (.reg [.mv 2 (.c (S []))])
    (.seq
     (.reg [.mv 3 (.c (S []))])
    (.seq
     (.seq
      (.reg [.mv 6 (.t 0),
        .len 7 (.t 6),
        .mv 8 (.c (I 0))])
     (.block 0
      (lpC L.impl_inLines_0)))
    (.keep [3]
     (.seq
      (.reg [.mv 17 (.t 3),
        .mv 2 (.t 17)])
     (.keep [2]
      .ret))))))
def LB.laws_eqFileS_0 : AC :=
        (.seq
         (.seq
          (.reg [.mv 11 (.t 5),
            .mv 12 (.t 0),
            .len 13 (.t 12),
            .bin 14 .lss (.t 11) (.t 13)])
         (.keep [0, 1, 5, 14]
          (.cond (.t 14)
           .skip
           (.keep []
            (.exit 0)))))
        (.keep [0, 1, 5]
         (.seq
          (.block 1
           (.seq
            (.dreg [⟨0, []⟩, ⟨0, []⟩, ⟨0, [(0, 0), (0, 1), (0, 2), (0, 3), (100000, 0), (100000, 1), (100000, 2), (100000, 3), (100000, 4), (100000, 5)]⟩, ⟨0, [(0, 0), (0, 1), (0, 2), (0, 3), (100000, 0), (100000, 1), (100000, 2), (100000, 3), (100000, 4), (100000, 5)]⟩, ⟨0, []⟩, ⟨0, []⟩, ⟨0, [(1, 0), (1, 1), (1, 2), (1, 3), (100000, 0), (100000, 1), (100000, 2), (100000, 3), (100000, 4), (100000, 5)]⟩, ⟨0, [(1, 0), (1, 1), (1, 2), (1, 3), (100000, 0), (100000, 1), (100000, 2), (100000, 3), (100000, 4), (100000, 5)]⟩, ⟨2, [(0, 0), (0, 1), (0, 2), (0, 3), (1, 0), (1, 1), (1, 2), (1, 3), (20, 0), (24, 0), (100000, 0), (100000, 1), (100000, 2), (100000, 3), (100000, 4), (100000, 5)]⟩, ⟨0, []⟩]
             [.mv 17 (.t 0),
              .mv 18 (.t 5),
              .ia 19 2 (.t 17) (.t 18),
              .ldq 20 true 2 (.t 19),
              .mv 21 (.t 1),
              .mv 22 (.t 5),
              .ia 23 2 (.t 21) (.t 22),
              .ldq 24 true 2 (.t 23),
              .call (some 25) (.c (Fc F.laws_eqFile)) [(.t 20), (.t 24)] (.ro true),
              .un 26 .not (.t 25)])
           (.keep [0, 1, 5, 26]
            (.cond (.t 26)
             (.seq
              (.reg [.mv 4 (.c (B false))])
             (.keep [4]
              .ret))
             .skip))))
         (.keep [0, 1, 5]
          (.reg [.mv 15 (.t 5),
            .bin 16 .add (.t 15) (.c (I 1)),
            .mv 5 (.t 16)])))))
def L.laws_eqFileS_0 : Lp := ⟨[0, 1, 5], [(2, 0)], LB.laws_eqFileS_0⟩
@[go_sem] theorem L.laws_eqFileS_0_ls : L.laws_eqFileS_0.ls = [0, 1, 5] := rfl
@[go_sem] theorem L.laws_eqFileS_0_ks : L.laws_eqFileS_0.ks = [(2, 0)] := rfl
@[go_sem] theorem L.laws_eqFileS_0_b : L.laws_eqFileS_0.body = LB.laws_eqFileS_0 := rfl
def A.laws_eqFileS : AF where
  nargs := 2
  ntmps := 27
  res := [.tmp 4]
  body :=
    (.seq
     (.reg [.mv 4 (.c (B false))])
    (.seq
     (.seq
      (.reg [.mv 6 (.t 0),
        .len 7 (.t 6),
        .mv 8 (.t 1),
        .len 9 (.t 8),
        .bin 10 .neq (.t 7) (.t 9)])
     (.keep [0, 1, 10]
      (.cond (.t 10)
       (.seq
        (.reg [.mv 4 (.c (B false))])
       (.keep [4]
        .ret))
       .skip)))
    (.keep [0, 1]
     (.seq
      (.seq
       (.reg [.mv 5 (.c (I 0))])
      (.block 0
       (lpC L.laws_eqFileS_0)))
     (.keep []
      (.seq
       (.reg [.mv 4 (.c (B true))])
      (.keep [4]
       .ret)))))))
def LB.laws_eqStringS_0 : AC :=
        (.seq
         (.seq
          (.reg [.mv 11 (.t 5),
            .mv 12 (.t 0),
            .len 13 (.t 12),
            .bin 14 .lss (.t 11) (.t 13)])
         (.keep [0, 1, 5, 14]
          (.cond (.t 14)
           .skip
           (.keep []
            (.exit 0)))))
        (.keep [0, 1, 5]
         (.seq
          (.block 1
           (.seq
            (.dreg [⟨0, []⟩, ⟨0, []⟩, ⟨0, [(0, 0), (0, 1), (0, 2), (0, 3), (100000, 0), (100000, 1), (100000, 2), (100000, 3), (100000, 4), (100000, 5)]⟩, ⟨0, [(0, 0), (0, 1), (0, 2), (0, 3), (100000, 0), (100000, 1), (100000, 2), (100000, 3), (100000, 4), (100000, 5)]⟩, ⟨0, []⟩, ⟨0, []⟩, ⟨0, [(1, 0), (1, 1), (1, 2), (1, 3), (100000, 0), (100000, 1), (100000, 2), (100000, 3), (100000, 4), (100000, 5)]⟩, ⟨0, [(1, 0), (1, 1), (1, 2), (1, 3), (100000, 0), (100000, 1), (100000, 2), (100000, 3), (100000, 4), (100000, 5)]⟩, ⟨0, []⟩]
             [.mv 17 (.t 0),
              .mv 18 (.t 5),
              .ia 19 1 (.t 17) (.t 18),
              .ldq 20 false 1 (.t 19),
              .mv 21 (.t 1),
              .mv 22 (.t 5),
              .ia 23 1 (.t 21) (.t 22),
              .ldq 24 false 1 (.t 23),
              .bin 25 .neq (.t 20) (.t 24)])
           (.keep [0, 1, 5, 25]
            (.cond (.t 25)
             (.seq
              (.reg [.mv 4 (.c (B false))])
             (.keep [4]
              .ret))
             .skip))))
         (.keep [0, 1, 5]
          (.reg [.mv 15 (.t 5),
            .bin 16 .add (.t 15) (.c (I 1)),
            .mv 5 (.t 16)])))))
def L.laws_eqStringS_0 : Lp := ⟨[0, 1, 5], [(2, 0)], LB.laws_eqStringS_0⟩
@[go_sem] theorem L.laws_eqStringS_0_ls : L.laws_eqStringS_0.ls = [0, 1, 5] := rfl
@[go_sem] theorem L.laws_eqStringS_0_ks : L.laws_eqStringS_0.ks = [(2, 0)] := rfl
@[go_sem] theorem L.laws_eqStringS_0_b : L.laws_eqStringS_0.body = LB.laws_eqStringS_0 := rfl
def A.laws_eqStringS : AF where
  nargs := 2
  ntmps := 26
  res := [.tmp 4]
  body :=
    (.seq
     (.reg [.mv 4 (.c (B false))])
    (.seq
     (.seq
      (.reg [.mv 6 (.t 0),
        .len 7 (.t 6),
        .mv 8 (.t 1),
        .len 9 (.t 8),
        .bin 10 .neq (.t 7) (.t 9)])
     (.keep [0, 1, 10]
      (.cond (.t 10)
       (.seq
        (.reg [.mv 4 (.c (B false))])
       (.keep [4]
        .ret))
       .skip)))
    (.keep [0, 1]
     (.seq
      (.seq
       (.reg [.mv 5 (.c (I 0))])
      (.block 0
       (lpC L.laws_eqStringS_0)))
     (.keep []
      (.seq
       (.reg [.mv 4 (.c (B true))])
      (.keep [4]
       .ret)))))))
def LB.laws_szClauseS_0 : AC :=
         (.seq
          (.seq
           (.reg [.mv 12 (.t 5),
             .mv 13 (.t 0),
             .len 14 (.t 13),
             .bin 15 .lss (.t 12) (.t 14)])
          (.keep [0, 1, 5, 15]
           (.cond (.t 15)
            .skip
            (.keep [1]
             (.exit 0)))))
         (.keep [0, 1, 5]
          (.seq
           (.block 1
            (.seq
             (.reg [.mv 18 (.t 0),
               .mv 19 (.t 5),
               .ia 20 9 (.t 18) (.t 19),
               .ld 21 true 9 (.t 20),
               .mv 22 (.t 1),
               .call (some 23) (.c (Fc F.laws_szClause)) [(.t 21), (.t 22)] (.ro false),
               .mv 1 (.t 23)])
            (.keep [0, 1, 5]
             (.seq
              (.reg [.mv 24 (.t 1),
                .bin 25 .lss (.t 24) (.c (I 0))])
             (.cond (.t 25)
              (.seq
               (.reg [.mv 4 (.c (I (-1)))])
              (.keep [4]
               .ret))
              .skip)))))
          (.keep [0, 1, 5]
           (.reg [.mv 16 (.t 5),
             .bin 17 .add (.t 16) (.c (I 1)),
             .mv 5 (.t 17)])))))
def L.laws_szClauseS_0 : Lp := ⟨[0, 1, 5], [(2, 0)], LB.laws_szClauseS_0⟩
@[go_sem] theorem L.laws_szClauseS_0_ls : L.laws_szClauseS_0.ls = [0, 1, 5] := rfl
@[go_sem] theorem L.laws_szClauseS_0_ks : L.laws_szClauseS_0.ks = [(2, 0)] := rfl
@[go_sem] theorem L.laws_szClauseS_0_b : L.laws_szClauseS_0.body = LB.laws_szClauseS_0 := rfl
def A.laws_szClauseS : AF where
  nargs := 2
  ntmps := 27
  res := [.tmp 4]
  body :=
    (.seq
     (.reg [.mv 4 (.c (I 0))])
    (.seq
     (.reg [.mv 6 (.t 1),
       .mv 7 (.t 0),
       .len 8 (.t 7),
       .bin 9 .sub (.t 6) (.t 8),
       .mv 1 (.t 9)])
    (.keep [0, 1]
     (.seq
      (.seq
       (.reg [.mv 10 (.t 1),
         .bin 11 .lss (.t 10) (.c (I 0))])
      (.cond (.t 11)
       (.seq
        (.reg [.mv 4 (.c (I (-1)))])
       (.keep [4]
        .ret))
       .skip))
     (.keep [0, 1]
      (.seq
       (.seq
        (.reg [.mv 5 (.c (I 0))])
       (.block 0
        (lpC L.laws_szClauseS_0)))
      (.keep [1]
       (.seq
        (.reg [.mv 26 (.t 1),
          .mv 4 (.t 26)])
       (.keep [4]
        .ret)))))))))
def A.spec_l29Same : AF where
  nargs := 2
  ntmps := 17
  res := [.tmp 4]
  body :=
    (.seq
     (.reg [.new 2 (.t 0),
       .new 3 (.t 1),
       .mv 4 (.c (B false))])
    (.seq
     (.dreg [⟨0, []⟩, ⟨0, [(0, 0), (0, 1), (0, 2), (0, 3), (2, 0)]⟩, ⟨0, []⟩, ⟨0, [(1, 0), (1, 1), (1, 2), (1, 3), (3, 0)]⟩, ⟨0, []⟩, ⟨0, []⟩, ⟨0, [(0, 0), (0, 1), (0, 2), (0, 3), (2, 0)]⟩, ⟨2, [(0, 0), (0, 1), (0, 2), (0, 3), (2, 0), (11, 0)]⟩, ⟨0, [(1, 0), (1, 1), (1, 2), (1, 3), (3, 0)]⟩, ⟨2, [(1, 0), (1, 1), (1, 2), (1, 3), (3, 0), (13, 0)]⟩, ⟨2, [(0, 0), (0, 1), (0, 2), (0, 3), (1, 0), (1, 1), (1, 2), (1, 3), (2, 0), (3, 0), (11, 0), (12, 0), (12, 1), (12, 2), (12, 3), (13, 0), (14, 0), (14, 1), (14, 2), (14, 3)]⟩, ⟨0, []⟩, ⟨0, []⟩]
      [.fa 5 (.t 2) 8,
       .ldq 6 false 1 (.t 5),
       .fa 7 (.t 3) 8,
       .ldq 8 false 1 (.t 7),
       .bin 9 .eql (.t 6) (.t 8),
       .mv 10 (.t 9),
       .gd 10 true (some 11) (.ldq 11 true 9 (.t 2)),
       .gd 10 true (some 12) (.call (some 12) (.c (Fc F.spec_ClauseTerm)) [(.t 11)] (.ro false)),
       .gd 10 true (some 13) (.ldq 13 true 9 (.t 3)),
       .gd 10 true (some 14) (.call (some 14) (.c (Fc F.spec_ClauseTerm)) [(.t 13)] (.ro false)),
       .gd 10 true (some 15) (.call (some 15) (.c (Fc F.spec_Variant)) [(.t 12), (.t 14)] (.ro false)),
       .pick 16 (.t 10) (.t 15) (.c (B false)),
       .mv 4 (.t 16)])
    (.keep [4]
     .ret)))
def LB.laws_toClauseS_0 : AC :=
        (.seq
         (.seq
          (.reg [.mv 8 (.t 4),
            .mv 9 (.t 0),
            .len 10 (.t 9),
            .bin 11 .lss (.t 8) (.t 10)])
         (.keep [0, 3, 4, 11]
          (.cond (.t 11)
           .skip
           (.keep [3]
            (.exit 0)))))
        (.keep [0, 3, 4]
         (.seq
          (.block 1
           (.reg [.mv 14 (.t 3),
             .mv 15 (.t 4),
             .mv 16 (.t 0),
             .mv 17 (.t 4),
             .ia 18 9 (.t 16) (.t 17),
             .ld 19 true 9 (.t 18),
             .call (some 20) (.c (Fc F.laws_toClause)) [(.t 19)] (.ro false),
             .ia 21 9 (.t 14) (.t 15),
             .st 9 (.t 21) (.t 20)]))
         (.keep [0, 3, 4]
          (.reg [.mv 12 (.t 4),
            .bin 13 .add (.t 12) (.c (I 1)),
            .mv 4 (.t 13)])))))
def L.laws_toClauseS_0 : Lp := ⟨[0, 3, 4], [(1, 0)], LB.laws_toClauseS_0⟩
@[go_sem] theorem L.laws_toClauseS_0_ls : L.laws_toClauseS_0.ls = [0, 3, 4] := rfl
@[go_sem] theorem L.laws_toClauseS_0_ks : L.laws_toClauseS_0.ks = [(1, 0)] := rfl
@[go_sem] theorem L.laws_toClauseS_0_b : L.laws_toClauseS_0.body = LB.laws_toClauseS_0 := rfl
def A.laws_toClauseS : AF where
  nargs := 1
  ntmps := 23
  res := [.tmp 2]
  body :=
    (.seq
     (.reg [.mv 2 (.c (.n 9))])
    (.seq
     (.reg [.mv 5 (.t 0),
       .len 6 (.t 5),
       .mk 7 9 (.a [(I 0), (S []), (I 0), (.n 4), (I 0), (S []), (I 0), (.n 4), (S [])]) 128 (.t 6) (.t 6),
       .mv 3 (.t 7)])
    (.keep [0, 3]
     (.seq
      (.seq
       (.reg [.mv 4 (.c (I 0))])
      (.block 0
       (lpC L.laws_toClauseS_0)))
     (.keep [3]
      (.seq
       (.reg [.mv 22 (.t 3),
         .mv 2 (.t 22)])
      (.keep [2]
       .ret)))))))
def LB.slices_IndexFunc_impl_Clause_impl_Clause_0 : AC :=
       (.seq
        (.reg [.bin 9 .lss (.t 8) (.t 7)])
       (.seq
        (.cond (.t 9)
         .skip
         (.keep []
          (.exit 0)))
       (.keep [0, 1, 7, 8]
        (.seq
         (.block 1
          (.seq
           (.reg [.mv 10 (.t 8),
             .mv 5 (.t 10)])
          (.seq
           (.reg [.mv 11 (.t 1),
             .mv 12 (.t 0),
             .mv 13 (.t 5),
             .ia 14 9 (.t 12) (.t 13),
             .ld 15 true 9 (.t 14),
             .call (some 16) (.t 11) [(.t 15)] (.ro true)])
          (.keep [0, 1, 5, 7, 8, 16]
           (.cond (.t 16)
            (.seq
             (.reg [.mv 17 (.t 5),
               .mv 4 (.t 17)])
            (.keep [4]
             .ret))
            .skip)))))
        (.keep [0, 1, 7, 8]
         (.reg [.bin 18 .add (.t 8) (.c (I 1)),
           .mv 8 (.t 18)]))))))
def L.slices_IndexFunc_impl_Clause_impl_Clause_0 : Lp := ⟨[0, 1, 7, 8], [(2, 0)], LB.slices_IndexFunc_impl_Clause_impl_Clause_0⟩
@[go_sem] theorem L.slices_IndexFunc_impl_Clause_impl_Clause_0_ls : L.slices_IndexFunc_impl_Clause_impl_Clause_0.ls = [0, 1, 7, 8] := rfl
@[go_sem] theorem L.slices_IndexFunc_impl_Clause_impl_Clause_0_ks : L.slices_IndexFunc_impl_Clause_impl_Clause_0.ks = [(2, 0)] := rfl
@[go_sem] theorem L.slices_IndexFunc_impl_Clause_impl_Clause_0_b : L.slices_IndexFunc_impl_Clause_impl_Clause_0.body = LB.slices_IndexFunc_impl_Clause_impl_Clause_0 := rfl
def A.slices_IndexFunc_impl_Clause_impl_Clause : AF where
  nargs := 2
  ntmps := 19
  res := [.tmp 4]
  body :=
    (.seq
     (.reg [.mv 4 (.c (I 0))])
    (.seq
     (.seq
      (.reg [.mv 6 (.t 0),
        .len 7 (.t 6),
        .mv 8 (.c (I 0))])
     (.block 0
      (lpC L.slices_IndexFunc_impl_Clause_impl_Clause_0)))
    (.keep []
     (.seq
      (.reg [.mv 4 (.c (I (-1)))])
     (.keep [4]
      .ret)))))
def A.impl_ClauseAt_1 : AF where
  nargs := 2
  ntmps := 7
  res := [.tmp 3]
  body :=
    (.seq
     (.reg [.new 2 (.t 0),
       .mv 3 (.c (B false))])
    (.seq
     (.reg [.ld 4 true 9 (.t 2),
       .ld 5 true 9 (.t 1),
       .call (some 6) (.c (Fc F.impl_alikeClauses)) [(.t 4), (.t 5)] (.ro false),
       .mv 3 (.t 6)])
    (.keep [3]
     .ret)))
def A.impl_alikeClauses : AF where
  nargs := 2
  ntmps := 15
  res := [.tmp 4]
  body :=
    (.seq
     (.reg [.new 2 (.t 0),
       .new 3 (.t 1),
       .mv 4 (.c (B false))])
    (.seq
     (.reg [.fa 5 (.t 2) 8,
       .ld 6 false 1 (.t 5),
       .fa 7 (.t 3) 8,
       .ld 8 false 1 (.t 7),
       .bin 9 .eql (.t 6) (.t 8),
       .mv 10 (.t 9),
       .gd 10 true (some 11) (.ld 11 true 9 (.t 2)),
       .gd 10 true (some 12) (.ld 12 true 9 (.t 3)),
       .gd 10 true (some 13) (.call (some 13) (.c (Fc F.impl_variantClauses)) [(.t 11), (.t 12)] (.ro false)),
       .pick 14 (.t 10) (.t 13) (.c (B false)),
       .mv 4 (.t 14)])
    (.keep [4]
     .ret)))
def LB.laws_eqClauseS_0 : AC :=
        (.seq
         (.seq
          (.reg [.mv 11 (.t 5),
            .mv 12 (.t 0),
            .len 13 (.t 12),
            .bin 14 .lss (.t 11) (.t 13)])
         (.keep [0, 1, 5, 14]
          (.cond (.t 14)
           .skip
           (.keep []
            (.exit 0)))))
        (.keep [0, 1, 5]
         (.seq
          (.block 1
           (.seq
            (.dreg [⟨0, []⟩, ⟨0, []⟩, ⟨0, [(0, 0), (0, 1), (0, 2), (0, 3), (100000, 0), (100000, 1), (100000, 2), (100000, 3), (100000, 4), (100000, 5)]⟩, ⟨0, [(0, 0), (0, 1), (0, 2), (0, 3), (100000, 0), (100000, 1), (100000, 2), (100000, 3), (100000, 4), (100000, 5)]⟩, ⟨0, []⟩, ⟨0, []⟩, ⟨0, [(1, 0), (1, 1), (1, 2), (1, 3), (100000, 0), (100000, 1), (100000, 2), (100000, 3), (100000, 4), (100000, 5)]⟩, ⟨0, [(1, 0), (1, 1), (1, 2), (1, 3), (100000, 0), (100000, 1), (100000, 2), (100000, 3), (100000, 4), (100000, 5)]⟩, ⟨2, [(0, 0), (0, 1), (0, 2), (0, 3), (1, 0), (1, 1), (1, 2), (1, 3), (20, 0), (24, 0), (100000, 0), (100000, 1), (100000, 2), (100000, 3), (100000, 4), (100000, 5)]⟩, ⟨0, []⟩]
             [.mv 17 (.t 0),
              .mv 18 (.t 5),
              .ia 19 9 (.t 17) (.t 18),
              .ldq 20 true 9 (.t 19),
              .mv 21 (.t 1),
              .mv 22 (.t 5),
              .ia 23 9 (.t 21) (.t 22),
              .ldq 24 true 9 (.t 23),
              .call (some 25) (.c (Fc F.laws_eqClause)) [(.t 20), (.t 24)] (.ro true),
              .un 26 .not (.t 25)])
           (.keep [0, 1, 5, 26]
            (.cond (.t 26)
             (.seq
              (.reg [.mv 4 (.c (B false))])
             (.keep [4]
              .ret))
             .skip))))
         (.keep [0, 1, 5]
          (.reg [.mv 15 (.t 5),
            .bin 16 .add (.t 15) (.c (I 1)),
            .mv 5 (.t 16)])))))
def L.laws_eqClauseS_0 : Lp := ⟨[0, 1, 5], [(2, 0)], LB.laws_eqClauseS_0⟩
@[go_sem] theorem L.laws_eqClauseS_0_ls : L.laws_eqClauseS_0.ls = [0, 1, 5] := rfl
@[go_sem] theorem L.laws_eqClauseS_0_ks : L.laws_eqClauseS_0.ks = [(2, 0)] := rfl
@[go_sem] theorem L.laws_eqClauseS_0_b : L.laws_eqClauseS_0.body = LB.laws_eqClauseS_0 := rfl
def A.laws_eqClauseS : AF where
  nargs := 2
  ntmps := 27
  res := [.tmp 4]
  body :=
    (.seq
     (.reg [.mv 4 (.c (B false))])
    (.seq
     (.seq
      (.reg [.mv 6 (.t 0),
        .len 7 (.t 6),
        .mv 8 (.t 1),
        .len 9 (.t 8),
        .bin 10 .neq (.t 7) (.t 9)])
     (.keep [0, 1, 10]
      (.cond (.t 10)
       (.seq
        (.reg [.mv 4 (.c (B false))])
       (.keep [4]
        .ret))
       .skip)))
    (.keep [0, 1]
     (.seq
      (.seq
       (.reg [.mv 5 (.c (I 0))])
      (.block 0
       (lpC L.laws_eqClauseS_0)))
     (.keep []
      (.seq
       (.reg [.mv 4 (.c (B true))])
      (.keep [4]
       .ret)))))))
def A.spec_DiffDb : AF where
  nargs := 2
  ntmps := 18
  res := [.tmp 4, .tmp 5]
  body :=
    (.seq
     (.reg [.new 2 (.t 0),
       .new 3 (.t 1),
       .mv 4 (.c (.n 9)),
       .mv 5 (.c (.n 9))])
    (.keep [2, 3]
     (.seq
      (.reg [.ld 9 true 2 (.t 2),
        .ld 10 true 2 (.t 3),
        .call (some 11) (.c (Fc F.spec_l29DiffDbRaw)) [(.t 9), (.t 10)] (.ro false),
        .mv 8 (.t 11),
        .ext 12 (.t 8) 0,
        .ext 13 (.t 8) 1,
        .mv 6 (.t 12),
        .mv 7 (.t 13)])
     (.keep [6, 7]
      (.seq
       (.reg [.mv 14 (.t 6),
         .call (some 15) (.c (Fc F.spec_l34Clauses)) [(.t 14)] (.ro false),
         .mv 16 (.t 7),
         .call (some 17) (.c (Fc F.spec_l34Clauses)) [(.t 16)] (.ro false),
         .mv 4 (.t 15),
         .mv 5 (.t 17)])
      (.keep [4, 5]
       .ret))))))
def A.impl_DiffDb : AF where
  nargs := 2
  ntmps := 16
  res := [.tmp 4, .tmp 5]
  body :=
    (.seq
     (.reg [.new 2 (.t 0),
       .new 3 (.t 1),
       .mv 4 (.c (.n 9)),
       .mv 5 (.c (.n 9))])
    (.keep [2, 3]
     (.seq
      (.dreg [⟨0, []⟩, ⟨0, [(0, 0), (0, 1), (0, 2), (0, 3), (2, 0)]⟩, ⟨0, []⟩, ⟨0, [(1, 0), (1, 1), (1, 2), (1, 3), (3, 0)]⟩, ⟨2, [(0, 0), (0, 1), (0, 2), (0, 3), (1, 0), (1, 1), (1, 2), (1, 3), (2, 0), (3, 0), (7, 0), (9, 0)]⟩, ⟨0, []⟩, ⟨0, [(1, 0), (1, 1), (1, 2), (1, 3), (3, 0)]⟩, ⟨0, []⟩, ⟨0, [(0, 0), (0, 1), (0, 2), (0, 3), (2, 0)]⟩, ⟨2, [(0, 0), (0, 1), (0, 2), (0, 3), (1, 0), (1, 1), (1, 2), (1, 3), (2, 0), (3, 0), (12, 0), (14, 0)]⟩, ⟨0, []⟩, ⟨0, []⟩]
       [.fa 6 (.t 2) 0,
        .ldq 7 false 1 (.t 6),
        .fa 8 (.t 3) 0,
        .ldq 9 false 1 (.t 8),
        .call (some 10) (.c (Fc F.impl_more)) [(.t 7), (.t 9)] (.ro false),
        .fa 11 (.t 3) 0,
        .ldq 12 false 1 (.t 11),
        .fa 13 (.t 2) 0,
        .ldq 14 false 1 (.t 13),
        .call (some 15) (.c (Fc F.impl_more)) [(.t 12), (.t 14)] (.ro false),
        .mv 4 (.t 10),
        .mv 5 (.t 15)])
     (.keep [4, 5]
      .ret))))
def A.spec_l08ClauseTermRaw : AF where
  nargs := 1
  ntmps := 8
  res := [.cell 2 true 4]
  body :=
    (.seq
     (.reg [.new 1 (.t 0),
       .new 2 (.c (.a [(I 0), (S []), (I 0), (.n 4)]))])
    (.seq
     (.reg [.fa 3 (.t 1) 0,
       .ld 4 true 4 (.t 3),
       .fa 5 (.t 1) 4,
       .ld 6 true 4 (.t 5),
       .call (some 7) (.c (Fc F.spec_l03Two)) [(.c (S [58, 45])), (.t 4), (.t 6)] (.ro false),
       .st 4 (.t 2) (.t 7)])
    (.keep [2]
     .ret)))
def A.spec_l34Term : AF where
  nargs := 1
  ntmps := 8
  res := [.cell 2 true 4]
  body :=
    (.seq
     (.reg [.new 1 (.t 0),
       .new 2 (.c (.a [(I 0), (S []), (I 0), (.n 4)]))])
    (.seq
     (.reg [.fa 3 (.t 1) 3,
       .ld 4 false 1 (.t 3),
       .call (some 5) (.c (Fc F.spec_l34Terms)) [(.t 4)] (.ro false),
       .fa 6 (.t 1) 3,
       .st 1 (.t 6) (.t 5)])
    (.keep [1, 2]
     (.seq
      (.reg [.ld 7 true 4 (.t 1),
        .st 4 (.t 2) (.t 7)])
     (.keep [2]
      .ret)))))
def LB.spec_l03Vars_0 : AC :=
        (.seq
         (.seq
          (.reg [.mv 21 (.t 5),
            .fa 22 (.t 2) 3,
            .ld 23 false 1 (.t 22),
            .len 24 (.t 23),
            .bin 25 .lss (.t 21) (.t 24)])
         (.keep [1, 2, 5, 25]
          (.cond (.t 25)
           .skip
           (.keep [1]
            (.exit 0)))))
        (.keep [1, 2, 5]
         (.seq
          (.block 1
           (.reg [.fa 28 (.t 2) 3,
             .ld 29 false 1 (.t 28),
             .mv 30 (.t 5),
             .ia 31 4 (.t 29) (.t 30),
             .ld 32 true 4 (.t 31),
             .mv 33 (.t 1),
             .call (some 34) (.c (Fc F.spec_l03Vars)) [(.t 32), (.t 33)] (.io false),
             .mv 1 (.t 34)]))
         (.keep [1, 2, 5]
          (.reg [.mv 26 (.t 5),
            .bin 27 .add (.t 26) (.c (I 1)),
            .mv 5 (.t 27)])))))
def L.spec_l03Vars_0 : Lp := ⟨[1, 2, 5], [(0, 0)], LB.spec_l03Vars_0⟩
@[go_sem] theorem L.spec_l03Vars_0_ls : L.spec_l03Vars_0.ls = [1, 2, 5] := rfl
@[go_sem] theorem L.spec_l03Vars_0_ks : L.spec_l03Vars_0.ks = [(0, 0)] := rfl
@[go_sem] theorem L.spec_l03Vars_0_b : L.spec_l03Vars_0.body = LB.spec_l03Vars_0 := rfl
def A.spec_l03Vars : AF where
  nargs := 2
  ntmps := 36
  res := [.tmp 4]
  body :=
    (.seq
     (.reg [.new 2 (.t 0),
       .mv 4 (.c (.n 1))])
    (.seq
     (.seq
      (.reg [.fa 6 (.t 2) 0,
        .ld 7 false 1 (.t 6),
        .bin 8 .eql (.t 7) (.c (I 1)),
        .mv 9 (.t 8),
        .gd 9 true (some 10) (.mv 10 (.t 1)),
        .gd 9 true (some 11) (.fa 11 (.t 2) 2),
        .gd 9 true (some 12) (.ld 12 false 1 (.t 11)),
        .gd 9 true (some 13) (.call (some 13) (.c (Fc F.spec_l03Has)) [(.t 10), (.t 12)] (.ro true)),
        .gd 9 true (some 14) (.un 14 .not (.t 13)),
        .pick 15 (.t 9) (.t 14) (.c (B false))])
     (.keep [1, 2, 15]
      (.cond (.t 15)
       (.reg [.mv 16 (.t 1),
         .fa 17 (.t 2) 2,
         .ld 18 false 1 (.t 17),
         .mks 19 1 [(.t 18)],
         .app 20 1 8 (.t 16) (.t 19),
         .mv 1 (.t 20)])
       .skip)))
    (.keep [1, 2]
     (.seq
      (.seq
       (.reg [.mv 5 (.c (I 0))])
      (.block 0
       (lpC L.spec_l03Vars_0)))
     (.keep [1]
      (.seq
       (.reg [.mv 35 (.t 1),
         .mv 4 (.t 35)])
      (.keep [4]
       .ret)))))))
def LB.spec_l03At_0 : AC :=
       (.seq
        (.seq
         (.reg [.mv 6 (.t 5),
           .mv 7 (.t 0),
           .len 8 (.t 7),
           .bin 9 .lss (.t 6) (.t 8)])
        (.keep [0, 1, 5, 9]
         (.cond (.t 9)
          .skip
          (.keep []
           (.exit 0)))))
       (.keep [0, 1, 5]
        (.seq
         (.block 1
          (.seq
           (.reg [.mv 12 (.t 0),
             .mv 13 (.t 5),
             .ia 14 1 (.t 12) (.t 13),
             .ld 15 false 1 (.t 14),
             .mv 16 (.t 1),
             .bin 17 .eql (.t 15) (.t 16)])
          (.keep [0, 1, 5, 17]
           (.cond (.t 17)
            (.seq
             (.reg [.mv 18 (.t 5),
               .mv 4 (.t 18)])
            (.keep [4]
             .ret))
            .skip))))
        (.keep [0, 1, 5]
         (.reg [.mv 10 (.t 5),
           .bin 11 .add (.t 10) (.c (I 1)),
           .mv 5 (.t 11)])))))
def L.spec_l03At_0 : Lp := ⟨[0, 1, 5], [(2, 0)], LB.spec_l03At_0⟩
@[go_sem] theorem L.spec_l03At_0_ls : L.spec_l03At_0.ls = [0, 1, 5] := rfl
@[go_sem] theorem L.spec_l03At_0_ks : L.spec_l03At_0.ks = [(2, 0)] := rfl
@[go_sem] theorem L.spec_l03At_0_b : L.spec_l03At_0.body = LB.spec_l03At_0 := rfl
def A.spec_l03At : AF where
  nargs := 2
  ntmps := 19
  res := [.tmp 4]
  body :=
    (.seq
     (.reg [.mv 4 (.c (I 0))])
    (.seq
     (.seq
      (.reg [.mv 5 (.c (I 0))])
     (.block 0
      (lpC L.spec_l03At_0)))
    (.keep []
     (.seq
      (.reg [.mv 4 (.c (I (-1)))])
     (.keep [4]
      .ret)))))
def A.impl_VarsOf : AF where
  nargs := 1
  ntmps := 5
  res := [.tmp 2]
  body :=
    (.seq
     (.reg [.new 1 (.t 0),
       .mv 2 (.c (.n 1))])
    (.seq
     (.reg [.ld 3 true 4 (.t 1),
       .call (some 4) (.c (Fc F.impl_addVars)) [(.c (.n 1)), (.t 3)] (.io false),
       .mv 2 (.t 4)])
    (.keep [2]
     .ret)))
def LB.impl_renamed_0 : AC :=
         (.seq
          (.reg [.bin 22 .lss (.t 21) (.t 20)])
         (.seq
          (.cond (.t 22)
           .skip
           (.keep [4, 5]
            (.exit 0)))
         (.keep [1, 4, 5, 19, 20, 21]
          (.seq
           (.block 1
            (.seq
             (.reg [.ia 23 4 (.t 19) (.t 21),
               .ld 24 true 4 (.t 23),
               .new 7 (.c (.a [(I 0), (S []), (I 0), (.n 4)])),
               .st 4 (.t 7) (.t 24)])
            (.keep [1, 4, 5, 7, 19, 20, 21]
             (.dreg [⟨0, []⟩, ⟨0, [(0, 0), (0, 1), (0, 2), (0, 3), (1, 0), (1, 1), (1, 2), (1, 3), (2, 0), (5, 0), (7, 0), (8, 0), (15, 0), (16, 0), (16, 1), (16, 2), (16, 3), (19, 0), (24, 0), (27, 0), (100000, 0), (100000, 1), (100000, 2), (100000, 3), (100000, 4), (100000, 5)]⟩, ⟨0, [(0, 0), (0, 1), (0, 2), (0, 3), (2, 0), (7, 0), (19, 0), (24, 0), (100000, 0), (100000, 1), (100000, 2), (100000, 3), (100000, 4), (100000, 5)]⟩, ⟨0, []⟩, ⟨2, [(0, 0), (0, 1), (0, 2), (0, 3), (1, 0), (1, 1), (1, 2), (1, 3), (2, 0), (7, 0), (19, 0), (24, 0), (27, 0), (100000, 0), (100000, 1), (100000, 2), (100000, 3), (100000, 4), (100000, 5)]⟩, ⟨1, []⟩, ⟨1, [(0, 0), (0, 1), (0, 2), (0, 3), (1, 0), (1, 1), (1, 2), (1, 3), (2, 0), (5, 0), (7, 0), (8, 0), (15, 0), (16, 0), (16, 1), (16, 2), (16, 3), (19, 0), (24, 0), (26, 0), (27, 0), (29, 0), (29, 1), (29, 2), (29, 3), (30, 0), (100000, 0), (100000, 1), (100000, 2), (100000, 3), (100000, 4), (100000, 5)]⟩, ⟨0, []⟩, ⟨1, [(0, 0), (0, 1), (0, 2), (0, 3), (1, 0), (1, 1), (1, 2), (1, 3), (2, 0), (5, 0), (7, 0), (8, 0), (15, 0), (16, 0), (16, 1), (16, 2), (16, 3), (19, 0), (24, 0), (26, 0), (27, 0), (29, 0), (29, 1), (29, 2), (29, 3), (30, 0), (31, 0), (100000, 0), (100000, 1), (100000, 2), (100000, 3), (100000, 4), (100000, 5)]⟩]
              [.fa 25 (.t 5) 3,
               .ldq 26 false 1 (.t 25),
               .ldq 27 true 4 (.t 7),
               .mv 28 (.t 1),
               .call (some 29) (.c (Fc F.impl_renamed)) [(.t 27), (.t 28)] (.ro false),
               .mks 30 4 [(.t 29)],
               .app 31 4 56 (.t 26) (.t 30),
               .fa 32 (.t 5) 3,
               .st 1 (.t 32) (.t 31)]))))
          (.keep [1, 4, 5, 19, 20, 21]
           (.reg [.bin 33 .add (.t 21) (.c (I 1)),
             .mv 21 (.t 33)]))))))
def L.impl_renamed_0 : Lp := ⟨[1, 4, 5, 19, 20, 21], [(2, 0)], LB.impl_renamed_0⟩
@[go_sem] theorem L.impl_renamed_0_ls : L.impl_renamed_0.ls = [1, 4, 5, 19, 20, 21] := rfl
@[go_sem] theorem L.impl_renamed_0_ks : L.impl_renamed_0.ks = [(2, 0)] := rfl
@[go_sem] theorem L.impl_renamed_0_b : L.impl_renamed_0.body = LB.impl_renamed_0 := rfl
def A.impl_renamed : AF where
  nargs := 2
  ntmps := 35
  res := [.cell 4 true 4]
  body :=
    (.seq
     (.reg [.new 2 (.t 0),
       .new 4 (.c (.a [(I 0), (S []), (I 0), (.n 4)]))])
    (.seq
     (.reg [.ld 8 true 4 (.t 2),
       .new 5 (.c (.a [(I 0), (S []), (I 0), (.n 4)])),
       .st 4 (.t 5) (.t 8)])
    (.seq
     (.reg [.fa 9 (.t 5) 3,
       .st 1 (.t 9) (.c (.n 4))])
    (.seq
     (.seq
      (.reg [.fa 10 (.t 2) 0,
        .ld 11 false 1 (.t 10),
        .bin 12 .eql (.t 11) (.c (I 1))])
     (.cond (.t 12)
      (.reg [.mv 13 (.t 1),
        .fa 14 (.t 2) 2,
        .ld 15 false 1 (.t 14),
        .call (some 16) (.t 13) [(.t 15)] (.ro false),
        .fa 17 (.t 5) 2,
        .st 1 (.t 17) (.t 16)])
      .skip))
    (.keep [1, 2, 4, 5]
     (.seq
      (.seq
       (.reg [.fa 18 (.t 2) 3,
         .ld 19 false 1 (.t 18),
         .len 20 (.t 19),
         .mv 21 (.c (I 0))])
      (.keep [1, 4, 5, 19, 20, 21]
       (.block 0
        (lpC L.impl_renamed_0))))
     (.keep [4, 5]
      (.seq
       (.reg [.ld 34 true 4 (.t 5),
         .st 4 (.t 4) (.t 34)])
      (.keep [4]
       .ret)))))))))
def A.impl_fresh_1 : AF where
  nargs := 3
  ntmps := 10
  res := [.tmp 4]
  body :=
    (.seq
     (.reg [.mv 4 (.c (I 0))])
    (.seq
     (.dreg [⟨0, [(1, 0), (1, 1), (1, 2), (1, 3)]⟩, ⟨0, [(2, 0), (2, 1), (2, 2), (2, 3)]⟩, ⟨0, []⟩, ⟨2, [(0, 0), (0, 1), (0, 2), (0, 3), (2, 0), (2, 1), (2, 2), (2, 3), (6, 0)]⟩, ⟨0, []⟩, ⟨0, []⟩]
      [.ldq 5 false 1 (.t 1),
       .ldq 6 false 1 (.t 2),
       .mv 7 (.t 0),
       .call (some 8) (.c (Fc F.slices_Index_int_int)) [(.t 6), (.t 7)] (.ro false),
       .bin 9 .add (.t 5) (.t 8),
       .mv 4 (.t 9)])
    (.keep [4]
     .ret)))
def LB.slices_Index_int_int_0 : AC :=
       (.seq
        (.reg [.bin 9 .lss (.t 8) (.t 7)])
       (.seq
        (.cond (.t 9)
         .skip
         (.keep []
          (.exit 0)))
       (.keep [0, 1, 7, 8]
        (.seq
         (.block 1
          (.seq
           (.reg [.mv 10 (.t 8),
             .mv 5 (.t 10)])
          (.seq
           (.reg [.mv 11 (.t 1),
             .mv 12 (.t 0),
             .mv 13 (.t 5),
             .ia 14 1 (.t 12) (.t 13),
             .ld 15 false 1 (.t 14),
             .bin 16 .eql (.t 11) (.t 15)])
          (.keep [0, 1, 5, 7, 8, 16]
           (.cond (.t 16)
            (.seq
             (.reg [.mv 17 (.t 5),
               .mv 4 (.t 17)])
            (.keep [4]
             .ret))
            .skip)))))
        (.keep [0, 1, 7, 8]
         (.reg [.bin 18 .add (.t 8) (.c (I 1)),
           .mv 8 (.t 18)]))))))
def L.slices_Index_int_int_0 : Lp := ⟨[0, 1, 7, 8], [(2, 0)], LB.slices_Index_int_int_0⟩
@[go_sem] theorem L.slices_Index_int_int_0_ls : L.slices_Index_int_int_0.ls = [0, 1, 7, 8] := rfl
@[go_sem] theorem L.slices_Index_int_int_0_ks : L.slices_Index_int_int_0.ks = [(2, 0)] := rfl
@[go_sem] theorem L.slices_Index_int_int_0_b : L.slices_Index_int_int_0.body = LB.slices_Index_int_int_0 := rfl
def A.slices_Index_int_int : AF where
  nargs := 2
  ntmps := 19
  res := [.tmp 4]
  body :=
    (.seq
     (.reg [.mv 4 (.c (I 0))])
    (.seq
     (.seq
      (.reg [.mv 6 (.t 0),
        .len 7 (.t 6),
        .mv 8 (.c (I 0))])
     (.block 0
      (lpC L.slices_Index_int_int_0)))
    (.keep []
     (.seq
      (.reg [.mv 4 (.c (I (-1)))])
     (.keep [4]
      .ret)))))
def A.impl_structure : AF where
  nargs := 2
  ntmps := 8
  res := [.cell 4 true 4]
  body :=
    (.seq
     (.reg [.new 4 (.c (.a [(I 0), (S []), (I 0), (.n 4)]))])
    (.seq
     (.reg [.mv 5 (.t 0),
       .mv 6 (.t 1),
       .build 7 (.a [(I 0), (S []), (I 0), (.n 4)]) [(0, 1, (.c (I 4))), (1, 1, (.t 5)), (3, 1, (.t 6))],
       .st 4 (.t 4) (.t 7)])
    (.keep [4]
     .ret)))
def A.impl_copyTerm : AF where
  nargs := 1
  ntmps := 5
  res := [.cell 2 true 4]
  body :=
    (.seq
     (.reg [.new 1 (.t 0),
       .new 2 (.c (.a [(I 0), (S []), (I 0), (.n 4)]))])
    (.seq
     (.reg [.ld 3 true 4 (.t 1),
       .call (some 4) (.c (Fc F.impl_renamed)) [(.t 3), (.c (Fc F.impl_copyTerm_1))] (.ro false),
       .st 4 (.t 2) (.t 4)])
    (.keep [2]
     .ret)))
def LB.laws_markTermS_0 : AC :=
       (.seq
        (.seq
         (.reg [.mv 6 (.t 5),
           .mv 7 (.t 0),
           .len 8 (.t 7),
           .bin 9 .lss (.t 6) (.t 8)])
        (.keep [0, 1, 5, 9]
         (.cond (.t 9)
          .skip
          (.keep [1]
           (.exit 0)))))
       (.keep [0, 1, 5]
        (.seq
         (.block 1
          (.seq
           (.reg [.mv 12 (.t 0),
             .mv 13 (.t 5),
             .mv 14 (.t 1),
             .ia 15 4 (.t 12) (.t 13),
             .fa 16 (.t 15) 0,
             .st 1 (.t 16) (.t 14)])
          (.keep [0, 1, 5]
           (.seq
            (.reg [.mv 17 (.t 1),
              .bin 18 .add (.t 17) (.c (I 1)),
              .mv 1 (.t 18)])
           (.seq
            (.reg [.mv 19 (.t 0),
              .mv 20 (.t 5),
              .mv 21 (.t 1),
              .call (some 22) (.c (Fc F.laws_markText)) [(.t 21)] (.ro false),
              .ia 23 4 (.t 19) (.t 20),
              .fa 24 (.t 23) 1,
              .st 1 (.t 24) (.t 22)])
           (.keep [0, 1, 5]
            (.seq
             (.reg [.mv 25 (.t 1),
               .bin 26 .add (.t 25) (.c (I 1)),
               .mv 1 (.t 26)])
            (.seq
             (.reg [.mv 27 (.t 0),
               .mv 28 (.t 5),
               .mv 29 (.t 1),
               .ia 30 4 (.t 27) (.t 28),
               .fa 31 (.t 30) 2,
               .st 1 (.t 31) (.t 29)])
            (.keep [0, 1, 5]
             (.seq
              (.reg [.mv 32 (.t 1),
                .bin 33 .add (.t 32) (.c (I 1)),
                .mv 1 (.t 33)])
             (.reg [.mv 34 (.t 0),
               .mv 35 (.t 5),
               .ia 36 4 (.t 34) (.t 35),
               .fa 37 (.t 36) 3,
               .ld 38 false 1 (.t 37),
               .mv 39 (.t 1),
               .call (some 40) (.c (Fc F.laws_markTermS)) [(.t 38), (.t 39)] (.io false),
               .mv 1 (.t 40)])))))))))))
        (.keep [0, 1, 5]
         (.reg [.mv 10 (.t 5),
           .bin 11 .add (.t 10) (.c (I 1)),
           .mv 5 (.t 11)])))))
def L.laws_markTermS_0 : Lp := ⟨[0, 1, 5], [(2, 0)], LB.laws_markTermS_0⟩
@[go_sem] theorem L.laws_markTermS_0_ls : L.laws_markTermS_0.ls = [0, 1, 5] := rfl
@[go_sem] theorem L.laws_markTermS_0_ks : L.laws_markTermS_0.ks = [(2, 0)] := rfl
@[go_sem] theorem L.laws_markTermS_0_b : L.laws_markTermS_0.body = LB.laws_markTermS_0 := rfl
def A.laws_markTermS : AF where
  nargs := 2
  ntmps := 42
  res := [.tmp 4]
  body :=
    (.seq
     (.reg [.mv 4 (.c (I 0))])
    (.seq
     (.seq
      (.reg [.mv 5 (.c (I 0))])
     (.block 0
      (lpC L.laws_markTermS_0)))
    (.keep [1]
     (.seq
      (.reg [.mv 41 (.t 1),
        .mv 4 (.t 41)])
     (.keep [4]
      .ret)))))
def LB.laws_heldTermS_0 : AC :=
       (.seq
        (.seq
         (.reg [.mv 6 (.t 5),
           .mv 7 (.t 0),
           .len 8 (.t 7),
           .bin 9 .lss (.t 6) (.t 8)])
        (.keep [0, 1, 5, 9]
         (.cond (.t 9)
          .skip
          (.keep [1]
           (.exit 0)))))
       (.keep [0, 1, 5]
        (.seq
         (.block 1
          (.seq
           (.seq
            (.reg [.mv 12 (.t 0),
              .mv 13 (.t 5),
              .ia 14 4 (.t 12) (.t 13),
              .fa 15 (.t 14) 0,
              .ld 16 false 1 (.t 15),
              .mv 17 (.t 1),
              .bin 18 .neq (.t 16) (.t 17)])
           (.keep [0, 1, 5, 18]
            (.cond (.t 18)
             (.seq
              (.reg [.mv 4 (.c (I (-1)))])
             (.keep [4]
              .ret))
             .skip)))
          (.keep [0, 1, 5]
           (.seq
            (.reg [.mv 19 (.t 1),
              .bin 20 .add (.t 19) (.c (I 1)),
              .mv 1 (.t 20)])
           (.seq
            (.seq
             (.dreg [⟨0, []⟩, ⟨0, []⟩, ⟨0, [(0, 0), (0, 1), (0, 2), (0, 3), (100000, 0), (100000, 1), (100000, 2), (100000, 3), (100000, 4), (100000, 5)]⟩, ⟨0, []⟩, ⟨0, [(0, 0), (0, 1), (0, 2), (0, 3), (100000, 0), (100000, 1), (100000, 2), (100000, 3), (100000, 4), (100000, 5)]⟩, ⟨0, []⟩, ⟨2, [(0, 0), (0, 1), (0, 2), (0, 3), (1, 0), (1, 1), (1, 2), (1, 3), (44, 0), (46, 0), (46, 1), (46, 2), (46, 3), (100000, 0), (100000, 1), (100000, 2), (100000, 3), (100000, 4), (100000, 5)]⟩, ⟨0, []⟩]
              [.mv 21 (.t 0),
               .mv 22 (.t 5),
               .ia 23 4 (.t 21) (.t 22),
               .fa 24 (.t 23) 1,
               .ldq 25 false 1 (.t 24),
               .mv 26 (.t 1),
               .call (some 27) (.c (Fc F.laws_markText)) [(.t 26)] (.ro true),
               .bin 28 .neq (.t 25) (.t 27)])
            (.keep [0, 1, 5, 28]
             (.cond (.t 28)
              (.seq
               (.reg [.mv 4 (.c (I (-1)))])
              (.keep [4]
               .ret))
              .skip)))
           (.keep [0, 1, 5]
            (.seq
             (.reg [.mv 29 (.t 1),
               .bin 30 .add (.t 29) (.c (I 1)),
               .mv 1 (.t 30)])
            (.seq
             (.seq
              (.reg [.mv 31 (.t 0),
                .mv 32 (.t 5),
                .ia 33 4 (.t 31) (.t 32),
                .fa 34 (.t 33) 2,
                .ld 35 false 1 (.t 34),
                .mv 36 (.t 1),
                .bin 37 .neq (.t 35) (.t 36)])
             (.keep [0, 1, 5, 37]
              (.cond (.t 37)
               (.seq
                (.reg [.mv 4 (.c (I (-1)))])
               (.keep [4]
                .ret))
               .skip)))
            (.keep [0, 1, 5]
             (.seq
              (.reg [.mv 38 (.t 1),
                .bin 39 .add (.t 38) (.c (I 1)),
                .mv 1 (.t 39)])
             (.seq
              (.reg [.mv 40 (.t 0),
                .mv 41 (.t 5),
                .ia 42 4 (.t 40) (.t 41),
                .fa 43 (.t 42) 3,
                .ld 44 false 1 (.t 43),
                .mv 45 (.t 1),
                .call (some 46) (.c (Fc F.laws_heldTermS)) [(.t 44), (.t 45)] (.ro false),
                .mv 1 (.t 46)])
             (.keep [0, 1, 5]
              (.seq
               (.reg [.mv 47 (.t 1),
                 .bin 48 .lss (.t 47) (.c (I 0))])
              (.cond (.t 48)
               (.seq
                (.reg [.mv 4 (.c (I (-1)))])
               (.keep [4]
                .ret))
               .skip))))))))))))))
        (.keep [0, 1, 5]
         (.reg [.mv 10 (.t 5),
           .bin 11 .add (.t 10) (.c (I 1)),
           .mv 5 (.t 11)])))))
def L.laws_heldTermS_0 : Lp := ⟨[0, 1, 5], [(2, 0)], LB.laws_heldTermS_0⟩
@[go_sem] theorem L.laws_heldTermS_0_ls : L.laws_heldTermS_0.ls = [0, 1, 5] := rfl
@[go_sem] theorem L.laws_heldTermS_0_ks : L.laws_heldTermS_0.ks = [(2, 0)] := rfl
@[go_sem] theorem L.laws_heldTermS_0_b : L.laws_heldTermS_0.body = LB.laws_heldTermS_0 := rfl
def A.laws_heldTermS : AF where
  nargs := 2
  ntmps := 50
  res := [.tmp 4]
  body :=
    (.seq
     (.reg [.mv 4 (.c (I 0))])
    (.seq
     (.seq
      (.reg [.mv 5 (.c (I 0))])
     (.block 0
      (lpC L.laws_heldTermS_0)))
    (.keep [1]
     (.seq
      (.reg [.mv 49 (.t 1),
        .mv 4 (.t 49)])
     (.keep [4]
      .ret)))))
def A.laws_szFile : AF where
  nargs := 2
  ntmps := 20
  res := [.tmp 4]
  body :=
    (.seq
     (.reg [.new 2 (.t 0),
       .mv 4 (.c (I 0))])
    (.seq
     (.reg [.mv 5 (.t 1),
       .fa 6 (.t 2) 0,
       .ld 7 false 1 (.t 6),
       .slen 8 (.t 7),
       .bin 9 .sub (.t 5) (.t 8),
       .mv 1 (.t 9)])
    (.keep [1, 2]
     (.seq
      (.seq
       (.reg [.mv 10 (.t 1),
         .bin 11 .lss (.t 10) (.c (I 0))])
      (.cond (.t 11)
       (.seq
        (.reg [.mv 4 (.c (I (-1)))])
       (.keep [4]
        .ret))
       .skip))
     (.keep [1, 2]
      (.seq
       (.reg [.mv 12 (.t 1),
         .fa 13 (.t 2) 1,
         .ld 14 false 1 (.t 13),
         .slen 15 (.t 14),
         .bin 16 .sub (.t 12) (.t 15),
         .mv 1 (.t 16)])
      (.keep [1]
       (.seq
        (.seq
         (.reg [.mv 17 (.t 1),
           .bin 18 .lss (.t 17) (.c (I 0))])
        (.cond (.t 18)
         (.seq
          (.reg [.mv 4 (.c (I (-1)))])
         (.keep [4]
          .ret))
         .skip))
       (.keep [1]
        (.seq
         (.reg [.mv 19 (.t 1),
           .mv 4 (.t 19)])
        (.keep [4]
         .ret)))))))))))
def A.laws_toFile : AF where
  nargs := 1
  ntmps := 11
  res := [.cell 2 true 2]
  body :=
    (.seq
     (.reg [.new 1 (.t 0),
       .new 2 (.c (.a [(S []), (S [])]))])
    (.seq
     (.reg [.new 3 (.c (.a [(S []), (S [])]))])
    (.seq
     (.reg [.fa 4 (.t 1) 0,
       .ld 5 false 1 (.t 4),
       .fa 6 (.t 3) 0,
       .st 1 (.t 6) (.t 5)])
    (.keep [1, 2, 3]
     (.seq
      (.reg [.fa 7 (.t 1) 1,
        .ld 8 false 1 (.t 7),
        .fa 9 (.t 3) 1,
        .st 1 (.t 9) (.t 8)])
     (.keep [2, 3]
      (.seq
       (.reg [.ld 10 true 2 (.t 3),
         .st 2 (.t 2) (.t 10)])
      (.keep [2]
       .ret))))))))
def A.laws_eqFile : AF where
  nargs := 2
  ntmps := 15
  res := [.tmp 4]
  body :=
    (.seq
     (.reg [.new 2 (.t 0),
       .new 3 (.t 1),
       .mv 4 (.c (B false))])
    (.seq
     (.seq
      (.reg [.fa 5 (.t 2) 0,
        .ld 6 false 1 (.t 5),
        .fa 7 (.t 3) 0,
        .ld 8 false 1 (.t 7),
        .bin 9 .neq (.t 6) (.t 8)])
     (.keep [2, 3, 9]
      (.cond (.t 9)
       (.seq
        (.reg [.mv 4 (.c (B false))])
       (.keep [4]
        .ret))
       .skip)))
    (.keep [2, 3]
     (.seq
      (.seq
       (.reg [.fa 10 (.t 2) 1,
         .ld 11 false 1 (.t 10),
         .fa 12 (.t 3) 1,
         .ld 13 false 1 (.t 12),
         .bin 14 .neq (.t 11) (.t 13)])
      (.keep [14]
       (.cond (.t 14)
        (.seq
         (.reg [.mv 4 (.c (B false))])
        (.keep [4]
         .ret))
        .skip)))
     (.keep []
      (.seq
       (.reg [.mv 4 (.c (B true))])
      (.keep [4]
       .ret)))))))
def A.spec_Variant : AF where
  nargs := 2
  ntmps := 12
  res := [.tmp 4]
  body :=
    (.seq
     (.reg [.new 2 (.t 0),
       .new 3 (.t 1),
       .mv 4 (.c (B false))])
    (.seq
     (.dreg [⟨0, [(0, 0), (0, 1), (0, 2), (0, 3), (2, 0)]⟩, ⟨0, [(1, 0), (1, 1), (1, 2), (1, 3), (3, 0)]⟩, ⟨0, [(0, 0), (0, 1), (0, 2), (0, 3), (2, 0)]⟩, ⟨2, [(0, 0), (0, 1), (0, 2), (0, 3), (2, 0), (7, 0)]⟩, ⟨0, [(1, 0), (1, 1), (1, 2), (1, 3), (3, 0)]⟩, ⟨2, [(1, 0), (1, 1), (1, 2), (1, 3), (3, 0), (9, 0)]⟩, ⟨2, [(0, 0), (0, 1), (0, 2), (0, 3), (1, 0), (1, 1), (1, 2), (1, 3), (2, 0), (3, 0), (5, 0), (6, 0), (7, 0), (8, 0), (8, 1), (8, 2), (8, 3), (9, 0), (10, 0), (10, 1), (10, 2), (10, 3)]⟩, ⟨0, []⟩]
      [.ldq 5 true 4 (.t 2),
       .ldq 6 true 4 (.t 3),
       .ldq 7 true 4 (.t 2),
       .call (some 8) (.c (Fc F.spec_VarsOf)) [(.t 7)] (.ro false),
       .ldq 9 true 4 (.t 3),
       .call (some 10) (.c (Fc F.spec_VarsOf)) [(.t 9)] (.ro false),
       .call (some 11) (.c (Fc F.spec_l03Like)) [(.t 5), (.t 6), (.t 8), (.t 10)] (.ro false),
       .mv 4 (.t 11)])
    (.keep [4]
     .ret)))
def A.impl_variantClauses : AF where
  nargs := 2
  ntmps := 10
  res := [.tmp 4]
  body :=
    (.seq
     (.reg [.new 2 (.t 0),
       .new 3 (.t 1),
       .mv 4 (.c (B false))])
    (.seq
     (.dreg [⟨0, [(0, 0), (0, 1), (0, 2), (0, 3), (2, 0)]⟩, ⟨2, [(0, 0), (0, 1), (0, 2), (0, 3), (2, 0), (5, 0)]⟩, ⟨0, [(1, 0), (1, 1), (1, 2), (1, 3), (3, 0)]⟩, ⟨2, [(1, 0), (1, 1), (1, 2), (1, 3), (3, 0), (7, 0)]⟩, ⟨2, [(0, 0), (0, 1), (0, 2), (0, 3), (1, 0), (1, 1), (1, 2), (1, 3), (2, 0), (3, 0), (5, 0), (6, 0), (6, 1), (6, 2), (6, 3), (7, 0), (8, 0), (8, 1), (8, 2), (8, 3)]⟩, ⟨0, []⟩]
      [.ldq 5 true 9 (.t 2),
       .call (some 6) (.c (Fc F.impl_ClauseTerm)) [(.t 5)] (.ro false),
       .ldq 7 true 9 (.t 3),
       .call (some 8) (.c (Fc F.impl_ClauseTerm)) [(.t 7)] (.ro false),
       .call (some 9) (.c (Fc F.impl_Variant)) [(.t 6), (.t 8)] (.ro false),
       .mv 4 (.t 9)])
    (.keep [4]
     .ret)))
def A.spec_l29DiffDbRaw : AF where
  nargs := 2
  ntmps := 16
  res := [.tmp 4, .tmp 5]
  body :=
    (.seq
     (.reg [.new 2 (.t 0),
       .new 3 (.t 1),
       .mv 4 (.c (.n 9)),
       .mv 5 (.c (.n 9))])
    (.keep [2, 3]
     (.seq
      (.dreg [⟨0, []⟩, ⟨0, [(0, 0), (0, 1), (0, 2), (0, 3), (2, 0)]⟩, ⟨0, []⟩, ⟨0, [(1, 0), (1, 1), (1, 2), (1, 3), (3, 0)]⟩, ⟨2, [(0, 0), (0, 1), (0, 2), (0, 3), (1, 0), (1, 1), (1, 2), (1, 3), (2, 0), (3, 0), (7, 0), (9, 0)]⟩, ⟨0, []⟩, ⟨0, [(1, 0), (1, 1), (1, 2), (1, 3), (3, 0)]⟩, ⟨0, []⟩, ⟨0, [(0, 0), (0, 1), (0, 2), (0, 3), (2, 0)]⟩, ⟨2, [(0, 0), (0, 1), (0, 2), (0, 3), (1, 0), (1, 1), (1, 2), (1, 3), (2, 0), (3, 0), (12, 0), (14, 0)]⟩, ⟨0, []⟩, ⟨0, []⟩]
       [.fa 6 (.t 2) 0,
        .ldq 7 false 1 (.t 6),
        .fa 8 (.t 3) 0,
        .ldq 9 false 1 (.t 8),
        .call (some 10) (.c (Fc F.spec_l29Extra)) [(.t 7), (.t 9)] (.ro false),
        .fa 11 (.t 3) 0,
        .ldq 12 false 1 (.t 11),
        .fa 13 (.t 2) 0,
        .ldq 14 false 1 (.t 13),
        .call (some 15) (.c (Fc F.spec_l29Extra)) [(.t 12), (.t 14)] (.ro false),
        .mv 4 (.t 10),
        .mv 5 (.t 15)])
     (.keep [4, 5]
      .ret))))
def LB.spec_l34Clauses_0 : AC :=
       (.seq
        (.seq
         (.reg [.mv 6 (.t 4),
           .mv 7 (.t 0),
           .len 8 (.t 7),
           .bin 9 .lss (.t 6) (.t 8)])
        (.keep [0, 3, 4, 9]
         (.cond (.t 9)
          .skip
          (.keep [3]
           (.exit 0)))))
       (.keep [0, 3, 4]
        (.seq
         (.block 1
          (.reg [.mv 12 (.t 3),
            .mv 13 (.t 0),
            .mv 14 (.t 4),
            .ia 15 9 (.t 13) (.t 14),
            .ld 16 true 9 (.t 15),
            .call (some 17) (.c (Fc F.spec_l34Clause)) [(.t 16)] (.ro false),
            .mks 18 9 [(.t 17)],
            .app 19 9 128 (.t 12) (.t 18),
            .mv 3 (.t 19)]))
        (.keep [0, 3, 4]
         (.reg [.mv 10 (.t 4),
           .bin 11 .add (.t 10) (.c (I 1)),
           .mv 4 (.t 11)])))))
def L.spec_l34Clauses_0 : Lp := ⟨[0, 3, 4], [(1, 0)], LB.spec_l34Clauses_0⟩
@[go_sem] theorem L.spec_l34Clauses_0_ls : L.spec_l34Clauses_0.ls = [0, 3, 4] := rfl
@[go_sem] theorem L.spec_l34Clauses_0_ks : L.spec_l34Clauses_0.ks = [(1, 0)] := rfl
@[go_sem] theorem L.spec_l34Clauses_0_b : L.spec_l34Clauses_0.body = LB.spec_l34Clauses_0 := rfl
def A.spec_l34Clauses : AF where
  nargs := 1
  ntmps := 21
  res := [.tmp 2]
  body :=
    (.seq
     (.reg [.mv 2 (.c (.n 9))])
    (.seq
     (.reg [.mks 5 9 [],
       .mv 3 (.t 5)])
    (.seq
     (.seq
      (.reg [.mv 4 (.c (I 0))])
     (.block 0
      (lpC L.spec_l34Clauses_0)))
    (.keep [3]
     (.seq
      (.reg [.mv 20 (.t 3),
        .mv 2 (.t 20)])
     (.keep [2]
      .ret))))))
def LB.impl_more_0 : AC :=
       (.seq
        (.reg [.bin 12 .lss (.t 11) (.t 10)])
       (.seq
        (.cond (.t 12)
         .skip
         (.keep [6]
          (.exit 0)))
       (.keep [0, 1, 5, 6, 9, 10, 11]
        (.seq
         (.block 1
          (.seq
           (.reg [.mv 13 (.t 11),
             .ia 14 9 (.t 9) (.t 11),
             .ld 15 true 9 (.t 14),
             .new 8 (.c (.a [(I 0), (S []), (I 0), (.n 4), (I 0), (S []), (I 0), (.n 4), (S [])])),
             .mv 7 (.t 13),
             .st 9 (.t 8) (.t 15)])
          (.keep [0, 1, 5, 6, 7, 8, 9, 10, 11]
           (.seq
            (.dreg [⟨0, []⟩, ⟨0, []⟩, ⟨0, []⟩, ⟨0, [(0, 0), (0, 1), (0, 2), (0, 3), (100000, 0), (100000, 1), (100000, 2), (100000, 3), (100000, 4), (100000, 5)]⟩, ⟨0, [(0, 0), (0, 1), (0, 2), (0, 3), (8, 0), (15, 0), (100000, 0), (100000, 1), (100000, 2), (100000, 3), (100000, 4), (100000, 5)]⟩, ⟨2, [(0, 0), (0, 1), (0, 2), (0, 3), (8, 0), (15, 0), (20, 0), (100000, 0), (100000, 1), (100000, 2), (100000, 3), (100000, 4), (100000, 5)]⟩, ⟨0, []⟩, ⟨0, []⟩, ⟨0, [(0, 0), (0, 1), (0, 2), (0, 3), (8, 0), (15, 0), (100000, 0), (100000, 1), (100000, 2), (100000, 3), (100000, 4), (100000, 5)]⟩, ⟨2, [(0, 0), (0, 1), (0, 2), (0, 3), (1, 0), (1, 1), (1, 2), (1, 3), (8, 0), (15, 0), (24, 0), (100000, 0), (100000, 1), (100000, 2), (100000, 3), (100000, 4), (100000, 5)]⟩, ⟨0, []⟩]
             [.mv 16 (.t 5),
              .mv 17 (.t 0),
              .mv 18 (.t 7),
              .sl 19 9 (.t 17) none (some (.t 18)),
              .ldq 20 true 9 (.t 8),
              .call (some 21) (.t 16) [(.t 19), (.t 20)] (.ro true),
              .mv 22 (.t 5),
              .mv 23 (.t 1),
              .ldq 24 true 9 (.t 8),
              .call (some 25) (.t 22) [(.t 23), (.t 24)] (.ro true),
              .bin 26 .geq (.t 21) (.t 25)])
           (.keep [0, 1, 5, 6, 8, 9, 10, 11, 26]
            (.cond (.t 26)
             (.reg [.mv 27 (.t 6),
               .ld 28 true 9 (.t 8),
               .call (some 29) (.c (Fc F.impl_copyClause)) [(.t 28)] (.ro false),
               .mks 30 9 [(.t 29)],
               .app 31 9 128 (.t 27) (.t 30),
               .mv 6 (.t 31)])
             .skip))))))
        (.keep [0, 1, 5, 6, 9, 10, 11]
         (.reg [.bin 32 .add (.t 11) (.c (I 1)),
           .mv 11 (.t 32)]))))))
def L.impl_more_0 : Lp := ⟨[0, 1, 5, 6, 9, 10, 11], [(2, 0)], LB.impl_more_0⟩
@[go_sem] theorem L.impl_more_0_ls : L.impl_more_0.ls = [0, 1, 5, 6, 9, 10, 11] := rfl
@[go_sem] theorem L.impl_more_0_ks : L.impl_more_0.ks = [(2, 0)] := rfl
@[go_sem] theorem L.impl_more_0_b : L.impl_more_0.body = LB.impl_more_0 := rfl
def A.impl_more : AF where
  nargs := 2
  ntmps := 34
  res := [.tmp 4]
  body :=
    (.seq
     (.reg [.mv 4 (.c (.n 9))])
    (.seq
     (.reg [.mv 5 (.c (Fc F.impl_more_1))])
    (.seq
     (.reg [.mv 6 (.c (.n 9))])
    (.seq
     (.seq
      (.reg [.mv 9 (.t 0),
        .len 10 (.t 9),
        .mv 11 (.c (I 0))])
     (.block 0
      (lpC L.impl_more_0)))
    (.keep [6]
     (.seq
      (.reg [.mv 33 (.t 6),
        .mv 4 (.t 33)])
     (.keep [4]
      .ret)))))))
def A.spec_l03Two : AF where
  nargs := 3
  ntmps := 12
  res := [.cell 6 true 4]
  body :=
    (.seq
     (.reg [.new 4 (.t 1),
       .new 5 (.t 2),
       .new 6 (.c (.a [(I 0), (S []), (I 0), (.n 4)]))])
    (.seq
     (.reg [.mv 7 (.t 0),
       .ld 8 true 4 (.t 4),
       .ld 9 true 4 (.t 5),
       .mks 10 4 [(.t 8), (.t 9)],
       .build 11 (.a [(I 0), (S []), (I 0), (.n 4)]) [(0, 1, (.c (I 4))), (1, 1, (.t 7)), (3, 1, (.t 10))],
       .st 4 (.t 6) (.t 11)])
    (.keep [6]
     .ret)))
def LB.spec_l34Terms_0 : AC :=
       (.seq
        (.seq
         (.reg [.mv 6 (.t 4),
           .mv 7 (.t 0),
           .len 8 (.t 7),
           .bin 9 .lss (.t 6) (.t 8)])
        (.keep [0, 3, 4, 9]
         (.cond (.t 9)
          .skip
          (.keep [3]
           (.exit 0)))))
       (.keep [0, 3, 4]
        (.seq
         (.block 1
          (.reg [.mv 12 (.t 3),
            .mv 13 (.t 0),
            .mv 14 (.t 4),
            .ia 15 4 (.t 13) (.t 14),
            .ld 16 true 4 (.t 15),
            .call (some 17) (.c (Fc F.spec_l34Term)) [(.t 16)] (.ro false),
            .mks 18 4 [(.t 17)],
            .app 19 4 56 (.t 12) (.t 18),
            .mv 3 (.t 19)]))
        (.keep [0, 3, 4]
         (.reg [.mv 10 (.t 4),
           .bin 11 .add (.t 10) (.c (I 1)),
           .mv 4 (.t 11)])))))
def L.spec_l34Terms_0 : Lp := ⟨[0, 3, 4], [(1, 0)], LB.spec_l34Terms_0⟩
@[go_sem] theorem L.spec_l34Terms_0_ls : L.spec_l34Terms_0.ls = [0, 3, 4] := rfl
@[go_sem] theorem L.spec_l34Terms_0_ks : L.spec_l34Terms_0.ks = [(1, 0)] := rfl
@[go_sem] theorem L.spec_l34Terms_0_b : L.spec_l34Terms_0.body = LB.spec_l34Terms_0 := rfl
def A.spec_l34Terms : AF where
  nargs := 1
  ntmps := 21
  res := [.tmp 2]
  body :=
    (.seq
     (.reg [.mv 2 (.c (.n 4))])
    (.seq
     (.reg [.mks 5 4 [],
       .mv 3 (.t 5)])
    (.seq
     (.seq
      (.reg [.mv 4 (.c (I 0))])
     (.block 0
      (lpC L.spec_l34Terms_0)))
    (.keep [3]
     (.seq
      (.reg [.mv 20 (.t 3),
        .mv 2 (.t 20)])
     (.keep [2]
      .ret))))))
def LB.spec_l03Has_0 : AC :=
       (.seq
        (.seq
         (.reg [.mv 6 (.t 5),
           .mv 7 (.t 0),
           .len 8 (.t 7),
           .bin 9 .lss (.t 6) (.t 8)])
        (.keep [0, 1, 5, 9]
         (.cond (.t 9)
          .skip
          (.keep []
           (.exit 0)))))
       (.keep [0, 1, 5]
        (.seq
         (.block 1
          (.seq
           (.reg [.mv 12 (.t 0),
             .mv 13 (.t 5),
             .ia 14 1 (.t 12) (.t 13),
             .ld 15 false 1 (.t 14),
             .mv 16 (.t 1),
             .bin 17 .eql (.t 15) (.t 16)])
          (.keep [0, 1, 5, 17]
           (.cond (.t 17)
            (.seq
             (.reg [.mv 4 (.c (B true))])
            (.keep [4]
             .ret))
            .skip))))
        (.keep [0, 1, 5]
         (.reg [.mv 10 (.t 5),
           .bin 11 .add (.t 10) (.c (I 1)),
           .mv 5 (.t 11)])))))
def L.spec_l03Has_0 : Lp := ⟨[0, 1, 5], [(2, 0)], LB.spec_l03Has_0⟩
@[go_sem] theorem L.spec_l03Has_0_ls : L.spec_l03Has_0.ls = [0, 1, 5] := rfl
@[go_sem] theorem L.spec_l03Has_0_ks : L.spec_l03Has_0.ks = [(2, 0)] := rfl
@[go_sem] theorem L.spec_l03Has_0_b : L.spec_l03Has_0.body = LB.spec_l03Has_0 := rfl
def A.spec_l03Has : AF where
  nargs := 2
  ntmps := 18
  res := [.tmp 4]
  body :=
    (.seq
     (.reg [.mv 4 (.c (B false))])
    (.seq
     (.seq
      (.reg [.mv 5 (.c (I 0))])
     (.block 0
      (lpC L.spec_l03Has_0)))
    (.keep []
     (.seq
      (.reg [.mv 4 (.c (B false))])
     (.keep [4]
      .ret)))))
def LB.impl_addVars_0 : AC :=
         (.seq
          (.reg [.bin 26 .lss (.t 25) (.t 24)])
         (.seq
          (.cond (.t 26)
           .skip
           (.keep [0]
            (.exit 0)))
         (.keep [0, 23, 24, 25]
          (.seq
           (.block 1
            (.seq
             (.reg [.ia 27 4 (.t 23) (.t 25),
               .ld 28 true 4 (.t 27),
               .new 6 (.c (.a [(I 0), (S []), (I 0), (.n 4)])),
               .st 4 (.t 6) (.t 28)])
            (.keep [0, 6, 23, 24, 25]
             (.reg [.mv 29 (.t 0),
               .ld 30 true 4 (.t 6),
               .call (some 31) (.c (Fc F.impl_addVars)) [(.t 29), (.t 30)] (.io false),
               .mv 0 (.t 31)]))))
          (.keep [0, 23, 24, 25]
           (.reg [.bin 32 .add (.t 25) (.c (I 1)),
             .mv 25 (.t 32)]))))))
def L.impl_addVars_0 : Lp := ⟨[0, 23, 24, 25], [(0, 0)], LB.impl_addVars_0⟩
@[go_sem] theorem L.impl_addVars_0_ls : L.impl_addVars_0.ls = [0, 23, 24, 25] := rfl
@[go_sem] theorem L.impl_addVars_0_ks : L.impl_addVars_0.ks = [(0, 0)] := rfl
@[go_sem] theorem L.impl_addVars_0_b : L.impl_addVars_0.body = LB.impl_addVars_0 := rfl
def A.impl_addVars : AF where
  nargs := 2
  ntmps := 34
  res := [.tmp 4]
  body :=
    (.seq
     (.reg [.new 3 (.t 1),
       .mv 4 (.c (.n 1))])
    (.seq
     (.seq
      (.reg [.fa 7 (.t 3) 0,
        .ld 8 false 1 (.t 7),
        .bin 9 .eql (.t 8) (.c (I 1)),
        .mv 10 (.t 9),
        .gd 10 true (some 11) (.mv 11 (.t 0)),
        .gd 10 true (some 12) (.fa 12 (.t 3) 2),
        .gd 10 true (some 13) (.ld 13 false 1 (.t 12)),
        .gd 10 true (some 14) (.call (some 14) (.c (Fc F.slices_Contains_int_int)) [(.t 11), (.t 13)] (.ro true)),
        .gd 10 true (some 15) (.un 15 .not (.t 14)),
        .pick 16 (.t 10) (.t 15) (.c (B false))])
     (.keep [0, 3, 16]
      (.cond (.t 16)
       (.reg [.mv 17 (.t 0),
         .fa 18 (.t 3) 2,
         .ld 19 false 1 (.t 18),
         .mks 20 1 [(.t 19)],
         .app 21 1 8 (.t 17) (.t 20),
         .mv 0 (.t 21)])
       .skip)))
    (.keep [0, 3]
     (.seq
      (.seq
       (.reg [.fa 22 (.t 3) 3,
         .ld 23 false 1 (.t 22),
         .len 24 (.t 23),
         .mv 25 (.c (I 0))])
      (.keep [0, 23, 24, 25]
       (.block 0
        (lpC L.impl_addVars_0))))
     (.keep [0]
      (.seq
       (.reg [.mv 33 (.t 0),
         .mv 4 (.t 33)])
      (.keep [4]
       .ret)))))))
def A.impl_copyTerm_1 : AF where
  nargs := 1
  ntmps := 4
  res := [.tmp 2]
  body :=
    (.seq
     (.reg [.mv 2 (.c (I 0))])
    (.seq
     (.reg [.mv 3 (.t 0),
       .mv 2 (.t 3)])
    (.keep [2]
     .ret)))
def LB.laws_markText_0 : AC :=
        (.seq
         (.seq
          (.reg [.mv 6 (.t 0),
            .bin 7 .gtr (.t 6) (.c (I 0))])
         (.cond (.t 7)
          .skip
          (.keep [3]
           (.exit 0))))
        (.keep [0, 3]
         (.block 1
          (.seq
           (.reg [.mv 8 (.t 0),
             .bin 9 .rem (.t 8) (.c (I 10)),
             .bin 10 .add (.c (I 48)) (.t 9),
             .int 11 .u8 (.t 10),
             .mks 12 1 [(.t 11)],
             .str 13 (.t 12),
             .mv 14 (.t 3),
             .bin 15 .add (.t 13) (.t 14),
             .mv 3 (.t 15)])
          (.keep [0, 3]
           (.reg [.mv 16 (.t 0),
             .bin 17 .quo (.t 16) (.c (I 10)),
             .mv 0 (.t 17)]))))))
def L.laws_markText_0 : Lp := ⟨[0, 3], [(1, 0)], LB.laws_markText_0⟩
@[go_sem] theorem L.laws_markText_0_ls : L.laws_markText_0.ls = [0, 3] := rfl
@[go_sem] theorem L.laws_markText_0_ks : L.laws_markText_0.ks = [(1, 0)] := rfl
@[go_sem] theorem L.laws_markText_0_b : L.laws_markText_0.body = LB.laws_markText_0 := rfl
def A.laws_markText : AF where
  nargs := 1
  ntmps := 20
  res := [.tmp 2]
  body :=
    (.seq
     (.reg [.mv 2 (.c (S []))])
    (.seq
     (.seq
      (.reg [.mv 4 (.t 0),
        .bin 5 .leq (.t 4) (.c (I 0))])
     (.cond (.t 5)
      (.seq
       (.reg [.mv 2 (.c (S [109, 48]))])
      (.keep [2]
       .ret))
      .skip))
    (.keep [0]
     (.seq
      (.reg [.mv 3 (.c (S []))])
     (.seq
      (.block 0
       (lpC L.laws_markText_0))
     (.keep [3]
      (.seq
       (.reg [.mv 18 (.t 3),
         .bin 19 .add (.c (S [109])) (.t 18),
         .mv 2 (.t 19)])
      (.keep [2]
       .ret))))))))
def LB.spec_l03Like_0 : AC :=
          (.seq
           (.seq
            (.reg [.mv 48 (.t 9),
              .fa 49 (.t 4) 3,
              .ld 50 false 1 (.t 49),
              .len 51 (.t 50),
              .bin 52 .lss (.t 48) (.t 51)])
           (.keep [2, 3, 4, 5, 9, 52]
            (.cond (.t 52)
             .skip
             (.keep []
              (.exit 0)))))
          (.keep [2, 3, 4, 5, 9]
           (.seq
            (.block 1
             (.seq
              (.dreg [⟨0, []⟩, ⟨0, [(0, 0), (0, 1), (0, 2), (0, 3), (4, 0), (100000, 0), (100000, 1), (100000, 2), (100000, 3), (100000, 4), (100000, 5)]⟩, ⟨0, []⟩, ⟨0, [(0, 0), (0, 1), (0, 2), (0, 3), (4, 0), (56, 0), (100000, 0), (100000, 1), (100000, 2), (100000, 3), (100000, 4), (100000, 5)]⟩, ⟨0, [(0, 0), (0, 1), (0, 2), (0, 3), (4, 0), (56, 0), (100000, 0), (100000, 1), (100000, 2), (100000, 3), (100000, 4), (100000, 5)]⟩, ⟨0, []⟩, ⟨0, [(1, 0), (1, 1), (1, 2), (1, 3), (5, 0), (100000, 0), (100000, 1), (100000, 2), (100000, 3), (100000, 4), (100000, 5)]⟩, ⟨0, []⟩, ⟨0, [(1, 0), (1, 1), (1, 2), (1, 3), (5, 0), (61, 0), (100000, 0), (100000, 1), (100000, 2), (100000, 3), (100000, 4), (100000, 5)]⟩, ⟨0, [(1, 0), (1, 1), (1, 2), (1, 3), (5, 0), (61, 0), (100000, 0), (100000, 1), (100000, 2), (100000, 3), (100000, 4), (100000, 5)]⟩, ⟨0, []⟩, ⟨0, []⟩, ⟨2, [(0, 0), (0, 1), (0, 2), (0, 3), (1, 0), (1, 1), (1, 2), (1, 3), (2, 0), (2, 1), (2, 2), (2, 3), (3, 0), (3, 1), (3, 2), (3, 3), (4, 0), (5, 0), (56, 0), (59, 0), (61, 0), (64, 0), (100000, 0), (100000, 1), (100000, 2), (100000, 3), (100000, 4), (100000, 5)]⟩, ⟨0, []⟩]
               [.fa 55 (.t 4) 3,
                .ldq 56 false 1 (.t 55),
                .mv 57 (.t 9),
                .ia 58 4 (.t 56) (.t 57),
                .ldq 59 true 4 (.t 58),
                .fa 60 (.t 5) 3,
                .ldq 61 false 1 (.t 60),
                .mv 62 (.t 9),
                .ia 63 4 (.t 61) (.t 62),
                .ldq 64 true 4 (.t 63),
                .mv 65 (.t 2),
                .mv 66 (.t 3),
                .call (some 67) (.c (Fc F.spec_l03Like)) [(.t 59), (.t 64), (.t 65), (.t 66)] (.ro true),
                .un 68 .not (.t 67)])
             (.keep [2, 3, 4, 5, 9, 68]
              (.cond (.t 68)
               (.seq
                (.reg [.mv 8 (.c (B false))])
               (.keep [8]
                .ret))
               .skip))))
           (.keep [2, 3, 4, 5, 9]
            (.reg [.mv 53 (.t 9),
              .bin 54 .add (.t 53) (.c (I 1)),
              .mv 9 (.t 54)])))))
def L.spec_l03Like_0 : Lp := ⟨[2, 3, 4, 5, 9], [(4, 0)], LB.spec_l03Like_0⟩
@[go_sem] theorem L.spec_l03Like_0_ls : L.spec_l03Like_0.ls = [2, 3, 4, 5, 9] := rfl
@[go_sem] theorem L.spec_l03Like_0_ks : L.spec_l03Like_0.ks = [(4, 0)] := rfl
@[go_sem] theorem L.spec_l03Like_0_b : L.spec_l03Like_0.body = LB.spec_l03Like_0 := rfl
def A.spec_l03Like : AF where
  nargs := 4
  ntmps := 69
  res := [.tmp 8]
  body :=
    (.seq
     (.reg [.new 4 (.t 0),
       .new 5 (.t 1),
       .mv 8 (.c (B false))])
    (.seq
     (.seq
      (.reg [.fa 10 (.t 4) 0,
        .ld 11 false 1 (.t 10),
        .fa 12 (.t 5) 0,
        .ld 13 false 1 (.t 12),
        .bin 14 .neq (.t 11) (.t 13),
        .mv 15 (.t 14),
        .gd 15 false (some 16) (.fa 16 (.t 4) 1),
        .gd 15 false (some 17) (.ld 17 false 1 (.t 16)),
        .gd 15 false (some 18) (.fa 18 (.t 5) 1),
        .gd 15 false (some 19) (.ld 19 false 1 (.t 18)),
        .gd 15 false (some 20) (.bin 20 .neq (.t 17) (.t 19)),
        .pick 21 (.t 15) (.c (B true)) (.t 20),
        .mv 22 (.t 21),
        .gd 22 false (some 23) (.fa 23 (.t 4) 3),
        .gd 22 false (some 24) (.ld 24 false 1 (.t 23)),
        .gd 22 false (some 25) (.len 25 (.t 24)),
        .gd 22 false (some 26) (.fa 26 (.t 5) 3),
        .gd 22 false (some 27) (.ld 27 false 1 (.t 26)),
        .gd 22 false (some 28) (.len 28 (.t 27)),
        .gd 22 false (some 29) (.bin 29 .neq (.t 25) (.t 28)),
        .pick 30 (.t 22) (.c (B true)) (.t 29)])
     (.keep [2, 3, 4, 5, 30]
      (.cond (.t 30)
       (.seq
        (.reg [.mv 8 (.c (B false))])
       (.keep [8]
        .ret))
       .skip)))
    (.keep [2, 3, 4, 5]
     (.seq
      (.seq
       (.reg [.fa 31 (.t 4) 0,
         .ld 32 false 1 (.t 31),
         .bin 33 .eql (.t 32) (.c (I 1))])
      (.cond (.t 33)
       (.seq
        (.dreg [⟨0, []⟩, ⟨0, []⟩, ⟨0, [(0, 0), (0, 1), (0, 2), (0, 3), (4, 0), (100000, 0), (100000, 1), (100000, 2), (100000, 3), (100000, 4), (100000, 5)]⟩, ⟨2, [(0, 0), (0, 1), (0, 2), (0, 3), (2, 0), (2, 1), (2, 2), (2, 3), (4, 0), (36, 0), (100000, 0), (100000, 1), (100000, 2), (100000, 3), (100000, 4), (100000, 5)]⟩, ⟨0, []⟩, ⟨0, []⟩, ⟨0, [(1, 0), (1, 1), (1, 2), (1, 3), (5, 0), (100000, 0), (100000, 1), (100000, 2), (100000, 3), (100000, 4), (100000, 5)]⟩, ⟨2, [(1, 0), (1, 1), (1, 2), (1, 3), (3, 0), (3, 1), (3, 2), (3, 3), (5, 0), (40, 0), (100000, 0), (100000, 1), (100000, 2), (100000, 3), (100000, 4), (100000, 5)]⟩, ⟨0, []⟩, ⟨0, []⟩]
         [.mv 34 (.t 2),
          .fa 35 (.t 4) 2,
          .ldq 36 false 1 (.t 35),
          .call (some 37) (.c (Fc F.spec_l03At)) [(.t 34), (.t 36)] (.ro false),
          .mv 38 (.t 3),
          .fa 39 (.t 5) 2,
          .ldq 40 false 1 (.t 39),
          .call (some 41) (.c (Fc F.spec_l03At)) [(.t 38), (.t 40)] (.ro false),
          .bin 42 .eql (.t 37) (.t 41),
          .mv 8 (.t 42)])
       (.keep [8]
        .ret))
       .skip))
     (.keep [2, 3, 4, 5]
      (.seq
       (.seq
        (.reg [.fa 43 (.t 4) 2,
          .ld 44 false 1 (.t 43),
          .fa 45 (.t 5) 2,
          .ld 46 false 1 (.t 45),
          .bin 47 .neq (.t 44) (.t 46)])
       (.keep [2, 3, 4, 5, 47]
        (.cond (.t 47)
         (.seq
          (.reg [.mv 8 (.c (B false))])
         (.keep [8]
          .ret))
         .skip)))
      (.keep [2, 3, 4, 5]
       (.seq
        (.seq
         (.reg [.mv 9 (.c (I 0))])
        (.block 0
         (lpC L.spec_l03Like_0)))
       (.keep []
        (.seq
         (.reg [.mv 8 (.c (B true))])
        (.keep [8]
         .ret)))))))))))
def LB.impl_Variant_0 : AC :=
         (.seq
          (.reg [.bin 23 .lss (.t 22) (.t 21)])
         (.seq
          (.cond (.t 23)
           .skip
           (.keep [2, 3, 7]
            (.exit 0)))
         (.keep [2, 3, 6, 7, 20, 21, 22]
          (.seq
           (.block 1
            (.seq
             (.reg [.mv 24 (.t 22),
               .ia 25 1 (.t 20) (.t 22),
               .ld 26 false 1 (.t 25),
               .mv 8 (.t 24),
               .mv 9 (.t 26)])
            (.keep [2, 3, 6, 7, 8, 9, 20, 21, 22]
             (.dreg [⟨0, [(7, 0), (19, 0), (100000, 0), (100000, 1), (100000, 2), (100000, 3), (100000, 4), (100000, 5)]⟩, ⟨0, []⟩, ⟨0, []⟩, ⟨0, []⟩, ⟨0, [(1, 0), (1, 1), (1, 2), (1, 3), (3, 0), (12, 0), (13, 0), (13, 1), (13, 2), (13, 3), (100000, 0), (100000, 1), (100000, 2), (100000, 3), (100000, 4), (100000, 5)]⟩, ⟨0, [(1, 0), (1, 1), (1, 2), (1, 3), (3, 0), (12, 0), (13, 0), (13, 1), (13, 2), (13, 3), (100000, 0), (100000, 1), (100000, 2), (100000, 3), (100000, 4), (100000, 5)]⟩, ⟨1, [(0, 0), (0, 1), (0, 2), (0, 3), (1, 0), (1, 1), (1, 2), (1, 3), (2, 0), (3, 0), (7, 0), (10, 0), (11, 0), (11, 1), (11, 2), (11, 3), (12, 0), (13, 0), (13, 1), (13, 2), (13, 3), (19, 0), (26, 0), (27, 0), (32, 0), (100000, 0), (100000, 1), (100000, 2), (100000, 3), (100000, 4), (100000, 5)]⟩]
              [.ldq 27 false 1 (.t 7),
               .mv 28 (.t 9),
               .mv 29 (.t 6),
               .mv 30 (.t 8),
               .ia 31 1 (.t 29) (.t 30),
               .ldq 32 false 1 (.t 31),
               .mset (.t 27) (.t 28) (.t 32)]))))
          (.keep [2, 3, 6, 7, 20, 21, 22]
           (.reg [.bin 33 .add (.t 22) (.c (I 1)),
             .mv 22 (.t 33)]))))))
def L.impl_Variant_0 : Lp := ⟨[2, 3, 6, 7, 20, 21, 22], [(2, 0)], LB.impl_Variant_0⟩
@[go_sem] theorem L.impl_Variant_0_ls : L.impl_Variant_0.ls = [2, 3, 6, 7, 20, 21, 22] := rfl
@[go_sem] theorem L.impl_Variant_0_ks : L.impl_Variant_0.ks = [(2, 0)] := rfl
@[go_sem] theorem L.impl_Variant_0_b : L.impl_Variant_0.body = LB.impl_Variant_0 := rfl
def A.impl_Variant : AF where
  nargs := 2
  ntmps := 39
  res := [.tmp 4]
  body :=
    (.seq
     (.reg [.new 2 (.t 0),
       .new 3 (.t 1),
       .mv 4 (.c (B false))])
    (.seq
     (.dreg [⟨0, [(0, 0), (0, 1), (0, 2), (0, 3), (2, 0), (100000, 0), (100000, 1), (100000, 2), (100000, 3), (100000, 4), (100000, 5)]⟩, ⟨2, [(0, 0), (0, 1), (0, 2), (0, 3), (2, 0), (10, 0), (100000, 0), (100000, 1), (100000, 2), (100000, 3), (100000, 4), (100000, 5)]⟩, ⟨0, [(1, 0), (1, 1), (1, 2), (1, 3), (3, 0), (100000, 0), (100000, 1), (100000, 2), (100000, 3), (100000, 4), (100000, 5)]⟩, ⟨2, [(1, 0), (1, 1), (1, 2), (1, 3), (3, 0), (12, 0), (100000, 0), (100000, 1), (100000, 2), (100000, 3), (100000, 4), (100000, 5)]⟩, ⟨0, []⟩, ⟨0, []⟩]
      [.ldq 10 true 4 (.t 2),
       .call (some 11) (.c (Fc F.impl_VarsOf)) [(.t 10)] (.ro true),
       .ldq 12 true 4 (.t 3),
       .call (some 13) (.c (Fc F.impl_VarsOf)) [(.t 12)] (.ro true),
       .mv 5 (.t 11),
       .mv 6 (.t 13)])
    (.keep [2, 3, 5, 6]
     (.seq
      (.seq
       (.reg [.mv 14 (.t 5),
         .len 15 (.t 14),
         .mv 16 (.t 6),
         .len 17 (.t 16),
         .bin 18 .neq (.t 15) (.t 17)])
      (.keep [2, 3, 5, 6, 18]
       (.cond (.t 18)
        (.seq
         (.reg [.mv 4 (.c (B false))])
        (.keep [4]
         .ret))
        .skip)))
     (.keep [2, 3, 5, 6]
      (.seq
       (.reg [.mkm 19,
         .new 7 (.c (.v (.map none))),
         .st 1 (.t 7) (.t 19)])
      (.seq
       (.seq
        (.reg [.mv 20 (.t 5),
          .len 21 (.t 20),
          .mv 22 (.c (I 0))])
       (.block 0
        (lpC L.impl_Variant_0)))
      (.keep [2, 3, 7]
       (.seq
        (.dreg [⟨0, [(0, 0), (0, 1), (0, 2), (0, 3), (2, 0), (100000, 0), (100000, 1), (100000, 2), (100000, 3), (100000, 4), (100000, 5)]⟩, ⟨0, []⟩, ⟨2, [(0, 0), (0, 1), (0, 2), (0, 3), (2, 0), (7, 0), (19, 0), (34, 0), (100000, 0), (100000, 1), (100000, 2), (100000, 3), (100000, 4), (100000, 5)]⟩, ⟨0, [(1, 0), (1, 1), (1, 2), (1, 3), (3, 0), (100000, 0), (100000, 1), (100000, 2), (100000, 3), (100000, 4), (100000, 5)]⟩, ⟨2, [(0, 0), (0, 1), (0, 2), (0, 3), (1, 0), (1, 1), (1, 2), (1, 3), (2, 0), (3, 0), (7, 0), (19, 0), (34, 0), (36, 0), (36, 1), (36, 2), (36, 3), (37, 0), (100000, 0), (100000, 1), (100000, 2), (100000, 3), (100000, 4), (100000, 5)]⟩, ⟨0, []⟩]
         [.ldq 34 true 4 (.t 2),
          .fun 35 (.func F.impl_Variant_1) [] [(.t 7)],
          .call (some 36) (.c (Fc F.impl_renamed)) [(.t 34), (.t 35)] (.ro false),
          .ldq 37 true 4 (.t 3),
          .call (some 38) (.c (Fc F.impl_SameTerm)) [(.t 36), (.t 37)] (.ro false),
          .mv 4 (.t 38)])
       (.keep [4]
        .ret))))))))))
def LB.spec_l29Extra_0 : AC :=
              (.seq
               (.seq
                (.reg [.mv 34 (.t 10),
                  .mv 35 (.t 1),
                  .len 36 (.t 35),
                  .bin 37 .lss (.t 34) (.t 36)])
               (.keep [0, 1, 5, 6, 7, 9, 10, 37]
                (.cond (.t 37)
                 .skip
                 (.keep [0, 1, 5, 6, 7, 9]
                  (.exit 4)))))
              (.keep [0, 1, 5, 6, 7, 9, 10]
               (.seq
                (.block 5
                 (.seq
                  (.dreg [⟨0, []⟩, ⟨0, []⟩, ⟨0, [(1, 0), (1, 1), (1, 2), (1, 3), (100000, 0), (100000, 1), (100000, 2), (100000, 3), (100000, 4), (100000, 5)]⟩, ⟨0, [(1, 0), (1, 1), (1, 2), (1, 3), (100000, 0), (100000, 1), (100000, 2), (100000, 3), (100000, 4), (100000, 5)]⟩, ⟨0, []⟩, ⟨0, []⟩, ⟨0, [(0, 0), (0, 1), (0, 2), (0, 3), (100000, 0), (100000, 1), (100000, 2), (100000, 3), (100000, 4), (100000, 5)]⟩, ⟨0, [(0, 0), (0, 1), (0, 2), (0, 3), (100000, 0), (100000, 1), (100000, 2), (100000, 3), (100000, 4), (100000, 5)]⟩, ⟨2, [(0, 0), (0, 1), (0, 2), (0, 3), (1, 0), (1, 1), (1, 2), (1, 3), (43, 0), (47, 0), (100000, 0), (100000, 1), (100000, 2), (100000, 3), (100000, 4), (100000, 5)]⟩]
                   [.mv 40 (.t 1),
                    .mv 41 (.t 10),
                    .ia 42 9 (.t 40) (.t 41),
                    .ldq 43 true 9 (.t 42),
                    .mv 44 (.t 0),
                    .mv 45 (.t 6),
                    .ia 46 9 (.t 44) (.t 45),
                    .ldq 47 true 9 (.t 46),
                    .call (some 48) (.c (Fc F.spec_l29Same)) [(.t 43), (.t 47)] (.ro true)])
                 (.keep [0, 1, 5, 6, 7, 9, 10, 48]
                  (.cond (.t 48)
                   (.reg [.mv 49 (.t 9),
                     .bin 50 .add (.t 49) (.c (I 1)),
                     .mv 9 (.t 50)])
                   .skip))))
               (.keep [0, 1, 5, 6, 7, 9, 10]
                (.reg [.mv 38 (.t 10),
                  .bin 39 .add (.t 38) (.c (I 1)),
                  .mv 10 (.t 39)])))))
def L.spec_l29Extra_0 : Lp := ⟨[0, 1, 5, 6, 7, 9, 10], [(2, 0)], LB.spec_l29Extra_0⟩
@[go_sem] theorem L.spec_l29Extra_0_ls : L.spec_l29Extra_0.ls = [0, 1, 5, 6, 7, 9, 10] := rfl
@[go_sem] theorem L.spec_l29Extra_0_ks : L.spec_l29Extra_0.ks = [(2, 0)] := rfl
@[go_sem] theorem L.spec_l29Extra_0_b : L.spec_l29Extra_0.body = LB.spec_l29Extra_0 := rfl
def LB.spec_l29Extra_1 : AC :=
             (.seq
              (.seq
               (.reg [.mv 18 (.t 8),
                 .mv 19 (.t 6),
                 .bin 20 .leq (.t 18) (.t 19)])
              (.cond (.t 20)
               .skip
               (.keep [0, 1, 5, 6, 7]
                (.exit 2))))
             (.keep [0, 1, 5, 6, 7, 8]
              (.seq
               (.block 3
                (.seq
                 (.dreg [⟨0, []⟩, ⟨0, []⟩, ⟨0, [(0, 0), (0, 1), (0, 2), (0, 3), (100000, 0), (100000, 1), (100000, 2), (100000, 3), (100000, 4), (100000, 5)]⟩, ⟨0, [(0, 0), (0, 1), (0, 2), (0, 3), (100000, 0), (100000, 1), (100000, 2), (100000, 3), (100000, 4), (100000, 5)]⟩, ⟨0, []⟩, ⟨0, []⟩, ⟨0, [(0, 0), (0, 1), (0, 2), (0, 3), (100000, 0), (100000, 1), (100000, 2), (100000, 3), (100000, 4), (100000, 5)]⟩, ⟨0, [(0, 0), (0, 1), (0, 2), (0, 3), (100000, 0), (100000, 1), (100000, 2), (100000, 3), (100000, 4), (100000, 5)]⟩, ⟨2, [(0, 0), (0, 1), (0, 2), (0, 3), (26, 0), (30, 0), (100000, 0), (100000, 1), (100000, 2), (100000, 3), (100000, 4), (100000, 5)]⟩]
                  [.mv 23 (.t 0),
                   .mv 24 (.t 8),
                   .ia 25 9 (.t 23) (.t 24),
                   .ldq 26 true 9 (.t 25),
                   .mv 27 (.t 0),
                   .mv 28 (.t 6),
                   .ia 29 9 (.t 27) (.t 28),
                   .ldq 30 true 9 (.t 29),
                   .call (some 31) (.c (Fc F.spec_l29Same)) [(.t 26), (.t 30)] (.ro true)])
                (.keep [0, 1, 5, 6, 7, 8, 31]
                 (.cond (.t 31)
                  (.reg [.mv 32 (.t 7),
                    .bin 33 .add (.t 32) (.c (I 1)),
                    .mv 7 (.t 33)])
                  .skip))))
              (.keep [0, 1, 5, 6, 7, 8]
               (.reg [.mv 21 (.t 8),
                 .bin 22 .add (.t 21) (.c (I 1)),
                 .mv 8 (.t 22)])))))
def L.spec_l29Extra_1 : Lp := ⟨[0, 1, 5, 6, 7, 8], [(2, 0)], LB.spec_l29Extra_1⟩
@[go_sem] theorem L.spec_l29Extra_1_ls : L.spec_l29Extra_1.ls = [0, 1, 5, 6, 7, 8] := rfl
@[go_sem] theorem L.spec_l29Extra_1_ks : L.spec_l29Extra_1.ks = [(2, 0)] := rfl
@[go_sem] theorem L.spec_l29Extra_1_b : L.spec_l29Extra_1.body = LB.spec_l29Extra_1 := rfl
def LB.spec_l29Extra_2 : AC :=
       (.seq
        (.seq
         (.reg [.mv 12 (.t 6),
           .mv 13 (.t 0),
           .len 14 (.t 13),
           .bin 15 .lss (.t 12) (.t 14)])
        (.keep [0, 1, 5, 6, 15]
         (.cond (.t 15)
          .skip
          (.keep [5]
           (.exit 0)))))
       (.keep [0, 1, 5, 6]
        (.seq
         (.block 1
          (.seq
           (.reg [.mv 7 (.c (I 0))])
          (.seq
           (.seq
            (.reg [.mv 8 (.c (I 0))])
           (.block 2
            (lpC L.spec_l29Extra_1)))
          (.keep [0, 1, 5, 6, 7]
           (.seq
            (.reg [.mv 9 (.c (I 0))])
           (.seq
            (.seq
             (.reg [.mv 10 (.c (I 0))])
            (.block 4
             (lpC L.spec_l29Extra_0)))
           (.keep [0, 1, 5, 6, 7, 9]
            (.seq
             (.reg [.mv 51 (.t 7),
               .mv 52 (.t 9),
               .bin 53 .gtr (.t 51) (.t 52)])
            (.cond (.t 53)
             (.reg [.mv 54 (.t 5),
               .mv 55 (.t 0),
               .mv 56 (.t 6),
               .ia 57 9 (.t 55) (.t 56),
               .ld 58 true 9 (.t 57),
               .mks 59 9 [(.t 58)],
               .app 60 9 128 (.t 54) (.t 59),
               .mv 5 (.t 60)])
             .skip)))))))))
        (.keep [0, 1, 5, 6]
         (.reg [.mv 16 (.t 6),
           .bin 17 .add (.t 16) (.c (I 1)),
           .mv 6 (.t 17)])))))
def L.spec_l29Extra_2 : Lp := ⟨[0, 1, 5, 6], [(2, 0)], LB.spec_l29Extra_2⟩
@[go_sem] theorem L.spec_l29Extra_2_ls : L.spec_l29Extra_2.ls = [0, 1, 5, 6] := rfl
@[go_sem] theorem L.spec_l29Extra_2_ks : L.spec_l29Extra_2.ks = [(2, 0)] := rfl
@[go_sem] theorem L.spec_l29Extra_2_b : L.spec_l29Extra_2.body = LB.spec_l29Extra_2 := rfl
def A.spec_l29Extra : AF where
  nargs := 2
  ntmps := 62
  res := [.tmp 4]
  body :=
    (.seq
     (.reg [.mv 4 (.c (.n 9))])
    (.seq
     (.reg [.mks 11 9 [],
       .mv 5 (.t 11)])
    (.seq
     (.seq
      (.reg [.mv 6 (.c (I 0))])
     (.block 0
      (lpC L.spec_l29Extra_2)))
    (.keep [5]
     (.seq
      (.reg [.mv 61 (.t 5),
        .mv 4 (.t 61)])
     (.keep [4]
      .ret))))))
def A.spec_l34Clause : AF where
  nargs := 1
  ntmps := 12
  res := [.cell 2 true 9]
  body :=
    (.seq
     (.reg [.new 1 (.t 0),
       .new 2 (.c (.a [(I 0), (S []), (I 0), (.n 4), (I 0), (S []), (I 0), (.n 4), (S [])]))])
    (.seq
     (.reg [.fa 3 (.t 1) 0,
       .ld 4 true 4 (.t 3),
       .call (some 5) (.c (Fc F.spec_l34Term)) [(.t 4)] (.ro false),
       .fa 6 (.t 1) 0,
       .st 4 (.t 6) (.t 5)])
    (.keep [1, 2]
     (.seq
      (.reg [.fa 7 (.t 1) 4,
        .ld 8 true 4 (.t 7),
        .call (some 9) (.c (Fc F.spec_l34Term)) [(.t 8)] (.ro false),
        .fa 10 (.t 1) 4,
        .st 4 (.t 10) (.t 9)])
     (.keep [1, 2]
      (.seq
       (.reg [.ld 11 true 9 (.t 1),
         .st 9 (.t 2) (.t 11)])
      (.keep [2]
       .ret)))))))
def LB.impl_more_1_0 : AC :=
       (.seq
        (.reg [.bin 11 .lss (.t 10) (.t 9)])
       (.seq
        (.cond (.t 11)
         .skip
         (.keep [5]
          (.exit 0)))
       (.keep [3, 5, 8, 9, 10]
        (.seq
         (.block 1
          (.seq
           (.reg [.ia 12 9 (.t 8) (.t 10),
             .ld 13 true 9 (.t 12),
             .new 7 (.c (.a [(I 0), (S []), (I 0), (.n 4), (I 0), (S []), (I 0), (.n 4), (S [])])),
             .st 9 (.t 7) (.t 13)])
          (.keep [3, 5, 7, 8, 9, 10]
           (.seq
            (.reg [.ld 14 true 9 (.t 7),
              .ld 15 true 9 (.t 3),
              .call (some 16) (.c (Fc F.impl_alikeClauses)) [(.t 14), (.t 15)] (.ro true)])
           (.cond (.t 16)
            (.reg [.mv 17 (.t 5),
              .bin 18 .add (.t 17) (.c (I 1)),
              .mv 5 (.t 18)])
            .skip)))))
        (.keep [3, 5, 8, 9, 10]
         (.reg [.bin 19 .add (.t 10) (.c (I 1)),
           .mv 10 (.t 19)]))))))
def L.impl_more_1_0 : Lp := ⟨[3, 5, 8, 9, 10], [(2, 0)], LB.impl_more_1_0⟩
@[go_sem] theorem L.impl_more_1_0_ls : L.impl_more_1_0.ls = [3, 5, 8, 9, 10] := rfl
@[go_sem] theorem L.impl_more_1_0_ks : L.impl_more_1_0.ks = [(2, 0)] := rfl
@[go_sem] theorem L.impl_more_1_0_b : L.impl_more_1_0.body = LB.impl_more_1_0 := rfl
def A.impl_more_1 : AF where
  nargs := 2
  ntmps := 21
  res := [.tmp 4]
  body :=
    (.seq
     (.reg [.new 3 (.t 1),
       .mv 4 (.c (I 0))])
    (.seq
     (.reg [.mv 5 (.c (I 0))])
    (.seq
     (.seq
      (.reg [.mv 8 (.t 0),
        .len 9 (.t 8),
        .mv 10 (.c (I 0))])
     (.block 0
      (lpC L.impl_more_1_0)))
    (.keep [5]
     (.seq
      (.reg [.mv 20 (.t 5),
        .mv 4 (.t 20)])
     (.keep [4]
      .ret))))))
def A.impl_copyClause : AF where
  nargs := 1
  ntmps := 12
  res := [.cell 2 true 9]
  body :=
    (.seq
     (.reg [.new 1 (.t 0),
       .new 2 (.c (.a [(I 0), (S []), (I 0), (.n 4), (I 0), (S []), (I 0), (.n 4), (S [])]))])
    (.seq
     (.dreg [⟨0, []⟩, ⟨0, [(0, 0), (0, 1), (0, 2), (0, 3), (1, 0)]⟩, ⟨2, [(0, 0), (0, 1), (0, 2), (0, 3), (1, 0), (4, 0)]⟩, ⟨0, []⟩, ⟨0, [(0, 0), (0, 1), (0, 2), (0, 3), (1, 0)]⟩, ⟨2, [(0, 0), (0, 1), (0, 2), (0, 3), (1, 0), (7, 0)]⟩, ⟨0, []⟩, ⟨0, [(0, 0), (0, 1), (0, 2), (0, 3), (1, 0)]⟩, ⟨0, []⟩, ⟨1, [(0, 0), (0, 1), (0, 2), (0, 3), (1, 0), (2, 0), (4, 0), (5, 0), (5, 1), (5, 2), (5, 3), (7, 0), (8, 0), (8, 1), (8, 2), (8, 3), (10, 0)]⟩]
      [.fa 3 (.t 1) 0,
       .ldq 4 true 4 (.t 3),
       .call (some 5) (.c (Fc F.impl_copyTerm)) [(.t 4)] (.ro false),
       .fa 6 (.t 1) 4,
       .ldq 7 true 4 (.t 6),
       .call (some 8) (.c (Fc F.impl_copyTerm)) [(.t 7)] (.ro false),
       .fa 9 (.t 1) 8,
       .ldq 10 false 1 (.t 9),
       .build 11 (.a [(I 0), (S []), (I 0), (.n 4), (I 0), (S []), (I 0), (.n 4), (S [])]) [(0, 4, (.t 5)), (4, 4, (.t 8)), (8, 1, (.t 10))],
       .st 9 (.t 2) (.t 11)])
    (.keep [2]
     .ret)))
def A.slices_Contains_int_int : AF where
  nargs := 2
  ntmps := 9
  res := [.tmp 4]
  body :=
    (.seq
     (.reg [.mv 4 (.c (B false))])
    (.seq
     (.reg [.mv 5 (.t 0),
       .mv 6 (.t 1),
       .call (some 7) (.c (Fc F.slices_Index_int_int)) [(.t 5), (.t 6)] (.ro false),
       .bin 8 .geq (.t 7) (.c (I 0)),
       .mv 4 (.t 8)])
    (.keep [4]
     .ret)))
def A.impl_SameTerm : AF where
  nargs := 2
  ntmps := 31
  res := [.tmp 4]
  body :=
    (.seq
     (.reg [.new 2 (.t 0),
       .new 3 (.t 1),
       .mv 4 (.c (B false))])
    (.seq
     (.reg [.fa 5 (.t 2) 0,
       .ld 6 false 1 (.t 5),
       .fa 7 (.t 3) 0,
       .ld 8 false 1 (.t 7),
       .bin 9 .eql (.t 6) (.t 8),
       .mv 10 (.t 9),
       .gd 10 true (some 11) (.fa 11 (.t 2) 1),
       .gd 10 true (some 12) (.ld 12 false 1 (.t 11)),
       .gd 10 true (some 13) (.fa 13 (.t 3) 1),
       .gd 10 true (some 14) (.ld 14 false 1 (.t 13)),
       .gd 10 true (some 15) (.bin 15 .eql (.t 12) (.t 14)),
       .pick 16 (.t 10) (.t 15) (.c (B false)),
       .mv 17 (.t 16),
       .gd 17 true (some 18) (.fa 18 (.t 2) 2),
       .gd 17 true (some 19) (.ld 19 false 1 (.t 18)),
       .gd 17 true (some 20) (.fa 20 (.t 3) 2),
       .gd 17 true (some 21) (.ld 21 false 1 (.t 20)),
       .gd 17 true (some 22) (.bin 22 .eql (.t 19) (.t 21)),
       .pick 23 (.t 17) (.t 22) (.c (B false)),
       .mv 24 (.t 23),
       .gd 24 true (some 25) (.fa 25 (.t 2) 3),
       .gd 24 true (some 26) (.ld 26 false 1 (.t 25)),
       .gd 24 true (some 27) (.fa 27 (.t 3) 3),
       .gd 24 true (some 28) (.ld 28 false 1 (.t 27)),
       .gd 24 true (some 29) (.call (some 29) (.c (Fc F.slices_EqualFunc_impl_Term_impl_Term_impl_Term_impl_Term)) [(.t 26), (.t 28), (.c (Fc F.impl_SameTerm))] (.ro false)),
       .pick 30 (.t 24) (.t 29) (.c (B false)),
       .mv 4 (.t 30)])
    (.keep [4]
     .ret)))
def A.impl_Variant_1 : AF where
  nargs := 2
  ntmps := 7
  res := [.tmp 3]
  body :=
    (.seq
     (.reg [.mv 3 (.c (I 0))])
    (.seq
     (.reg [.ld 4 false 1 (.t 1),
       .mv 5 (.t 0),
       .mget 6 (.t 4) (.t 5),
       .mv 3 (.t 6)])
    (.keep [3]
     .ret)))
def LB.slices_EqualFunc_impl_Term_impl_Term_impl_Term_impl_Term_0 : AC :=
        (.seq
         (.reg [.bin 18 .lss (.t 17) (.t 16)])
        (.seq
         (.cond (.t 18)
          .skip
          (.keep []
           (.exit 0)))
        (.keep [1, 2, 15, 16, 17]
         (.seq
          (.block 1
           (.seq
            (.reg [.mv 19 (.t 17),
              .ia 20 4 (.t 15) (.t 17),
              .ld 21 true 4 (.t 20),
              .new 8 (.c (.a [(I 0), (S []), (I 0), (.n 4)])),
              .mv 7 (.t 19),
              .st 4 (.t 8) (.t 21)])
           (.keep [1, 2, 7, 8, 15, 16, 17]
            (.seq
             (.reg [.mv 22 (.t 1),
               .mv 23 (.t 7),
               .ia 24 4 (.t 22) (.t 23),
               .ld 25 true 4 (.t 24),
               .new 9 (.c (.a [(I 0), (S []), (I 0), (.n 4)])),
               .st 4 (.t 9) (.t 25)])
            (.keep [1, 2, 8, 9, 15, 16, 17]
             (.seq
              (.reg [.mv 26 (.t 2),
                .ld 27 true 4 (.t 8),
                .ld 28 true 4 (.t 9),
                .call (some 29) (.t 26) [(.t 27), (.t 28)] (.ro true),
                .un 30 .not (.t 29)])
             (.keep [1, 2, 15, 16, 17, 30]
              (.cond (.t 30)
               (.seq
                (.reg [.mv 6 (.c (B false))])
               (.keep [6]
                .ret))
               .skip))))))))
         (.keep [1, 2, 15, 16, 17]
          (.reg [.bin 31 .add (.t 17) (.c (I 1)),
            .mv 17 (.t 31)]))))))
def L.slices_EqualFunc_impl_Term_impl_Term_impl_Term_impl_Term_0 : Lp := ⟨[1, 2, 15, 16, 17], [(3, 0)], LB.slices_EqualFunc_impl_Term_impl_Term_impl_Term_impl_Term_0⟩
@[go_sem] theorem L.slices_EqualFunc_impl_Term_impl_Term_impl_Term_impl_Term_0_ls : L.slices_EqualFunc_impl_Term_impl_Term_impl_Term_impl_Term_0.ls = [1, 2, 15, 16, 17] := rfl
@[go_sem] theorem L.slices_EqualFunc_impl_Term_impl_Term_impl_Term_impl_Term_0_ks : L.slices_EqualFunc_impl_Term_impl_Term_impl_Term_impl_Term_0.ks = [(3, 0)] := rfl
@[go_sem] theorem L.slices_EqualFunc_impl_Term_impl_Term_impl_Term_impl_Term_0_b : L.slices_EqualFunc_impl_Term_impl_Term_impl_Term_impl_Term_0.body = LB.slices_EqualFunc_impl_Term_impl_Term_impl_Term_impl_Term_0 := rfl
def A.slices_EqualFunc_impl_Term_impl_Term_impl_Term_impl_Term : AF where
  nargs := 3
  ntmps := 32
  res := [.tmp 6]
  body :=
    (.seq
     (.reg [.mv 6 (.c (B false))])
    (.seq
     (.seq
      (.reg [.mv 10 (.t 0),
        .len 11 (.t 10),
        .mv 12 (.t 1),
        .len 13 (.t 12),
        .bin 14 .neq (.t 11) (.t 13)])
     (.keep [0, 1, 2, 14]
      (.cond (.t 14)
       (.seq
        (.reg [.mv 6 (.c (B false))])
       (.keep [6]
        .ret))
       .skip)))
    (.keep [0, 1, 2]
     (.seq
      (.seq
       (.reg [.mv 15 (.t 0),
         .len 16 (.t 15),
         .mv 17 (.c (I 0))])
      (.block 0
       (lpC L.slices_EqualFunc_impl_Term_impl_Term_impl_Term_impl_Term_0)))
     (.keep []
      (.seq
       (.reg [.mv 6 (.c (B true))])
      (.keep [6]
       .ret)))))))

-- 98 (runtime.boundsError).Error: no body

-- 99 (runtime.boundsError).RuntimeError: no body

-- 100 (runtime.errorString).Error: no body

-- 101 (runtime.errorString).RuntimeError: no body

-- 102 (runtime.plainError).Error: no body

-- 103 (runtime.plainError).RuntimeError: no body

-- 104 (runtime.errorAddressString).Error: no body

-- 105 (runtime.errorAddressString).RuntimeError: no body

-- 106 (*runtime.TypeAssertionError).Error: no body

-- 107 (*runtime.TypeAssertionError).RuntimeError: no body

-- 108 (*runtime.PanicNilError).Error: no body

-- 109 (*runtime.PanicNilError).RuntimeError: no body

-- 110 (*internal/abi.Type).Align: no body

-- 111 (internal/runtime/maps.unhashableTypeError).Error: no body

-- 112 (internal/runtime/maps.unhashableTypeError).RuntimeError: no body

-- 113 (internal/abi.Kind).String: no body
def progA : Nat → Option AE
  | 3 => some (.fn A.laws_FnExactPrioOf)
  | 4 => some (.fn A.laws_FnExactNeatClause)
  | 5 => some (.fn A.laws_FnExactShowSession)
  | 6 => some (.fn A.laws_FnExactClauseAt)
  | 7 => some (.fn A.laws_FnExactSameSet)
  | 8 => some (.fn A.laws_szTerm)
  | 9 => some (.fn A.spec_PrioOf)
  | 10 => some (.fn A.laws_toTerm)
  | 11 => some (.fn A.impl_PrioOf)
  | 12 => some (.fn A.laws_eqTerm)
  | 13 => some (.fn A.laws_szClause)
  | 14 => some (.fn A.spec_NeatClause)
  | 15 => some (.fn A.laws_toClause)
  | 16 => some (.fn A.impl_NeatClause)
  | 17 => some (.fn A.laws_eqClause)
  | 18 => some (.fn A.laws_markClause)
  | 19 => some (.fn A.laws_heldClause)
  | 20 => some (.fn A.laws_szSession)
  | 21 => some (.fn A.spec_ShowSession)
  | 22 => some (.fn A.laws_toSession)
  | 23 => some (.fn A.impl_ShowSession)
  | 24 => some (.fn A.laws_eqSession)
  | 25 => some (.fn A.laws_szDb)
  | 26 => some (.fn A.spec_ClauseAt)
  | 27 => some (.fn A.laws_toDb)
  | 28 => some (.fn A.impl_ClauseAt)
  | 29 => some (.fn A.laws_eqDb)
  | 30 => some (.fn A.spec_SameSet)
  | 31 => some (.fn A.impl_SameSet)
  | 32 => some (.fn A.laws_szTermS)
  | 33 => some (.fn A.spec_InfixOf)
  | 34 => some (.fn A.laws_toTermS)
  | 35 => some (.fn A.impl_isInfix)
  | 36 => some (.fn A.impl_InfixOf)
  | 37 => some (.fn A.laws_eqTermS)
  | 38 => some (.fn A.spec_ClauseTerm)
  | 39 => some (.fn A.spec_VarsOf)
  | 40 => some (.fn A.spec_l11Named)
  | 41 => some (.fn A.impl_fresh)
  | 42 => some (.fn A.impl_ClauseTerm)
  | 43 => some (.fn A.laws_markTerm)
  | 44 => some (.fn A.laws_heldTerm)
  | 45 => some (.fn A.laws_szFileS)
  | 46 => some (.fn A.laws_szStringS)
  | 47 => some (.fn A.spec_l31Lines)
  | 48 => some (.fn A.laws_toFileS)
  | 49 => some (.fn A.laws_toStringS)
  | 50 => some (.fn A.impl_inLines)
  | 51 => some (.fn A.laws_eqFileS)
  | 52 => some (.fn A.laws_eqStringS)
  | 53 => some (.fn A.laws_szClauseS)
  | 54 => some (.fn A.spec_l29Same)
  | 55 => some (.fn A.laws_toClauseS)
  | 56 => some (.fn A.slices_IndexFunc_impl_Clause_impl_Clause)
  | 57 => some (.fn A.impl_ClauseAt_1)
  | 58 => some (.fn A.impl_alikeClauses)
  | 59 => some (.fn A.laws_eqClauseS)
  | 60 => some (.fn A.spec_DiffDb)
  | 61 => some (.fn A.impl_DiffDb)
  | 62 => some (.fn A.spec_l08ClauseTermRaw)
  | 63 => some (.fn A.spec_l34Term)
  | 64 => some (.fn A.spec_l03Vars)
  | 65 => some (.fn A.spec_l03At)
  | 66 => some (.fn A.impl_VarsOf)
  | 67 => some (.fn A.impl_renamed)
  | 68 => some (.fn A.impl_fresh_1)
  | 69 => some (.fn A.slices_Index_int_int)
  | 70 => some (.fn A.impl_structure)
  | 71 => some (.fn A.impl_copyTerm)
  | 72 => some (.fn A.laws_markTermS)
  | 73 => some (.fn A.laws_heldTermS)
  | 74 => some (.fn A.laws_szFile)
  | 75 => some (.fn A.laws_toFile)
  | 76 => some (.fn A.laws_eqFile)
  | 77 => some (.fn A.spec_Variant)
  | 78 => some (.fn A.impl_variantClauses)
  | 79 => some (.fn A.spec_l29DiffDbRaw)
  | 80 => some (.fn A.spec_l34Clauses)
  | 81 => some (.fn A.impl_more)
  | 82 => some (.fn A.spec_l03Two)
  | 83 => some (.fn A.spec_l34Terms)
  | 84 => some (.fn A.spec_l03Has)
  | 85 => some (.fn A.impl_addVars)
  | 86 => some (.fn A.impl_copyTerm_1)
  | 87 => some (.fn A.laws_markText)
  | 88 => some (.fn A.spec_l03Like)
  | 89 => some (.fn A.impl_Variant)
  | 90 => some (.fn A.spec_l29Extra)
  | 91 => some (.fn A.spec_l34Clause)
  | 92 => some (.fn A.impl_more_1)
  | 93 => some (.fn A.impl_copyClause)
  | 94 => some (.fn A.slices_Contains_int_int)
  | 95 => some (.fn A.impl_SameTerm)
  | 96 => some (.fn A.impl_Variant_1)
  | 97 => some (.fn A.slices_EqualFunc_impl_Term_impl_Term_impl_Term_impl_Term)
  | _ => none
theorem pA_laws_FnExactPrioOf : progA F.laws_FnExactPrioOf = some (.fn A.laws_FnExactPrioOf) := rfl
theorem pA_laws_FnExactNeatClause : progA F.laws_FnExactNeatClause = some (.fn A.laws_FnExactNeatClause) := rfl
theorem pA_laws_FnExactShowSession : progA F.laws_FnExactShowSession = some (.fn A.laws_FnExactShowSession) := rfl
theorem pA_laws_FnExactClauseAt : progA F.laws_FnExactClauseAt = some (.fn A.laws_FnExactClauseAt) := rfl
theorem pA_laws_FnExactSameSet : progA F.laws_FnExactSameSet = some (.fn A.laws_FnExactSameSet) := rfl
theorem pA_laws_szTerm : progA F.laws_szTerm = some (.fn A.laws_szTerm) := rfl
theorem pA_spec_PrioOf : progA F.spec_PrioOf = some (.fn A.spec_PrioOf) := rfl
theorem pA_laws_toTerm : progA F.laws_toTerm = some (.fn A.laws_toTerm) := rfl
theorem pA_impl_PrioOf : progA F.impl_PrioOf = some (.fn A.impl_PrioOf) := rfl
theorem pA_laws_eqTerm : progA F.laws_eqTerm = some (.fn A.laws_eqTerm) := rfl
theorem pA_laws_szClause : progA F.laws_szClause = some (.fn A.laws_szClause) := rfl
theorem pA_spec_NeatClause : progA F.spec_NeatClause = some (.fn A.spec_NeatClause) := rfl
theorem pA_laws_toClause : progA F.laws_toClause = some (.fn A.laws_toClause) := rfl
theorem pA_impl_NeatClause : progA F.impl_NeatClause = some (.fn A.impl_NeatClause) := rfl
theorem pA_laws_eqClause : progA F.laws_eqClause = some (.fn A.laws_eqClause) := rfl
theorem pA_laws_markClause : progA F.laws_markClause = some (.fn A.laws_markClause) := rfl
theorem pA_laws_heldClause : progA F.laws_heldClause = some (.fn A.laws_heldClause) := rfl
theorem pA_laws_szSession : progA F.laws_szSession = some (.fn A.laws_szSession) := rfl
theorem pA_spec_ShowSession : progA F.spec_ShowSession = some (.fn A.spec_ShowSession) := rfl
theorem pA_laws_toSession : progA F.laws_toSession = some (.fn A.laws_toSession) := rfl
theorem pA_impl_ShowSession : progA F.impl_ShowSession = some (.fn A.impl_ShowSession) := rfl
theorem pA_laws_eqSession : progA F.laws_eqSession = some (.fn A.laws_eqSession) := rfl
theorem pA_laws_szDb : progA F.laws_szDb = some (.fn A.laws_szDb) := rfl
theorem pA_spec_ClauseAt : progA F.spec_ClauseAt = some (.fn A.spec_ClauseAt) := rfl
theorem pA_laws_toDb : progA F.laws_toDb = some (.fn A.laws_toDb) := rfl
theorem pA_impl_ClauseAt : progA F.impl_ClauseAt = some (.fn A.impl_ClauseAt) := rfl
theorem pA_laws_eqDb : progA F.laws_eqDb = some (.fn A.laws_eqDb) := rfl
theorem pA_spec_SameSet : progA F.spec_SameSet = some (.fn A.spec_SameSet) := rfl
theorem pA_impl_SameSet : progA F.impl_SameSet = some (.fn A.impl_SameSet) := rfl
theorem pA_laws_szTermS : progA F.laws_szTermS = some (.fn A.laws_szTermS) := rfl
theorem pA_spec_InfixOf : progA F.spec_InfixOf = some (.fn A.spec_InfixOf) := rfl
theorem pA_laws_toTermS : progA F.laws_toTermS = some (.fn A.laws_toTermS) := rfl
theorem pA_impl_isInfix : progA F.impl_isInfix = some (.fn A.impl_isInfix) := rfl
theorem pA_impl_InfixOf : progA F.impl_InfixOf = some (.fn A.impl_InfixOf) := rfl
theorem pA_laws_eqTermS : progA F.laws_eqTermS = some (.fn A.laws_eqTermS) := rfl
theorem pA_spec_ClauseTerm : progA F.spec_ClauseTerm = some (.fn A.spec_ClauseTerm) := rfl
theorem pA_spec_VarsOf : progA F.spec_VarsOf = some (.fn A.spec_VarsOf) := rfl
theorem pA_spec_l11Named : progA F.spec_l11Named = some (.fn A.spec_l11Named) := rfl
theorem pA_impl_fresh : progA F.impl_fresh = some (.fn A.impl_fresh) := rfl
theorem pA_impl_ClauseTerm : progA F.impl_ClauseTerm = some (.fn A.impl_ClauseTerm) := rfl
theorem pA_laws_markTerm : progA F.laws_markTerm = some (.fn A.laws_markTerm) := rfl
theorem pA_laws_heldTerm : progA F.laws_heldTerm = some (.fn A.laws_heldTerm) := rfl
theorem pA_laws_szFileS : progA F.laws_szFileS = some (.fn A.laws_szFileS) := rfl
theorem pA_laws_szStringS : progA F.laws_szStringS = some (.fn A.laws_szStringS) := rfl
theorem pA_spec_l31Lines : progA F.spec_l31Lines = some (.fn A.spec_l31Lines) := rfl
theorem pA_laws_toFileS : progA F.laws_toFileS = some (.fn A.laws_toFileS) := rfl
theorem pA_laws_toStringS : progA F.laws_toStringS = some (.fn A.laws_toStringS) := rfl
theorem pA_impl_inLines : progA F.impl_inLines = some (.fn A.impl_inLines) := rfl
theorem pA_laws_eqFileS : progA F.laws_eqFileS = some (.fn A.laws_eqFileS) := rfl
theorem pA_laws_eqStringS : progA F.laws_eqStringS = some (.fn A.laws_eqStringS) := rfl
theorem pA_laws_szClauseS : progA F.laws_szClauseS = some (.fn A.laws_szClauseS) := rfl
theorem pA_spec_l29Same : progA F.spec_l29Same = some (.fn A.spec_l29Same) := rfl
theorem pA_laws_toClauseS : progA F.laws_toClauseS = some (.fn A.laws_toClauseS) := rfl
theorem pA_slices_IndexFunc_impl_Clause_impl_Clause : progA F.slices_IndexFunc_impl_Clause_impl_Clause = some (.fn A.slices_IndexFunc_impl_Clause_impl_Clause) := rfl
theorem pA_impl_ClauseAt_1 : progA F.impl_ClauseAt_1 = some (.fn A.impl_ClauseAt_1) := rfl
theorem pA_impl_alikeClauses : progA F.impl_alikeClauses = some (.fn A.impl_alikeClauses) := rfl
theorem pA_laws_eqClauseS : progA F.laws_eqClauseS = some (.fn A.laws_eqClauseS) := rfl
theorem pA_spec_DiffDb : progA F.spec_DiffDb = some (.fn A.spec_DiffDb) := rfl
theorem pA_impl_DiffDb : progA F.impl_DiffDb = some (.fn A.impl_DiffDb) := rfl
theorem pA_spec_l08ClauseTermRaw : progA F.spec_l08ClauseTermRaw = some (.fn A.spec_l08ClauseTermRaw) := rfl
theorem pA_spec_l34Term : progA F.spec_l34Term = some (.fn A.spec_l34Term) := rfl
theorem pA_spec_l03Vars : progA F.spec_l03Vars = some (.fn A.spec_l03Vars) := rfl
theorem pA_spec_l03At : progA F.spec_l03At = some (.fn A.spec_l03At) := rfl
theorem pA_impl_VarsOf : progA F.impl_VarsOf = some (.fn A.impl_VarsOf) := rfl
theorem pA_impl_renamed : progA F.impl_renamed = some (.fn A.impl_renamed) := rfl
theorem pA_impl_fresh_1 : progA F.impl_fresh_1 = some (.fn A.impl_fresh_1) := rfl
theorem pA_slices_Index_int_int : progA F.slices_Index_int_int = some (.fn A.slices_Index_int_int) := rfl
theorem pA_impl_structure : progA F.impl_structure = some (.fn A.impl_structure) := rfl
theorem pA_impl_copyTerm : progA F.impl_copyTerm = some (.fn A.impl_copyTerm) := rfl
theorem pA_laws_markTermS : progA F.laws_markTermS = some (.fn A.laws_markTermS) := rfl
theorem pA_laws_heldTermS : progA F.laws_heldTermS = some (.fn A.laws_heldTermS) := rfl
theorem pA_laws_szFile : progA F.laws_szFile = some (.fn A.laws_szFile) := rfl
theorem pA_laws_toFile : progA F.laws_toFile = some (.fn A.laws_toFile) := rfl
theorem pA_laws_eqFile : progA F.laws_eqFile = some (.fn A.laws_eqFile) := rfl
theorem pA_spec_Variant : progA F.spec_Variant = some (.fn A.spec_Variant) := rfl
theorem pA_impl_variantClauses : progA F.impl_variantClauses = some (.fn A.impl_variantClauses) := rfl
theorem pA_spec_l29DiffDbRaw : progA F.spec_l29DiffDbRaw = some (.fn A.spec_l29DiffDbRaw) := rfl
theorem pA_spec_l34Clauses : progA F.spec_l34Clauses = some (.fn A.spec_l34Clauses) := rfl
theorem pA_impl_more : progA F.impl_more = some (.fn A.impl_more) := rfl
theorem pA_spec_l03Two : progA F.spec_l03Two = some (.fn A.spec_l03Two) := rfl
theorem pA_spec_l34Terms : progA F.spec_l34Terms = some (.fn A.spec_l34Terms) := rfl
theorem pA_spec_l03Has : progA F.spec_l03Has = some (.fn A.spec_l03Has) := rfl
theorem pA_impl_addVars : progA F.impl_addVars = some (.fn A.impl_addVars) := rfl
theorem pA_impl_copyTerm_1 : progA F.impl_copyTerm_1 = some (.fn A.impl_copyTerm_1) := rfl
theorem pA_laws_markText : progA F.laws_markText = some (.fn A.laws_markText) := rfl
theorem pA_spec_l03Like : progA F.spec_l03Like = some (.fn A.spec_l03Like) := rfl
theorem pA_impl_Variant : progA F.impl_Variant = some (.fn A.impl_Variant) := rfl
theorem pA_spec_l29Extra : progA F.spec_l29Extra = some (.fn A.spec_l29Extra) := rfl
theorem pA_spec_l34Clause : progA F.spec_l34Clause = some (.fn A.spec_l34Clause) := rfl
theorem pA_impl_more_1 : progA F.impl_more_1 = some (.fn A.impl_more_1) := rfl
theorem pA_impl_copyClause : progA F.impl_copyClause = some (.fn A.impl_copyClause) := rfl
theorem pA_slices_Contains_int_int : progA F.slices_Contains_int_int = some (.fn A.slices_Contains_int_int) := rfl
theorem pA_impl_SameTerm : progA F.impl_SameTerm = some (.fn A.impl_SameTerm) := rfl
theorem pA_impl_Variant_1 : progA F.impl_Variant_1 = some (.fn A.impl_Variant_1) := rfl
theorem pA_slices_EqualFunc_impl_Term_impl_Term_impl_Term_impl_Term : progA F.slices_EqualFunc_impl_Term_impl_Term_impl_Term_impl_Term = some (.fn A.slices_EqualFunc_impl_Term_impl_Term_impl_Term_impl_Term) := rfl
end Go.Vm
