import Derived.Test.YtbbcakmmbnikjaaDoorT04
import Derived.Test.YtbbcakmmbnikjaaDoorT06
import Derived.Test.YtbbcakmmbnikjaaDoorProg
import Derived.KernelRfl

set_option autoImplicit false
set_option maxRecDepth 100000
set_option maxHeartbeats 8000000
namespace Go.Vm
open Go.Proofs
theorem kn_laws_FnExactShowClause : trFn Tryd.prog Tryd.f5 A.laws_FnExactShowClause = some A.laws_FnExactShowClause := by kernel_rfl
theorem kn_laws_FnExactWritePlain : trFn Tryd.prog Tryd.f6 A.laws_FnExactWritePlain = some A.laws_FnExactWritePlain := by kernel_rfl
theorem kn_laws_szClause : trFn Tryd.prog Tryd.f7 A.laws_szClause = some A.laws_szClause := by kernel_rfl
theorem kn_laws_toClause : trFn Tryd.prog Tryd.f9 A.laws_toClause = some A.laws_toClause := by kernel_rfl
theorem kn_laws_eqTerm : trFn Tryd.prog Tryd.f11 A.laws_eqTerm = some A.laws_eqTerm := by kernel_rfl
theorem kn_laws_eqClause : trFn Tryd.prog Tryd.f12 A.laws_eqClause = some A.laws_eqClause := by kernel_rfl
theorem kn_spec_ShowClause : trFn Tryd.prog Tryd.f21 A.spec_ShowClause = some A.spec_ShowClause := by kernel_rfl
theorem kn_impl_ShowClause : trFn Tryd.prog Tryd.f22 A.impl_ShowClause = some A.impl_ShowClause := by kernel_rfl
theorem kn_laws_szTerm : trFn Tryd.prog Tryd.f23 A.laws_szTerm = some A.laws_szTerm := by kernel_rfl
theorem kn_spec_WritePlain : trFn Tryd.prog Tryd.f24 A.spec_WritePlain = some A.spec_WritePlain := by kernel_rfl
theorem kn_laws_toTerm : trFn Tryd.prog Tryd.f25 A.laws_toTerm = some A.laws_toTerm := by kernel_rfl
theorem kn_impl_WritePlain : trFn Tryd.prog Tryd.f26 A.impl_WritePlain = some A.impl_WritePlain := by kernel_rfl
theorem kn_spec_l34Term : trFn Tryd.prog Tryd.f28 A.spec_l34Term = some A.spec_l34Term := by kernel_rfl
theorem kn_laws_eqTermS : trFn Tryd.prog Tryd.f31 A.laws_eqTermS = some A.laws_eqTermS := by kernel_rfl
theorem kn_spec_WriteTerm : trFn Tryd.prog Tryd.f45 A.spec_WriteTerm = some A.spec_WriteTerm := by kernel_rfl
theorem kn_impl_WriteTerm : trFn Tryd.prog Tryd.f46 A.impl_WriteTerm = some A.impl_WriteTerm := by kernel_rfl
theorem kn_impl_isAtom : trFn Tryd.prog Tryd.f47 A.impl_isAtom = some A.impl_isAtom := by kernel_rfl
theorem kn_laws_szTermS : trFn Tryd.prog Tryd.f48 A.laws_szTermS = some A.laws_szTermS := by kernel_rfl
theorem kn_spec_TermOk : trFn Tryd.prog Tryd.f49 A.spec_TermOk = some A.spec_TermOk := by kernel_rfl
theorem kn_spec_l28Write : trFn Tryd.prog Tryd.f50 A.spec_l28Write = some A.spec_l28Write := by kernel_rfl
theorem kn_laws_toTermS : trFn Tryd.prog Tryd.f51 A.laws_toTermS = some A.laws_toTermS := by kernel_rfl
theorem kn_impl_TermOk : trFn Tryd.prog Tryd.f52 A.impl_TermOk = some A.impl_TermOk := by kernel_rfl
theorem kn_impl_plain : trFn Tryd.prog Tryd.f53 A.impl_plain = some A.impl_plain := by kernel_rfl
theorem kn_spec_l34Terms : trFn Tryd.prog Tryd.f56 A.spec_l34Terms = some A.spec_l34Terms := by kernel_rfl
theorem kn_impl_PredOf : trFn Tryd.prog Tryd.f57 A.impl_PredOf = some A.impl_PredOf := by kernel_rfl
theorem kn_impl_Control : trFn Tryd.prog Tryd.f58 A.impl_Control = some A.impl_Control := by kernel_rfl
theorem kn_impl_copyTerm : trFn Tryd.prog Tryd.f59 A.impl_copyTerm = some A.impl_copyTerm := by kernel_rfl
theorem kn_impl_structure : trFn Tryd.prog Tryd.f61 A.impl_structure = some A.impl_structure := by kernel_rfl
theorem kn_spec_l07Write : trFn Tryd.prog Tryd.f75 A.spec_l07Write = some A.spec_l07Write := by kernel_rfl
theorem kn_impl_write : trFn Tryd.prog Tryd.f76 A.impl_write = some A.impl_write := by kernel_rfl
theorem kn_spec_l03Count : trFn Tryd.prog Tryd.f77 A.spec_l03Count = some A.spec_l03Count := by kernel_rfl
theorem kn_spec_l03Right : trFn Tryd.prog Tryd.f78 A.spec_l03Right = some A.spec_l03Right := by kernel_rfl
theorem kn_spec_l03Is : trFn Tryd.prog Tryd.f79 A.spec_l03Is = some A.spec_l03Is := by kernel_rfl
theorem kn_spec_l28Row : trFn Tryd.prog Tryd.f80 A.spec_l28Row = some A.spec_l28Row := by kernel_rfl
theorem kn_spec_InfixOf : trFn Tryd.prog Tryd.f81 A.spec_InfixOf = some A.spec_InfixOf := by kernel_rfl
theorem kn_spec_AtomText : trFn Tryd.prog Tryd.f82 A.spec_AtomText = some A.spec_AtomText := by kernel_rfl
theorem kn_spec_l28Held : trFn Tryd.prog Tryd.f83 A.spec_l28Held = some A.spec_l28Held := by kernel_rfl
theorem kn_impl_sized : trFn Tryd.prog Tryd.f84 A.impl_sized = some A.impl_sized := by kernel_rfl
theorem kn_impl_writeWith : trFn Tryd.prog Tryd.f85 A.impl_writeWith = some A.impl_writeWith := by kernel_rfl
theorem kn_impl_plain_1 : trFn Tryd.prog Tryd.f86 A.impl_plain_1 = some A.impl_plain_1 := by kernel_rfl
theorem kn_impl_bracketed : trFn Tryd.prog Tryd.f87 A.impl_bracketed = some A.impl_bracketed := by kernel_rfl
theorem kn_impl_plain_2 : trFn Tryd.prog Tryd.f88 A.impl_plain_2 = some A.impl_plain_2 := by kernel_rfl
theorem kn_impl_InfixOf : trFn Tryd.prog Tryd.f89 A.impl_InfixOf = some A.impl_InfixOf := by kernel_rfl
theorem kn_impl_signText : trFn Tryd.prog Tryd.f90 A.impl_signText = some A.impl_signText := by kernel_rfl
theorem kn_spec_l03Two : trFn Tryd.prog Tryd.f93 A.spec_l03Two = some A.spec_l03Two := by kernel_rfl
theorem kn_impl_Decimal : trFn Tryd.prog Tryd.f94 A.impl_Decimal = some A.impl_Decimal := by kernel_rfl
theorem kn_slices_Contains_string_string : trFn Tryd.prog Tryd.f95 A.slices_Contains_string_string = some A.slices_Contains_string_string := by kernel_rfl
theorem kn_impl_renamed : trFn Tryd.prog Tryd.f96 A.impl_renamed = some A.impl_renamed := by kernel_rfl
theorem kn_impl_copyTerm_1 : trFn Tryd.prog Tryd.f97 A.impl_copyTerm_1 = some A.impl_copyTerm_1 := by kernel_rfl
theorem kn_spec_l05Small : trFn Tryd.prog Tryd.f98 A.spec_l05Small = some A.spec_l05Small := by kernel_rfl
theorem kn_spec_l01In : trFn Tryd.prog Tryd.f99 A.spec_l01In = some A.spec_l01In := by kernel_rfl
theorem kn_impl_within : trFn Tryd.prog Tryd.f108 A.impl_within = some A.impl_within := by kernel_rfl
theorem kn_impl_run : trFn Tryd.prog Tryd.f109 A.impl_run = some A.impl_run := by kernel_rfl
theorem kn_impl_lower : trFn Tryd.prog Tryd.f110 A.impl_lower = some A.impl_lower := by kernel_rfl
theorem kn_spec_Decimal : trFn Tryd.prog Tryd.f111 A.spec_Decimal = some A.spec_Decimal := by kernel_rfl
theorem kn_spec_l07Op : trFn Tryd.prog Tryd.f112 A.spec_l07Op = some A.spec_l07Op := by kernel_rfl
theorem kn_spec_l07Row : trFn Tryd.prog Tryd.f113 A.spec_l07Row = some A.spec_l07Row := by kernel_rfl
theorem kn_impl_write_1 : trFn Tryd.prog Tryd.f114 A.impl_write_1 = some A.impl_write_1 := by kernel_rfl
theorem kn_spec_l03One : trFn Tryd.prog Tryd.f115 A.spec_l03One = some A.spec_l03One := by kernel_rfl
theorem kn_spec_SignsOf : trFn Tryd.prog Tryd.f116 A.spec_SignsOf = some A.spec_SignsOf := by kernel_rfl
theorem kn_spec_PrioOf : trFn Tryd.prog Tryd.f117 A.spec_PrioOf = some A.spec_PrioOf := by kernel_rfl
theorem kn_impl_nameOk : trFn Tryd.prog Tryd.f118 A.impl_nameOk = some A.impl_nameOk := by kernel_rfl
theorem kn_impl_isOp : trFn Tryd.prog Tryd.f119 A.impl_isOp = some A.impl_isOp := by kernel_rfl
theorem kn_impl_AtomText : trFn Tryd.prog Tryd.f120 A.impl_AtomText = some A.impl_AtomText := by kernel_rfl
theorem kn_impl_isPair : trFn Tryd.prog Tryd.f121 A.impl_isPair = some A.impl_isPair := by kernel_rfl
theorem kn_impl_isInfix : trFn Tryd.prog Tryd.f122 A.impl_isInfix = some A.impl_isInfix := by kernel_rfl
theorem kn_impl_PrioOf : trFn Tryd.prog Tryd.f124 A.impl_PrioOf = some A.impl_PrioOf := by kernel_rfl
theorem kn_slices_Index_string_string : trFn Tryd.prog Tryd.f127 A.slices_Index_string_string = some A.slices_Index_string_string := by kernel_rfl
theorem kn_spec_l01Figure : trFn Tryd.prog Tryd.f134 A.spec_l01Figure = some A.spec_l01Figure := by kernel_rfl
theorem kn_spec_PrefixOf : trFn Tryd.prog Tryd.f135 A.spec_PrefixOf = some A.spec_PrefixOf := by kernel_rfl
theorem kn_spec_l03Name : trFn Tryd.prog Tryd.f136 A.spec_l03Name = some A.spec_l03Name := by kernel_rfl
theorem kn_spec_l05Blank : trFn Tryd.prog Tryd.f137 A.spec_l05Blank = some A.spec_l05Blank := by kernel_rfl
theorem kn_spec_l05Sign : trFn Tryd.prog Tryd.f138 A.spec_l05Sign = some A.spec_l05Sign := by kernel_rfl
theorem kn_impl_PrefixOf : trFn Tryd.prog Tryd.f139 A.impl_PrefixOf = some A.impl_PrefixOf := by kernel_rfl
theorem kn_impl_SignsOf : trFn Tryd.prog Tryd.f140 A.impl_SignsOf = some A.impl_SignsOf := by kernel_rfl
theorem kn_impl_isStruct : trFn Tryd.prog Tryd.f141 A.impl_isStruct = some A.impl_isStruct := by kernel_rfl
theorem kn_spec_PredOf : trFn Tryd.prog Tryd.f145 A.spec_PredOf = some A.spec_PredOf := by kernel_rfl
theorem kn_spec_Control : trFn Tryd.prog Tryd.f146 A.spec_Control = some A.spec_Control := by kernel_rfl
theorem kn_spec_l05Great : trFn Tryd.prog Tryd.f154 A.spec_l05Great = some A.spec_l05Great := by kernel_rfl
theorem kn_spec_l05Run : trFn Tryd.prog Tryd.f155 A.spec_l05Run = some A.spec_l05Run := by kernel_rfl
theorem kn_spec_l05Figure : trFn Tryd.prog Tryd.f156 A.spec_l05Figure = some A.spec_l05Figure := by kernel_rfl
theorem kn_spec_l05Quoted : trFn Tryd.prog Tryd.f157 A.spec_l05Quoted = some A.spec_l05Quoted := by kernel_rfl
theorem kn_spec_l05End : trFn Tryd.prog Tryd.f158 A.spec_l05End = some A.spec_l05End := by kernel_rfl
theorem kn_spec_SymbolByte : trFn Tryd.prog Tryd.f159 A.spec_SymbolByte = some A.spec_SymbolByte := by kernel_rfl
theorem kn_impl_SignsOf_1 : trFn Tryd.prog Tryd.f160 A.impl_SignsOf_1 = some A.impl_SignsOf_1 := by kernel_rfl
theorem kn_impl_nextSign : trFn Tryd.prog Tryd.f161 A.impl_nextSign = some A.impl_nextSign := by kernel_rfl
theorem kn_spec_l05Word : trFn Tryd.prog Tryd.f167 A.spec_l05Word = some A.spec_l05Word := by kernel_rfl
theorem kn_impl_endsHere : trFn Tryd.prog Tryd.f168 A.impl_endsHere = some A.impl_endsHere := by kernel_rfl
theorem kn_impl_upper : trFn Tryd.prog Tryd.f169 A.impl_upper = some A.impl_upper := by kernel_rfl
theorem kn_impl_wordByte : trFn Tryd.prog Tryd.f170 A.impl_wordByte = some A.impl_wordByte := by kernel_rfl
theorem kn_impl_figure : trFn Tryd.prog Tryd.f171 A.impl_figure = some A.impl_figure := by kernel_rfl
theorem kn_impl_SymbolByte : trFn Tryd.prog Tryd.f172 A.impl_SymbolByte = some A.impl_SymbolByte := by kernel_rfl
theorem kn_impl_nextSign_1 : trFn Tryd.prog Tryd.f173 A.impl_nextSign_1 = some A.impl_nextSign_1 := by kernel_rfl
theorem known_0 : Known Tryd.prog progA_0 := by
  intro f e h
  unfold progA_0 at h
  split at h
  · simp only [Option.some.injEq] at h; subst h; exact ⟨Tryd.f5, A.laws_FnExactShowClause, Tryd.func5, kn_laws_FnExactShowClause⟩
  · simp only [Option.some.injEq] at h; subst h; exact ⟨Tryd.f6, A.laws_FnExactWritePlain, Tryd.func6, kn_laws_FnExactWritePlain⟩
  · simp only [Option.some.injEq] at h; subst h; exact ⟨Tryd.f7, A.laws_szClause, Tryd.func7, kn_laws_szClause⟩
  · simp only [Option.some.injEq] at h; subst h; exact ⟨Tryd.f9, A.laws_toClause, Tryd.func9, kn_laws_toClause⟩
  · simp only [Option.some.injEq] at h; subst h; exact ⟨Tryd.f11, A.laws_eqTerm, Tryd.func11, kn_laws_eqTerm⟩
  · simp only [Option.some.injEq] at h; subst h; exact ⟨Tryd.f12, A.laws_eqClause, Tryd.func12, kn_laws_eqClause⟩
  · simp only [Option.some.injEq] at h; subst h; exact ⟨Tryd.f21, A.spec_ShowClause, Tryd.func21, kn_spec_ShowClause⟩
  · simp only [Option.some.injEq] at h; subst h; exact ⟨Tryd.f22, A.impl_ShowClause, Tryd.func22, kn_impl_ShowClause⟩
  · simp only [Option.some.injEq] at h; subst h; exact ⟨Tryd.f23, A.laws_szTerm, Tryd.func23, kn_laws_szTerm⟩
  · simp only [Option.some.injEq] at h; subst h; exact ⟨Tryd.f24, A.spec_WritePlain, Tryd.func24, kn_spec_WritePlain⟩
  · simp only [Option.some.injEq] at h; subst h; exact ⟨Tryd.f25, A.laws_toTerm, Tryd.func25, kn_laws_toTerm⟩
  · simp only [Option.some.injEq] at h; subst h; exact ⟨Tryd.f26, A.impl_WritePlain, Tryd.func26, kn_impl_WritePlain⟩
  · simp only [Option.some.injEq] at h; subst h; exact ⟨Tryd.f28, A.spec_l34Term, Tryd.func28, kn_spec_l34Term⟩
  · simp only [Option.some.injEq] at h; subst h; exact ⟨Tryd.f31, A.laws_eqTermS, Tryd.func31, kn_laws_eqTermS⟩
  · simp only [Option.some.injEq] at h; subst h; exact ⟨Tryd.f45, A.spec_WriteTerm, Tryd.func45, kn_spec_WriteTerm⟩
  · simp only [Option.some.injEq] at h; subst h; exact ⟨Tryd.f46, A.impl_WriteTerm, Tryd.func46, kn_impl_WriteTerm⟩
  · simp only [Option.some.injEq] at h; subst h; exact ⟨Tryd.f47, A.impl_isAtom, Tryd.func47, kn_impl_isAtom⟩
  · simp only [Option.some.injEq] at h; subst h; exact ⟨Tryd.f48, A.laws_szTermS, Tryd.func48, kn_laws_szTermS⟩
  · simp only [Option.some.injEq] at h; subst h; exact ⟨Tryd.f49, A.spec_TermOk, Tryd.func49, kn_spec_TermOk⟩
  · simp only [Option.some.injEq] at h; subst h; exact ⟨Tryd.f50, A.spec_l28Write, Tryd.func50, kn_spec_l28Write⟩
  · simp only [Option.some.injEq] at h; subst h; exact ⟨Tryd.f51, A.laws_toTermS, Tryd.func51, kn_laws_toTermS⟩
  · simp only [Option.some.injEq] at h; subst h; exact ⟨Tryd.f52, A.impl_TermOk, Tryd.func52, kn_impl_TermOk⟩
  · cases h
theorem known_1 : Known Tryd.prog progA_1 := by
  intro f e h
  unfold progA_1 at h
  split at h
  · simp only [Option.some.injEq] at h; subst h; exact ⟨Tryd.f53, A.impl_plain, Tryd.func53, kn_impl_plain⟩
  · simp only [Option.some.injEq] at h; subst h; exact ⟨Tryd.f56, A.spec_l34Terms, Tryd.func56, kn_spec_l34Terms⟩
  · simp only [Option.some.injEq] at h; subst h; exact ⟨Tryd.f57, A.impl_PredOf, Tryd.func57, kn_impl_PredOf⟩
  · simp only [Option.some.injEq] at h; subst h; exact ⟨Tryd.f58, A.impl_Control, Tryd.func58, kn_impl_Control⟩
  · simp only [Option.some.injEq] at h; subst h; exact ⟨Tryd.f59, A.impl_copyTerm, Tryd.func59, kn_impl_copyTerm⟩
  · simp only [Option.some.injEq] at h; subst h; exact ⟨Tryd.f61, A.impl_structure, Tryd.func61, kn_impl_structure⟩
  · simp only [Option.some.injEq] at h; subst h; exact ⟨Tryd.f75, A.spec_l07Write, Tryd.func75, kn_spec_l07Write⟩
  · simp only [Option.some.injEq] at h; subst h; exact ⟨Tryd.f76, A.impl_write, Tryd.func76, kn_impl_write⟩
  · simp only [Option.some.injEq] at h; subst h; exact ⟨Tryd.f77, A.spec_l03Count, Tryd.func77, kn_spec_l03Count⟩
  · simp only [Option.some.injEq] at h; subst h; exact ⟨Tryd.f78, A.spec_l03Right, Tryd.func78, kn_spec_l03Right⟩
  · simp only [Option.some.injEq] at h; subst h; exact ⟨Tryd.f79, A.spec_l03Is, Tryd.func79, kn_spec_l03Is⟩
  · simp only [Option.some.injEq] at h; subst h; exact ⟨Tryd.f80, A.spec_l28Row, Tryd.func80, kn_spec_l28Row⟩
  · simp only [Option.some.injEq] at h; subst h; exact ⟨Tryd.f81, A.spec_InfixOf, Tryd.func81, kn_spec_InfixOf⟩
  · simp only [Option.some.injEq] at h; subst h; exact ⟨Tryd.f82, A.spec_AtomText, Tryd.func82, kn_spec_AtomText⟩
  · simp only [Option.some.injEq] at h; subst h; exact ⟨Tryd.f83, A.spec_l28Held, Tryd.func83, kn_spec_l28Held⟩
  · simp only [Option.some.injEq] at h; subst h; exact ⟨Tryd.f84, A.impl_sized, Tryd.func84, kn_impl_sized⟩
  · simp only [Option.some.injEq] at h; subst h; exact ⟨Tryd.f85, A.impl_writeWith, Tryd.func85, kn_impl_writeWith⟩
  · simp only [Option.some.injEq] at h; subst h; exact ⟨Tryd.f86, A.impl_plain_1, Tryd.func86, kn_impl_plain_1⟩
  · simp only [Option.some.injEq] at h; subst h; exact ⟨Tryd.f87, A.impl_bracketed, Tryd.func87, kn_impl_bracketed⟩
  · simp only [Option.some.injEq] at h; subst h; exact ⟨Tryd.f88, A.impl_plain_2, Tryd.func88, kn_impl_plain_2⟩
  · simp only [Option.some.injEq] at h; subst h; exact ⟨Tryd.f89, A.impl_InfixOf, Tryd.func89, kn_impl_InfixOf⟩
  · simp only [Option.some.injEq] at h; subst h; exact ⟨Tryd.f90, A.impl_signText, Tryd.func90, kn_impl_signText⟩
  · simp only [Option.some.injEq] at h; subst h; exact ⟨Tryd.f93, A.spec_l03Two, Tryd.func93, kn_spec_l03Two⟩
  · simp only [Option.some.injEq] at h; subst h; exact ⟨Tryd.f94, A.impl_Decimal, Tryd.func94, kn_impl_Decimal⟩
  · simp only [Option.some.injEq] at h; subst h; exact ⟨Tryd.f95, A.slices_Contains_string_string, Tryd.func95, kn_slices_Contains_string_string⟩
  · simp only [Option.some.injEq] at h; subst h; exact ⟨Tryd.f96, A.impl_renamed, Tryd.func96, kn_impl_renamed⟩
  · simp only [Option.some.injEq] at h; subst h; exact ⟨Tryd.f97, A.impl_copyTerm_1, Tryd.func97, kn_impl_copyTerm_1⟩
  · simp only [Option.some.injEq] at h; subst h; exact ⟨Tryd.f98, A.spec_l05Small, Tryd.func98, kn_spec_l05Small⟩
  · simp only [Option.some.injEq] at h; subst h; exact ⟨Tryd.f99, A.spec_l01In, Tryd.func99, kn_spec_l01In⟩
  · cases h
theorem known_2 : Known Tryd.prog progA_2 := by
  intro f e h
  unfold progA_2 at h
  split at h
  · simp only [Option.some.injEq] at h; subst h; exact ⟨Tryd.f108, A.impl_within, Tryd.func108, kn_impl_within⟩
  · simp only [Option.some.injEq] at h; subst h; exact ⟨Tryd.f109, A.impl_run, Tryd.func109, kn_impl_run⟩
  · simp only [Option.some.injEq] at h; subst h; exact ⟨Tryd.f110, A.impl_lower, Tryd.func110, kn_impl_lower⟩
  · simp only [Option.some.injEq] at h; subst h; exact ⟨Tryd.f111, A.spec_Decimal, Tryd.func111, kn_spec_Decimal⟩
  · simp only [Option.some.injEq] at h; subst h; exact ⟨Tryd.f112, A.spec_l07Op, Tryd.func112, kn_spec_l07Op⟩
  · simp only [Option.some.injEq] at h; subst h; exact ⟨Tryd.f113, A.spec_l07Row, Tryd.func113, kn_spec_l07Row⟩
  · simp only [Option.some.injEq] at h; subst h; exact ⟨Tryd.f114, A.impl_write_1, Tryd.func114, kn_impl_write_1⟩
  · simp only [Option.some.injEq] at h; subst h; exact ⟨Tryd.f115, A.spec_l03One, Tryd.func115, kn_spec_l03One⟩
  · simp only [Option.some.injEq] at h; subst h; exact ⟨Tryd.f116, A.spec_SignsOf, Tryd.func116, kn_spec_SignsOf⟩
  · simp only [Option.some.injEq] at h; subst h; exact ⟨Tryd.f117, A.spec_PrioOf, Tryd.func117, kn_spec_PrioOf⟩
  · simp only [Option.some.injEq] at h; subst h; exact ⟨Tryd.f118, A.impl_nameOk, Tryd.func118, kn_impl_nameOk⟩
  · simp only [Option.some.injEq] at h; subst h; exact ⟨Tryd.f119, A.impl_isOp, Tryd.func119, kn_impl_isOp⟩
  · simp only [Option.some.injEq] at h; subst h; exact ⟨Tryd.f120, A.impl_AtomText, Tryd.func120, kn_impl_AtomText⟩
  · simp only [Option.some.injEq] at h; subst h; exact ⟨Tryd.f121, A.impl_isPair, Tryd.func121, kn_impl_isPair⟩
  · simp only [Option.some.injEq] at h; subst h; exact ⟨Tryd.f122, A.impl_isInfix, Tryd.func122, kn_impl_isInfix⟩
  · simp only [Option.some.injEq] at h; subst h; exact joinP_ok
  · simp only [Option.some.injEq] at h; subst h; exact ⟨Tryd.f124, A.impl_PrioOf, Tryd.func124, kn_impl_PrioOf⟩
  · simp only [Option.some.injEq] at h; subst h; exact itoaP_ok
  · simp only [Option.some.injEq] at h; subst h; exact ⟨Tryd.f127, A.slices_Index_string_string, Tryd.func127, kn_slices_Index_string_string⟩
  · simp only [Option.some.injEq] at h; subst h; exact ⟨Tryd.f134, A.spec_l01Figure, Tryd.func134, kn_spec_l01Figure⟩
  · simp only [Option.some.injEq] at h; subst h; exact ⟨Tryd.f135, A.spec_PrefixOf, Tryd.func135, kn_spec_PrefixOf⟩
  · simp only [Option.some.injEq] at h; subst h; exact ⟨Tryd.f136, A.spec_l03Name, Tryd.func136, kn_spec_l03Name⟩
  · simp only [Option.some.injEq] at h; subst h; exact ⟨Tryd.f137, A.spec_l05Blank, Tryd.func137, kn_spec_l05Blank⟩
  · simp only [Option.some.injEq] at h; subst h; exact ⟨Tryd.f138, A.spec_l05Sign, Tryd.func138, kn_spec_l05Sign⟩
  · simp only [Option.some.injEq] at h; subst h; exact ⟨Tryd.f139, A.impl_PrefixOf, Tryd.func139, kn_impl_PrefixOf⟩
  · simp only [Option.some.injEq] at h; subst h; exact ⟨Tryd.f140, A.impl_SignsOf, Tryd.func140, kn_impl_SignsOf⟩
  · simp only [Option.some.injEq] at h; subst h; exact ⟨Tryd.f141, A.impl_isStruct, Tryd.func141, kn_impl_isStruct⟩
  · simp only [Option.some.injEq] at h; subst h; exact ⟨Tryd.f145, A.spec_PredOf, Tryd.func145, kn_spec_PredOf⟩
  · simp only [Option.some.injEq] at h; subst h; exact ⟨Tryd.f146, A.spec_Control, Tryd.func146, kn_spec_Control⟩
  · simp only [Option.some.injEq] at h; subst h; exact ixbP_ok
  · simp only [Option.some.injEq] at h; subst h; exact ⟨Tryd.f154, A.spec_l05Great, Tryd.func154, kn_spec_l05Great⟩
  · simp only [Option.some.injEq] at h; subst h; exact ⟨Tryd.f155, A.spec_l05Run, Tryd.func155, kn_spec_l05Run⟩
  · simp only [Option.some.injEq] at h; subst h; exact ⟨Tryd.f156, A.spec_l05Figure, Tryd.func156, kn_spec_l05Figure⟩
  · simp only [Option.some.injEq] at h; subst h; exact ⟨Tryd.f157, A.spec_l05Quoted, Tryd.func157, kn_spec_l05Quoted⟩
  · simp only [Option.some.injEq] at h; subst h; exact ⟨Tryd.f158, A.spec_l05End, Tryd.func158, kn_spec_l05End⟩
  · simp only [Option.some.injEq] at h; subst h; exact ⟨Tryd.f159, A.spec_SymbolByte, Tryd.func159, kn_spec_SymbolByte⟩
  · simp only [Option.some.injEq] at h; subst h; exact ⟨Tryd.f160, A.impl_SignsOf_1, Tryd.func160, kn_impl_SignsOf_1⟩
  · simp only [Option.some.injEq] at h; subst h; exact ⟨Tryd.f161, A.impl_nextSign, Tryd.func161, kn_impl_nextSign⟩
  · simp only [Option.some.injEq] at h; subst h; exact ⟨Tryd.f167, A.spec_l05Word, Tryd.func167, kn_spec_l05Word⟩
  · cases h
theorem known_3 : Known Tryd.prog progA_3 := by
  intro f e h
  unfold progA_3 at h
  split at h
  · simp only [Option.some.injEq] at h; subst h; exact ⟨Tryd.f168, A.impl_endsHere, Tryd.func168, kn_impl_endsHere⟩
  · simp only [Option.some.injEq] at h; subst h; exact ⟨Tryd.f169, A.impl_upper, Tryd.func169, kn_impl_upper⟩
  · simp only [Option.some.injEq] at h; subst h; exact ⟨Tryd.f170, A.impl_wordByte, Tryd.func170, kn_impl_wordByte⟩
  · simp only [Option.some.injEq] at h; subst h; exact ⟨Tryd.f171, A.impl_figure, Tryd.func171, kn_impl_figure⟩
  · simp only [Option.some.injEq] at h; subst h; exact ⟨Tryd.f172, A.impl_SymbolByte, Tryd.func172, kn_impl_SymbolByte⟩
  · simp only [Option.some.injEq] at h; subst h; exact ⟨Tryd.f173, A.impl_nextSign_1, Tryd.func173, kn_impl_nextSign_1⟩
  · cases h
theorem known : Known Tryd.prog progA := by
  intro f e h
  unfold progA at h
  cases h0 : progA_0 f with
  | some x => rw [h0] at h; cases h; exact known_0 f e h0
  | none =>
  rw [h0] at h
  simp only at h
  cases h1 : progA_1 f with
  | some x => rw [h1] at h; cases h; exact known_1 f e h1
  | none =>
  rw [h1] at h
  simp only at h
  cases h2 : progA_2 f with
  | some x => rw [h2] at h; cases h; exact known_2 f e h2
  | none =>
  rw [h2] at h
  simp only at h
  exact known_3 f e h
end Go.Vm
