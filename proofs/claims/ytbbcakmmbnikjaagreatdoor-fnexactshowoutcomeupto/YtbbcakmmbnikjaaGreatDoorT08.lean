import Derived.Test.YtbbcakmmbnikjaaGreatDoorT04
import Derived.Test.YtbbcakmmbnikjaaGreatDoorT07
import Derived.Test.YtbbcakmmbnikjaaGreatDoorProg
import Derived.KernelRfl

set_option autoImplicit false
set_option maxRecDepth 100000
set_option maxHeartbeats 8000000
namespace Go.Vm
open Go.Proofs
theorem kn_laws_FnExactShowDb : trFn Tryz.prog Tryz.f3 A.laws_FnExactShowDb = some A.laws_FnExactShowDb := by kernel_rfl
theorem kn_laws_FnExactPlainClause : trFn Tryz.prog Tryz.f4 A.laws_FnExactPlainClause = some A.laws_FnExactPlainClause := by kernel_rfl
theorem kn_laws_FnExactShowOutcome : trFn Tryz.prog Tryz.f5 A.laws_FnExactShowOutcome = some A.laws_FnExactShowOutcome := by kernel_rfl
theorem kn_laws_FnExactPlainText : trFn Tryz.prog Tryz.f6 A.laws_FnExactPlainText = some A.laws_FnExactPlainText := by kernel_rfl
theorem kn_laws_szDb : trFn Tryz.prog Tryz.f9 A.laws_szDb = some A.laws_szDb := by kernel_rfl
theorem kn_spec_ShowDb : trFn Tryz.prog Tryz.f10 A.spec_ShowDb = some A.spec_ShowDb := by kernel_rfl
theorem kn_laws_toDb : trFn Tryz.prog Tryz.f11 A.laws_toDb = some A.laws_toDb := by kernel_rfl
theorem kn_impl_ShowDb : trFn Tryz.prog Tryz.f12 A.impl_ShowDb = some A.impl_ShowDb := by kernel_rfl
theorem kn_laws_eqDb : trFn Tryz.prog Tryz.f13 A.laws_eqDb = some A.laws_eqDb := by kernel_rfl
theorem kn_laws_szClause : trFn Tryz.prog Tryz.f14 A.laws_szClause = some A.laws_szClause := by kernel_rfl
theorem kn_spec_PlainClause : trFn Tryz.prog Tryz.f15 A.spec_PlainClause = some A.spec_PlainClause := by kernel_rfl
theorem kn_laws_toClause : trFn Tryz.prog Tryz.f16 A.laws_toClause = some A.laws_toClause := by kernel_rfl
theorem kn_impl_PlainClause : trFn Tryz.prog Tryz.f17 A.impl_PlainClause = some A.impl_PlainClause := by kernel_rfl
theorem kn_laws_eqClause : trFn Tryz.prog Tryz.f18 A.laws_eqClause = some A.laws_eqClause := by kernel_rfl
theorem kn_laws_szOutcome : trFn Tryz.prog Tryz.f19 A.laws_szOutcome = some A.laws_szOutcome := by kernel_rfl
theorem kn_spec_ShowOutcome : trFn Tryz.prog Tryz.f20 A.spec_ShowOutcome = some A.spec_ShowOutcome := by kernel_rfl
theorem kn_laws_toOutcome : trFn Tryz.prog Tryz.f21 A.laws_toOutcome = some A.laws_toOutcome := by kernel_rfl
theorem kn_impl_ShowOutcome : trFn Tryz.prog Tryz.f22 A.impl_ShowOutcome = some A.impl_ShowOutcome := by kernel_rfl
theorem kn_laws_eqOutcome : trFn Tryz.prog Tryz.f23 A.laws_eqOutcome = some A.laws_eqOutcome := by kernel_rfl
theorem kn_spec_PlainText : trFn Tryz.prog Tryz.f24 A.spec_PlainText = some A.spec_PlainText := by kernel_rfl
theorem kn_impl_PlainText : trFn Tryz.prog Tryz.f25 A.impl_PlainText = some A.impl_PlainText := by kernel_rfl
theorem kn_laws_szClauseS : trFn Tryz.prog Tryz.f32 A.laws_szClauseS = some A.laws_szClauseS := by kernel_rfl
theorem kn_laws_szStringS : trFn Tryz.prog Tryz.f33 A.laws_szStringS = some A.laws_szStringS := by kernel_rfl
theorem kn_spec_ShowClause : trFn Tryz.prog Tryz.f34 A.spec_ShowClause = some A.spec_ShowClause := by kernel_rfl
theorem kn_laws_toClauseS : trFn Tryz.prog Tryz.f35 A.laws_toClauseS = some A.laws_toClauseS := by kernel_rfl
theorem kn_laws_toStringS : trFn Tryz.prog Tryz.f36 A.laws_toStringS = some A.laws_toStringS := by kernel_rfl
theorem kn_impl_ShowClause : trFn Tryz.prog Tryz.f37 A.impl_ShowClause = some A.impl_ShowClause := by kernel_rfl
theorem kn_laws_eqClauseS : trFn Tryz.prog Tryz.f38 A.laws_eqClauseS = some A.laws_eqClauseS := by kernel_rfl
theorem kn_laws_eqStringS : trFn Tryz.prog Tryz.f39 A.laws_eqStringS = some A.laws_eqStringS := by kernel_rfl
theorem kn_laws_szTerm : trFn Tryz.prog Tryz.f40 A.laws_szTerm = some A.laws_szTerm := by kernel_rfl
theorem kn_spec_TermOk : trFn Tryz.prog Tryz.f41 A.spec_TermOk = some A.spec_TermOk := by kernel_rfl
theorem kn_spec_PrioOf : trFn Tryz.prog Tryz.f42 A.spec_PrioOf = some A.spec_PrioOf := by kernel_rfl
theorem kn_spec_WritePlain : trFn Tryz.prog Tryz.f43 A.spec_WritePlain = some A.spec_WritePlain := by kernel_rfl
theorem kn_spec_ClauseTerm : trFn Tryz.prog Tryz.f44 A.spec_ClauseTerm = some A.spec_ClauseTerm := by kernel_rfl
theorem kn_spec_l28Write : trFn Tryz.prog Tryz.f45 A.spec_l28Write = some A.spec_l28Write := by kernel_rfl
theorem kn_spec_l27True : trFn Tryz.prog Tryz.f46 A.spec_l27True = some A.spec_l27True := by kernel_rfl
theorem kn_spec_l03Is : trFn Tryz.prog Tryz.f47 A.spec_l03Is = some A.spec_l03Is := by kernel_rfl
theorem kn_spec_l28Held : trFn Tryz.prog Tryz.f48 A.spec_l28Held = some A.spec_l28Held := by kernel_rfl
theorem kn_laws_toTerm : trFn Tryz.prog Tryz.f49 A.laws_toTerm = some A.laws_toTerm := by kernel_rfl
theorem kn_impl_TermOk : trFn Tryz.prog Tryz.f50 A.impl_TermOk = some A.impl_TermOk := by kernel_rfl
theorem kn_impl_PrioOf : trFn Tryz.prog Tryz.f51 A.impl_PrioOf = some A.impl_PrioOf := by kernel_rfl
theorem kn_impl_WritePlain : trFn Tryz.prog Tryz.f52 A.impl_WritePlain = some A.impl_WritePlain := by kernel_rfl
theorem kn_impl_ClauseTerm : trFn Tryz.prog Tryz.f53 A.impl_ClauseTerm = some A.impl_ClauseTerm := by kernel_rfl
theorem kn_impl_isAtom : trFn Tryz.prog Tryz.f54 A.impl_isAtom = some A.impl_isAtom := by kernel_rfl
theorem kn_impl_isStruct : trFn Tryz.prog Tryz.f55 A.impl_isStruct = some A.impl_isStruct := by kernel_rfl
theorem kn_impl_bracketed : trFn Tryz.prog Tryz.f56 A.impl_bracketed = some A.impl_bracketed := by kernel_rfl
theorem kn_laws_eqTerm : trFn Tryz.prog Tryz.f57 A.laws_eqTerm = some A.laws_eqTerm := by kernel_rfl
theorem kn_laws_szTermS : trFn Tryz.prog Tryz.f58 A.laws_szTermS = some A.laws_szTermS := by kernel_rfl
theorem kn_spec_l31Lines : trFn Tryz.prog Tryz.f59 A.spec_l31Lines = some A.spec_l31Lines := by kernel_rfl
theorem kn_spec_l19Lines : trFn Tryz.prog Tryz.f60 A.spec_l19Lines = some A.spec_l19Lines := by kernel_rfl
theorem kn_laws_toTermS : trFn Tryz.prog Tryz.f61 A.laws_toTermS = some A.laws_toTermS := by kernel_rfl
theorem kn_impl_inLines : trFn Tryz.prog Tryz.f62 A.impl_inLines = some A.impl_inLines := by kernel_rfl
theorem kn_impl_outcomeLines : trFn Tryz.prog Tryz.f63 A.impl_outcomeLines = some A.impl_outcomeLines := by kernel_rfl
theorem kn_laws_eqTermS : trFn Tryz.prog Tryz.f64 A.laws_eqTermS = some A.laws_eqTermS := by kernel_rfl
theorem kn_impl_within : trFn Tryz.prog Tryz.f68 A.impl_within = some A.impl_within := by kernel_rfl
theorem kn_impl_PredOf : trFn Tryz.prog Tryz.f71 A.impl_PredOf = some A.impl_PredOf := by kernel_rfl
theorem kn_spec_WriteTerm : trFn Tryz.prog Tryz.f80 A.spec_WriteTerm = some A.spec_WriteTerm := by kernel_rfl
theorem kn_impl_WriteTerm : trFn Tryz.prog Tryz.f81 A.impl_WriteTerm = some A.impl_WriteTerm := by kernel_rfl
theorem kn_spec_l03Count : trFn Tryz.prog Tryz.f82 A.spec_l03Count = some A.spec_l03Count := by kernel_rfl
theorem kn_spec_l03Right : trFn Tryz.prog Tryz.f83 A.spec_l03Right = some A.spec_l03Right := by kernel_rfl
theorem kn_spec_InfixOf : trFn Tryz.prog Tryz.f84 A.spec_InfixOf = some A.spec_InfixOf := by kernel_rfl
theorem kn_spec_l08ClauseTermRaw : trFn Tryz.prog Tryz.f85 A.spec_l08ClauseTermRaw = some A.spec_l08ClauseTermRaw := by kernel_rfl
theorem kn_spec_l34Term : trFn Tryz.prog Tryz.f86 A.spec_l34Term = some A.spec_l34Term := by kernel_rfl
theorem kn_spec_l07Write : trFn Tryz.prog Tryz.f87 A.spec_l07Write = some A.spec_l07Write := by kernel_rfl
theorem kn_spec_l28Row : trFn Tryz.prog Tryz.f88 A.spec_l28Row = some A.spec_l28Row := by kernel_rfl
theorem kn_spec_AtomText : trFn Tryz.prog Tryz.f89 A.spec_AtomText = some A.spec_AtomText := by kernel_rfl
theorem kn_impl_sized : trFn Tryz.prog Tryz.f90 A.impl_sized = some A.impl_sized := by kernel_rfl
theorem kn_impl_isInfix : trFn Tryz.prog Tryz.f91 A.impl_isInfix = some A.impl_isInfix := by kernel_rfl
theorem kn_impl_InfixOf : trFn Tryz.prog Tryz.f92 A.impl_InfixOf = some A.impl_InfixOf := by kernel_rfl
theorem kn_impl_plain : trFn Tryz.prog Tryz.f93 A.impl_plain = some A.impl_plain := by kernel_rfl
theorem kn_impl_structure : trFn Tryz.prog Tryz.f94 A.impl_structure = some A.impl_structure := by kernel_rfl
theorem kn_impl_copyTerm : trFn Tryz.prog Tryz.f95 A.impl_copyTerm = some A.impl_copyTerm := by kernel_rfl
theorem kn_spec_l01In : trFn Tryz.prog Tryz.f97 A.spec_l01In = some A.spec_l01In := by kernel_rfl
theorem kn_spec_PredOf : trFn Tryz.prog Tryz.f100 A.spec_PredOf = some A.spec_PredOf := by kernel_rfl
theorem kn_impl_Decimal : trFn Tryz.prog Tryz.f109 A.impl_Decimal = some A.impl_Decimal := by kernel_rfl
theorem kn_impl_NeatClause : trFn Tryz.prog Tryz.f117 A.impl_NeatClause = some A.impl_NeatClause := by kernel_rfl
theorem kn_impl_write : trFn Tryz.prog Tryz.f125 A.impl_write = some A.impl_write := by kernel_rfl
theorem kn_spec_l03One : trFn Tryz.prog Tryz.f126 A.spec_l03One = some A.spec_l03One := by kernel_rfl
theorem kn_spec_l03Two : trFn Tryz.prog Tryz.f127 A.spec_l03Two = some A.spec_l03Two := by kernel_rfl
theorem kn_spec_l34Terms : trFn Tryz.prog Tryz.f128 A.spec_l34Terms = some A.spec_l34Terms := by kernel_rfl
theorem kn_spec_Decimal : trFn Tryz.prog Tryz.f129 A.spec_Decimal = some A.spec_Decimal := by kernel_rfl
theorem kn_spec_l07Op : trFn Tryz.prog Tryz.f130 A.spec_l07Op = some A.spec_l07Op := by kernel_rfl
theorem kn_spec_l07Row : trFn Tryz.prog Tryz.f131 A.spec_l07Row = some A.spec_l07Row := by kernel_rfl
theorem kn_spec_SignsOf : trFn Tryz.prog Tryz.f132 A.spec_SignsOf = some A.spec_SignsOf := by kernel_rfl
theorem kn_impl_nameOk : trFn Tryz.prog Tryz.f133 A.impl_nameOk = some A.impl_nameOk := by kernel_rfl
theorem kn_impl_writeWith : trFn Tryz.prog Tryz.f134 A.impl_writeWith = some A.impl_writeWith := by kernel_rfl
theorem kn_impl_plain_1 : trFn Tryz.prog Tryz.f135 A.impl_plain_1 = some A.impl_plain_1 := by kernel_rfl
theorem kn_impl_plain_2 : trFn Tryz.prog Tryz.f136 A.impl_plain_2 = some A.impl_plain_2 := by kernel_rfl
theorem kn_impl_signText : trFn Tryz.prog Tryz.f137 A.impl_signText = some A.impl_signText := by kernel_rfl
theorem kn_impl_renamed : trFn Tryz.prog Tryz.f138 A.impl_renamed = some A.impl_renamed := by kernel_rfl
theorem kn_impl_copyTerm_1 : trFn Tryz.prog Tryz.f139 A.impl_copyTerm_1 = some A.impl_copyTerm_1 := by kernel_rfl
theorem kn_spec_NeatClause : trFn Tryz.prog Tryz.f148 A.spec_NeatClause = some A.spec_NeatClause := by kernel_rfl
theorem kn_impl_Control : trFn Tryz.prog Tryz.f150 A.impl_Control = some A.impl_Control := by kernel_rfl
theorem kn_impl_VarsOf : trFn Tryz.prog Tryz.f155 A.impl_VarsOf = some A.impl_VarsOf := by kernel_rfl
theorem kn_impl_fresh : trFn Tryz.prog Tryz.f158 A.impl_fresh = some A.impl_fresh := by kernel_rfl
theorem kn_impl_write_1 : trFn Tryz.prog Tryz.f160 A.impl_write_1 = some A.impl_write_1 := by kernel_rfl
theorem kn_spec_l03Name : trFn Tryz.prog Tryz.f161 A.spec_l03Name = some A.spec_l03Name := by kernel_rfl
theorem kn_spec_l01Figure : trFn Tryz.prog Tryz.f162 A.spec_l01Figure = some A.spec_l01Figure := by kernel_rfl
theorem kn_spec_PrefixOf : trFn Tryz.prog Tryz.f163 A.spec_PrefixOf = some A.spec_PrefixOf := by kernel_rfl
theorem kn_spec_l05Blank : trFn Tryz.prog Tryz.f164 A.spec_l05Blank = some A.spec_l05Blank := by kernel_rfl
theorem kn_spec_l05Sign : trFn Tryz.prog Tryz.f165 A.spec_l05Sign = some A.spec_l05Sign := by kernel_rfl
theorem kn_impl_isOp : trFn Tryz.prog Tryz.f166 A.impl_isOp = some A.impl_isOp := by kernel_rfl
theorem kn_impl_AtomText : trFn Tryz.prog Tryz.f167 A.impl_AtomText = some A.impl_AtomText := by kernel_rfl
theorem kn_impl_isPair : trFn Tryz.prog Tryz.f168 A.impl_isPair = some A.impl_isPair := by kernel_rfl
theorem kn_spec_VarsOf : trFn Tryz.prog Tryz.f173 A.spec_VarsOf = some A.spec_VarsOf := by kernel_rfl
theorem kn_spec_l11Named : trFn Tryz.prog Tryz.f176 A.spec_l11Named = some A.spec_l11Named := by kernel_rfl
theorem kn_slices_Contains_string_string : trFn Tryz.prog Tryz.f177 A.slices_Contains_string_string = some A.slices_Contains_string_string := by kernel_rfl
theorem kn_impl_addVars : trFn Tryz.prog Tryz.f181 A.impl_addVars = some A.impl_addVars := by kernel_rfl
theorem kn_impl_fresh_1 : trFn Tryz.prog Tryz.f183 A.impl_fresh_1 = some A.impl_fresh_1 := by kernel_rfl
theorem kn_slices_Index_int_int : trFn Tryz.prog Tryz.f184 A.slices_Index_int_int = some A.slices_Index_int_int := by kernel_rfl
theorem kn_spec_l05Small : trFn Tryz.prog Tryz.f186 A.spec_l05Small = some A.spec_l05Small := by kernel_rfl
theorem kn_spec_l05Great : trFn Tryz.prog Tryz.f187 A.spec_l05Great = some A.spec_l05Great := by kernel_rfl
theorem kn_spec_l05Run : trFn Tryz.prog Tryz.f188 A.spec_l05Run = some A.spec_l05Run := by kernel_rfl
theorem kn_spec_l05Figure : trFn Tryz.prog Tryz.f189 A.spec_l05Figure = some A.spec_l05Figure := by kernel_rfl
theorem kn_spec_l05Quoted : trFn Tryz.prog Tryz.f190 A.spec_l05Quoted = some A.spec_l05Quoted := by kernel_rfl
theorem kn_spec_l05End : trFn Tryz.prog Tryz.f191 A.spec_l05End = some A.spec_l05End := by kernel_rfl
theorem kn_spec_SymbolByte : trFn Tryz.prog Tryz.f192 A.spec_SymbolByte = some A.spec_SymbolByte := by kernel_rfl
theorem kn_impl_PrefixOf : trFn Tryz.prog Tryz.f193 A.impl_PrefixOf = some A.impl_PrefixOf := by kernel_rfl
theorem kn_impl_SignsOf : trFn Tryz.prog Tryz.f194 A.impl_SignsOf = some A.impl_SignsOf := by kernel_rfl
theorem kn_spec_Control : trFn Tryz.prog Tryz.f200 A.spec_Control = some A.spec_Control := by kernel_rfl
theorem kn_spec_l03Vars : trFn Tryz.prog Tryz.f201 A.spec_l03Vars = some A.spec_l03Vars := by kernel_rfl
theorem kn_spec_l03At : trFn Tryz.prog Tryz.f205 A.spec_l03At = some A.spec_l03At := by kernel_rfl
theorem kn_slices_Index_string_string : trFn Tryz.prog Tryz.f206 A.slices_Index_string_string = some A.slices_Index_string_string := by kernel_rfl
theorem kn_slices_Contains_int_int : trFn Tryz.prog Tryz.f209 A.slices_Contains_int_int = some A.slices_Contains_int_int := by kernel_rfl
theorem kn_spec_l05Word : trFn Tryz.prog Tryz.f210 A.spec_l05Word = some A.spec_l05Word := by kernel_rfl
theorem kn_impl_run : trFn Tryz.prog Tryz.f211 A.impl_run = some A.impl_run := by kernel_rfl
theorem kn_impl_SignsOf_1 : trFn Tryz.prog Tryz.f212 A.impl_SignsOf_1 = some A.impl_SignsOf_1 := by kernel_rfl
theorem kn_impl_nextSign : trFn Tryz.prog Tryz.f213 A.impl_nextSign = some A.impl_nextSign := by kernel_rfl
theorem kn_spec_l03Has : trFn Tryz.prog Tryz.f216 A.spec_l03Has = some A.spec_l03Has := by kernel_rfl
theorem kn_impl_endsHere : trFn Tryz.prog Tryz.f223 A.impl_endsHere = some A.impl_endsHere := by kernel_rfl
theorem kn_impl_lower : trFn Tryz.prog Tryz.f224 A.impl_lower = some A.impl_lower := by kernel_rfl
theorem kn_impl_upper : trFn Tryz.prog Tryz.f225 A.impl_upper = some A.impl_upper := by kernel_rfl
theorem kn_impl_wordByte : trFn Tryz.prog Tryz.f226 A.impl_wordByte = some A.impl_wordByte := by kernel_rfl
theorem kn_impl_figure : trFn Tryz.prog Tryz.f227 A.impl_figure = some A.impl_figure := by kernel_rfl
theorem kn_impl_SymbolByte : trFn Tryz.prog Tryz.f228 A.impl_SymbolByte = some A.impl_SymbolByte := by kernel_rfl
theorem kn_impl_nextSign_1 : trFn Tryz.prog Tryz.f230 A.impl_nextSign_1 = some A.impl_nextSign_1 := by kernel_rfl
theorem known_0 : Known Tryz.prog progA_0 := by
  intro f e h
  unfold progA_0 at h
  split at h
  · simp only [Option.some.injEq] at h; subst h; exact ⟨Tryz.f3, A.laws_FnExactShowDb, Tryz.func3, kn_laws_FnExactShowDb⟩
  · simp only [Option.some.injEq] at h; subst h; exact ⟨Tryz.f4, A.laws_FnExactPlainClause, Tryz.func4, kn_laws_FnExactPlainClause⟩
  · simp only [Option.some.injEq] at h; subst h; exact ⟨Tryz.f5, A.laws_FnExactShowOutcome, Tryz.func5, kn_laws_FnExactShowOutcome⟩
  · simp only [Option.some.injEq] at h; subst h; exact ⟨Tryz.f6, A.laws_FnExactPlainText, Tryz.func6, kn_laws_FnExactPlainText⟩
  · simp only [Option.some.injEq] at h; subst h; exact ⟨Tryz.f9, A.laws_szDb, Tryz.func9, kn_laws_szDb⟩
  · simp only [Option.some.injEq] at h; subst h; exact ⟨Tryz.f10, A.spec_ShowDb, Tryz.func10, kn_spec_ShowDb⟩
  · simp only [Option.some.injEq] at h; subst h; exact ⟨Tryz.f11, A.laws_toDb, Tryz.func11, kn_laws_toDb⟩
  · simp only [Option.some.injEq] at h; subst h; exact ⟨Tryz.f12, A.impl_ShowDb, Tryz.func12, kn_impl_ShowDb⟩
  · simp only [Option.some.injEq] at h; subst h; exact ⟨Tryz.f13, A.laws_eqDb, Tryz.func13, kn_laws_eqDb⟩
  · simp only [Option.some.injEq] at h; subst h; exact ⟨Tryz.f14, A.laws_szClause, Tryz.func14, kn_laws_szClause⟩
  · simp only [Option.some.injEq] at h; subst h; exact ⟨Tryz.f15, A.spec_PlainClause, Tryz.func15, kn_spec_PlainClause⟩
  · simp only [Option.some.injEq] at h; subst h; exact ⟨Tryz.f16, A.laws_toClause, Tryz.func16, kn_laws_toClause⟩
  · simp only [Option.some.injEq] at h; subst h; exact ⟨Tryz.f17, A.impl_PlainClause, Tryz.func17, kn_impl_PlainClause⟩
  · simp only [Option.some.injEq] at h; subst h; exact ⟨Tryz.f18, A.laws_eqClause, Tryz.func18, kn_laws_eqClause⟩
  · simp only [Option.some.injEq] at h; subst h; exact ⟨Tryz.f19, A.laws_szOutcome, Tryz.func19, kn_laws_szOutcome⟩
  · simp only [Option.some.injEq] at h; subst h; exact ⟨Tryz.f20, A.spec_ShowOutcome, Tryz.func20, kn_spec_ShowOutcome⟩
  · simp only [Option.some.injEq] at h; subst h; exact ⟨Tryz.f21, A.laws_toOutcome, Tryz.func21, kn_laws_toOutcome⟩
  · simp only [Option.some.injEq] at h; subst h; exact ⟨Tryz.f22, A.impl_ShowOutcome, Tryz.func22, kn_impl_ShowOutcome⟩
  · simp only [Option.some.injEq] at h; subst h; exact ⟨Tryz.f23, A.laws_eqOutcome, Tryz.func23, kn_laws_eqOutcome⟩
  · simp only [Option.some.injEq] at h; subst h; exact ⟨Tryz.f24, A.spec_PlainText, Tryz.func24, kn_spec_PlainText⟩
  · simp only [Option.some.injEq] at h; subst h; exact ⟨Tryz.f25, A.impl_PlainText, Tryz.func25, kn_impl_PlainText⟩
  · simp only [Option.some.injEq] at h; subst h; exact ⟨Tryz.f32, A.laws_szClauseS, Tryz.func32, kn_laws_szClauseS⟩
  · simp only [Option.some.injEq] at h; subst h; exact ⟨Tryz.f33, A.laws_szStringS, Tryz.func33, kn_laws_szStringS⟩
  · simp only [Option.some.injEq] at h; subst h; exact ⟨Tryz.f34, A.spec_ShowClause, Tryz.func34, kn_spec_ShowClause⟩
  · simp only [Option.some.injEq] at h; subst h; exact ⟨Tryz.f35, A.laws_toClauseS, Tryz.func35, kn_laws_toClauseS⟩
  · simp only [Option.some.injEq] at h; subst h; exact ⟨Tryz.f36, A.laws_toStringS, Tryz.func36, kn_laws_toStringS⟩
  · simp only [Option.some.injEq] at h; subst h; exact ⟨Tryz.f37, A.impl_ShowClause, Tryz.func37, kn_impl_ShowClause⟩
  · simp only [Option.some.injEq] at h; subst h; exact ⟨Tryz.f38, A.laws_eqClauseS, Tryz.func38, kn_laws_eqClauseS⟩
  · simp only [Option.some.injEq] at h; subst h; exact ⟨Tryz.f39, A.laws_eqStringS, Tryz.func39, kn_laws_eqStringS⟩
  · simp only [Option.some.injEq] at h; subst h; exact ⟨Tryz.f40, A.laws_szTerm, Tryz.func40, kn_laws_szTerm⟩
  · simp only [Option.some.injEq] at h; subst h; exact ⟨Tryz.f41, A.spec_TermOk, Tryz.func41, kn_spec_TermOk⟩
  · simp only [Option.some.injEq] at h; subst h; exact ⟨Tryz.f42, A.spec_PrioOf, Tryz.func42, kn_spec_PrioOf⟩
  · simp only [Option.some.injEq] at h; subst h; exact ⟨Tryz.f43, A.spec_WritePlain, Tryz.func43, kn_spec_WritePlain⟩
  · simp only [Option.some.injEq] at h; subst h; exact ⟨Tryz.f44, A.spec_ClauseTerm, Tryz.func44, kn_spec_ClauseTerm⟩
  · simp only [Option.some.injEq] at h; subst h; exact ⟨Tryz.f45, A.spec_l28Write, Tryz.func45, kn_spec_l28Write⟩
  · simp only [Option.some.injEq] at h; subst h; exact ⟨Tryz.f46, A.spec_l27True, Tryz.func46, kn_spec_l27True⟩
  · simp only [Option.some.injEq] at h; subst h; exact ⟨Tryz.f47, A.spec_l03Is, Tryz.func47, kn_spec_l03Is⟩
  · simp only [Option.some.injEq] at h; subst h; exact ⟨Tryz.f48, A.spec_l28Held, Tryz.func48, kn_spec_l28Held⟩
  · simp only [Option.some.injEq] at h; subst h; exact ⟨Tryz.f49, A.laws_toTerm, Tryz.func49, kn_laws_toTerm⟩
  · simp only [Option.some.injEq] at h; subst h; exact ⟨Tryz.f50, A.impl_TermOk, Tryz.func50, kn_impl_TermOk⟩
  · simp only [Option.some.injEq] at h; subst h; exact ⟨Tryz.f51, A.impl_PrioOf, Tryz.func51, kn_impl_PrioOf⟩
  · simp only [Option.some.injEq] at h; subst h; exact ⟨Tryz.f52, A.impl_WritePlain, Tryz.func52, kn_impl_WritePlain⟩
  · cases h
theorem known_1 : Known Tryz.prog progA_1 := by
  intro f e h
  unfold progA_1 at h
  split at h
  · simp only [Option.some.injEq] at h; subst h; exact ⟨Tryz.f53, A.impl_ClauseTerm, Tryz.func53, kn_impl_ClauseTerm⟩
  · simp only [Option.some.injEq] at h; subst h; exact ⟨Tryz.f54, A.impl_isAtom, Tryz.func54, kn_impl_isAtom⟩
  · simp only [Option.some.injEq] at h; subst h; exact ⟨Tryz.f55, A.impl_isStruct, Tryz.func55, kn_impl_isStruct⟩
  · simp only [Option.some.injEq] at h; subst h; exact ⟨Tryz.f56, A.impl_bracketed, Tryz.func56, kn_impl_bracketed⟩
  · simp only [Option.some.injEq] at h; subst h; exact ⟨Tryz.f57, A.laws_eqTerm, Tryz.func57, kn_laws_eqTerm⟩
  · simp only [Option.some.injEq] at h; subst h; exact ⟨Tryz.f58, A.laws_szTermS, Tryz.func58, kn_laws_szTermS⟩
  · simp only [Option.some.injEq] at h; subst h; exact ⟨Tryz.f59, A.spec_l31Lines, Tryz.func59, kn_spec_l31Lines⟩
  · simp only [Option.some.injEq] at h; subst h; exact ⟨Tryz.f60, A.spec_l19Lines, Tryz.func60, kn_spec_l19Lines⟩
  · simp only [Option.some.injEq] at h; subst h; exact ⟨Tryz.f61, A.laws_toTermS, Tryz.func61, kn_laws_toTermS⟩
  · simp only [Option.some.injEq] at h; subst h; exact ⟨Tryz.f62, A.impl_inLines, Tryz.func62, kn_impl_inLines⟩
  · simp only [Option.some.injEq] at h; subst h; exact ⟨Tryz.f63, A.impl_outcomeLines, Tryz.func63, kn_impl_outcomeLines⟩
  · simp only [Option.some.injEq] at h; subst h; exact ⟨Tryz.f64, A.laws_eqTermS, Tryz.func64, kn_laws_eqTermS⟩
  · simp only [Option.some.injEq] at h; subst h; exact ⟨Tryz.f68, A.impl_within, Tryz.func68, kn_impl_within⟩
  · simp only [Option.some.injEq] at h; subst h; exact ⟨Tryz.f71, A.impl_PredOf, Tryz.func71, kn_impl_PredOf⟩
  · simp only [Option.some.injEq] at h; subst h; exact ⟨Tryz.f80, A.spec_WriteTerm, Tryz.func80, kn_spec_WriteTerm⟩
  · simp only [Option.some.injEq] at h; subst h; exact ⟨Tryz.f81, A.impl_WriteTerm, Tryz.func81, kn_impl_WriteTerm⟩
  · simp only [Option.some.injEq] at h; subst h; exact ⟨Tryz.f82, A.spec_l03Count, Tryz.func82, kn_spec_l03Count⟩
  · simp only [Option.some.injEq] at h; subst h; exact ⟨Tryz.f83, A.spec_l03Right, Tryz.func83, kn_spec_l03Right⟩
  · simp only [Option.some.injEq] at h; subst h; exact ⟨Tryz.f84, A.spec_InfixOf, Tryz.func84, kn_spec_InfixOf⟩
  · simp only [Option.some.injEq] at h; subst h; exact ⟨Tryz.f85, A.spec_l08ClauseTermRaw, Tryz.func85, kn_spec_l08ClauseTermRaw⟩
  · simp only [Option.some.injEq] at h; subst h; exact ⟨Tryz.f86, A.spec_l34Term, Tryz.func86, kn_spec_l34Term⟩
  · simp only [Option.some.injEq] at h; subst h; exact ⟨Tryz.f87, A.spec_l07Write, Tryz.func87, kn_spec_l07Write⟩
  · simp only [Option.some.injEq] at h; subst h; exact ⟨Tryz.f88, A.spec_l28Row, Tryz.func88, kn_spec_l28Row⟩
  · simp only [Option.some.injEq] at h; subst h; exact ⟨Tryz.f89, A.spec_AtomText, Tryz.func89, kn_spec_AtomText⟩
  · simp only [Option.some.injEq] at h; subst h; exact ⟨Tryz.f90, A.impl_sized, Tryz.func90, kn_impl_sized⟩
  · simp only [Option.some.injEq] at h; subst h; exact ⟨Tryz.f91, A.impl_isInfix, Tryz.func91, kn_impl_isInfix⟩
  · simp only [Option.some.injEq] at h; subst h; exact ⟨Tryz.f92, A.impl_InfixOf, Tryz.func92, kn_impl_InfixOf⟩
  · simp only [Option.some.injEq] at h; subst h; exact ⟨Tryz.f93, A.impl_plain, Tryz.func93, kn_impl_plain⟩
  · simp only [Option.some.injEq] at h; subst h; exact ⟨Tryz.f94, A.impl_structure, Tryz.func94, kn_impl_structure⟩
  · simp only [Option.some.injEq] at h; subst h; exact ⟨Tryz.f95, A.impl_copyTerm, Tryz.func95, kn_impl_copyTerm⟩
  · simp only [Option.some.injEq] at h; subst h; exact ⟨Tryz.f97, A.spec_l01In, Tryz.func97, kn_spec_l01In⟩
  · simp only [Option.some.injEq] at h; subst h; exact ⟨Tryz.f100, A.spec_PredOf, Tryz.func100, kn_spec_PredOf⟩
  · cases h
theorem known_2 : Known Tryz.prog progA_2 := by
  intro f e h
  unfold progA_2 at h
  split at h
  · simp only [Option.some.injEq] at h; subst h; exact ⟨Tryz.f109, A.impl_Decimal, Tryz.func109, kn_impl_Decimal⟩
  · simp only [Option.some.injEq] at h; subst h; exact ⟨Tryz.f117, A.impl_NeatClause, Tryz.func117, kn_impl_NeatClause⟩
  · simp only [Option.some.injEq] at h; subst h; exact ⟨Tryz.f125, A.impl_write, Tryz.func125, kn_impl_write⟩
  · simp only [Option.some.injEq] at h; subst h; exact ⟨Tryz.f126, A.spec_l03One, Tryz.func126, kn_spec_l03One⟩
  · simp only [Option.some.injEq] at h; subst h; exact ⟨Tryz.f127, A.spec_l03Two, Tryz.func127, kn_spec_l03Two⟩
  · simp only [Option.some.injEq] at h; subst h; exact ⟨Tryz.f128, A.spec_l34Terms, Tryz.func128, kn_spec_l34Terms⟩
  · simp only [Option.some.injEq] at h; subst h; exact ⟨Tryz.f129, A.spec_Decimal, Tryz.func129, kn_spec_Decimal⟩
  · simp only [Option.some.injEq] at h; subst h; exact ⟨Tryz.f130, A.spec_l07Op, Tryz.func130, kn_spec_l07Op⟩
  · simp only [Option.some.injEq] at h; subst h; exact ⟨Tryz.f131, A.spec_l07Row, Tryz.func131, kn_spec_l07Row⟩
  · simp only [Option.some.injEq] at h; subst h; exact ⟨Tryz.f132, A.spec_SignsOf, Tryz.func132, kn_spec_SignsOf⟩
  · simp only [Option.some.injEq] at h; subst h; exact ⟨Tryz.f133, A.impl_nameOk, Tryz.func133, kn_impl_nameOk⟩
  · simp only [Option.some.injEq] at h; subst h; exact ⟨Tryz.f134, A.impl_writeWith, Tryz.func134, kn_impl_writeWith⟩
  · simp only [Option.some.injEq] at h; subst h; exact ⟨Tryz.f135, A.impl_plain_1, Tryz.func135, kn_impl_plain_1⟩
  · simp only [Option.some.injEq] at h; subst h; exact ⟨Tryz.f136, A.impl_plain_2, Tryz.func136, kn_impl_plain_2⟩
  · simp only [Option.some.injEq] at h; subst h; exact ⟨Tryz.f137, A.impl_signText, Tryz.func137, kn_impl_signText⟩
  · simp only [Option.some.injEq] at h; subst h; exact ⟨Tryz.f138, A.impl_renamed, Tryz.func138, kn_impl_renamed⟩
  · simp only [Option.some.injEq] at h; subst h; exact ⟨Tryz.f139, A.impl_copyTerm_1, Tryz.func139, kn_impl_copyTerm_1⟩
  · simp only [Option.some.injEq] at h; subst h; exact ⟨Tryz.f148, A.spec_NeatClause, Tryz.func148, kn_spec_NeatClause⟩
  · simp only [Option.some.injEq] at h; subst h; exact ⟨Tryz.f150, A.impl_Control, Tryz.func150, kn_impl_Control⟩
  · simp only [Option.some.injEq] at h; subst h; exact itoaP_ok
  · simp only [Option.some.injEq] at h; subst h; exact ⟨Tryz.f155, A.impl_VarsOf, Tryz.func155, kn_impl_VarsOf⟩
  · simp only [Option.some.injEq] at h; subst h; exact ⟨Tryz.f158, A.impl_fresh, Tryz.func158, kn_impl_fresh⟩
  · cases h
theorem known_3 : Known Tryz.prog progA_3 := by
  intro f e h
  unfold progA_3 at h
  split at h
  · simp only [Option.some.injEq] at h; subst h; exact ⟨Tryz.f160, A.impl_write_1, Tryz.func160, kn_impl_write_1⟩
  · simp only [Option.some.injEq] at h; subst h; exact ⟨Tryz.f161, A.spec_l03Name, Tryz.func161, kn_spec_l03Name⟩
  · simp only [Option.some.injEq] at h; subst h; exact ⟨Tryz.f162, A.spec_l01Figure, Tryz.func162, kn_spec_l01Figure⟩
  · simp only [Option.some.injEq] at h; subst h; exact ⟨Tryz.f163, A.spec_PrefixOf, Tryz.func163, kn_spec_PrefixOf⟩
  · simp only [Option.some.injEq] at h; subst h; exact ⟨Tryz.f164, A.spec_l05Blank, Tryz.func164, kn_spec_l05Blank⟩
  · simp only [Option.some.injEq] at h; subst h; exact ⟨Tryz.f165, A.spec_l05Sign, Tryz.func165, kn_spec_l05Sign⟩
  · simp only [Option.some.injEq] at h; subst h; exact ⟨Tryz.f166, A.impl_isOp, Tryz.func166, kn_impl_isOp⟩
  · simp only [Option.some.injEq] at h; subst h; exact ⟨Tryz.f167, A.impl_AtomText, Tryz.func167, kn_impl_AtomText⟩
  · simp only [Option.some.injEq] at h; subst h; exact ⟨Tryz.f168, A.impl_isPair, Tryz.func168, kn_impl_isPair⟩
  · simp only [Option.some.injEq] at h; subst h; exact joinP_ok
  · simp only [Option.some.injEq] at h; subst h; exact ⟨Tryz.f173, A.spec_VarsOf, Tryz.func173, kn_spec_VarsOf⟩
  · simp only [Option.some.injEq] at h; subst h; exact ⟨Tryz.f176, A.spec_l11Named, Tryz.func176, kn_spec_l11Named⟩
  · simp only [Option.some.injEq] at h; subst h; exact ⟨Tryz.f177, A.slices_Contains_string_string, Tryz.func177, kn_slices_Contains_string_string⟩
  · simp only [Option.some.injEq] at h; subst h; exact ⟨Tryz.f181, A.impl_addVars, Tryz.func181, kn_impl_addVars⟩
  · simp only [Option.some.injEq] at h; subst h; exact ⟨Tryz.f183, A.impl_fresh_1, Tryz.func183, kn_impl_fresh_1⟩
  · simp only [Option.some.injEq] at h; subst h; exact ⟨Tryz.f184, A.slices_Index_int_int, Tryz.func184, kn_slices_Index_int_int⟩
  · simp only [Option.some.injEq] at h; subst h; exact ⟨Tryz.f186, A.spec_l05Small, Tryz.func186, kn_spec_l05Small⟩
  · simp only [Option.some.injEq] at h; subst h; exact ⟨Tryz.f187, A.spec_l05Great, Tryz.func187, kn_spec_l05Great⟩
  · simp only [Option.some.injEq] at h; subst h; exact ⟨Tryz.f188, A.spec_l05Run, Tryz.func188, kn_spec_l05Run⟩
  · simp only [Option.some.injEq] at h; subst h; exact ⟨Tryz.f189, A.spec_l05Figure, Tryz.func189, kn_spec_l05Figure⟩
  · simp only [Option.some.injEq] at h; subst h; exact ⟨Tryz.f190, A.spec_l05Quoted, Tryz.func190, kn_spec_l05Quoted⟩
  · simp only [Option.some.injEq] at h; subst h; exact ⟨Tryz.f191, A.spec_l05End, Tryz.func191, kn_spec_l05End⟩
  · simp only [Option.some.injEq] at h; subst h; exact ⟨Tryz.f192, A.spec_SymbolByte, Tryz.func192, kn_spec_SymbolByte⟩
  · simp only [Option.some.injEq] at h; subst h; exact ⟨Tryz.f193, A.impl_PrefixOf, Tryz.func193, kn_impl_PrefixOf⟩
  · simp only [Option.some.injEq] at h; subst h; exact ⟨Tryz.f194, A.impl_SignsOf, Tryz.func194, kn_impl_SignsOf⟩
  · simp only [Option.some.injEq] at h; subst h; exact ⟨Tryz.f200, A.spec_Control, Tryz.func200, kn_spec_Control⟩
  · simp only [Option.some.injEq] at h; subst h; exact ⟨Tryz.f201, A.spec_l03Vars, Tryz.func201, kn_spec_l03Vars⟩
  · simp only [Option.some.injEq] at h; subst h; exact ⟨Tryz.f205, A.spec_l03At, Tryz.func205, kn_spec_l03At⟩
  · simp only [Option.some.injEq] at h; subst h; exact ⟨Tryz.f206, A.slices_Index_string_string, Tryz.func206, kn_slices_Index_string_string⟩
  · simp only [Option.some.injEq] at h; subst h; exact ⟨Tryz.f209, A.slices_Contains_int_int, Tryz.func209, kn_slices_Contains_int_int⟩
  · simp only [Option.some.injEq] at h; subst h; exact ⟨Tryz.f210, A.spec_l05Word, Tryz.func210, kn_spec_l05Word⟩
  · simp only [Option.some.injEq] at h; subst h; exact ⟨Tryz.f211, A.impl_run, Tryz.func211, kn_impl_run⟩
  · simp only [Option.some.injEq] at h; subst h; exact ⟨Tryz.f212, A.impl_SignsOf_1, Tryz.func212, kn_impl_SignsOf_1⟩
  · cases h
theorem known_4 : Known Tryz.prog progA_4 := by
  intro f e h
  unfold progA_4 at h
  split at h
  · simp only [Option.some.injEq] at h; subst h; exact ⟨Tryz.f213, A.impl_nextSign, Tryz.func213, kn_impl_nextSign⟩
  · simp only [Option.some.injEq] at h; subst h; exact ⟨Tryz.f216, A.spec_l03Has, Tryz.func216, kn_spec_l03Has⟩
  · simp only [Option.some.injEq] at h; subst h; exact ⟨Tryz.f223, A.impl_endsHere, Tryz.func223, kn_impl_endsHere⟩
  · simp only [Option.some.injEq] at h; subst h; exact ⟨Tryz.f224, A.impl_lower, Tryz.func224, kn_impl_lower⟩
  · simp only [Option.some.injEq] at h; subst h; exact ⟨Tryz.f225, A.impl_upper, Tryz.func225, kn_impl_upper⟩
  · simp only [Option.some.injEq] at h; subst h; exact ⟨Tryz.f226, A.impl_wordByte, Tryz.func226, kn_impl_wordByte⟩
  · simp only [Option.some.injEq] at h; subst h; exact ⟨Tryz.f227, A.impl_figure, Tryz.func227, kn_impl_figure⟩
  · simp only [Option.some.injEq] at h; subst h; exact ⟨Tryz.f228, A.impl_SymbolByte, Tryz.func228, kn_impl_SymbolByte⟩
  · simp only [Option.some.injEq] at h; subst h; exact ixbP_ok
  · simp only [Option.some.injEq] at h; subst h; exact ⟨Tryz.f230, A.impl_nextSign_1, Tryz.func230, kn_impl_nextSign_1⟩
  · cases h
theorem known : Known Tryz.prog progA := by
  intro f e h
  unfold progA at h
  cases h0 : progA_0 f with
  | some x => rw [h0] at h; cases h; exact known_0 f e h0
  | none =>
  rw [h0] at h
  simp only at h
  cases h1 : progA_1 f with
  | some x => rw [h1] at h; cases h; exact known_1 f e h1
  | none =>
  rw [h1] at h
  simp only at h
  cases h2 : progA_2 f with
  | some x => rw [h2] at h; cases h; exact known_2 f e h2
  | none =>
  rw [h2] at h
  simp only at h
  cases h3 : progA_3 f with
  | some x => rw [h3] at h; cases h; exact known_3 f e h3
  | none =>
  rw [h3] at h
  simp only at h
  exact known_4 f e h
end Go.Vm
