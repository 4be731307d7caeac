import Derived.Test.YtimgahafdmacbaaT04
import Derived.Test.YtimgahafdmacbaaT07
import Derived.Test.YtimgahafdmacbaaProg
import Derived.KernelRfl
set_option autoImplicit false
set_option maxRecDepth 100000
set_option maxHeartbeats 8000000
namespace Go.Vm
open Go.Proofs
theorem kn_laws_FnExactIncludesIn:trFn Try.prog Try.f4 A.laws_FnExactIncludesIn=some A.laws_FnExactIncludesIn:=by kernel_rfl
theorem kn_impl_IncludesIn:trFn Try.prog Try.f13 A.impl_IncludesIn=some A.impl_IncludesIn:=by kernel_rfl
theorem kn_spec_IncludesIn:trFn Try.prog Try.f15 A.spec_IncludesIn=some A.spec_IncludesIn:=by kernel_rfl
theorem kn_laws_eqStringS:trFn Try.prog Try.f16 A.laws_eqStringS=some A.laws_eqStringS:=by kernel_rfl
theorem kn_laws_markStringS:trFn Try.prog Try.f17 A.laws_markStringS=some A.laws_markStringS:=by kernel_rfl
theorem kn_laws_heldStringS:trFn Try.prog Try.f18 A.laws_heldStringS=some A.laws_heldStringS:=by kernel_rfl
theorem kn_laws_szFileS:trFn Try.prog Try.f19 A.laws_szFileS=some A.laws_szFileS:=by kernel_rfl
theorem kn_laws_toFileS:trFn Try.prog Try.f21 A.laws_toFileS=some A.laws_toFileS:=by kernel_rfl
theorem kn_laws_eqFileS:trFn Try.prog Try.f22 A.laws_eqFileS=some A.laws_eqFileS:=by kernel_rfl
theorem kn_slices_Contains_string_string:trFn Try.prog Try.f27 A.slices_Contains_string_string=some A.slices_Contains_string_string:=by kernel_rfl
theorem kn_impl_ReadAll:trFn Try.prog Try.f33 A.impl_ReadAll=some A.impl_ReadAll:=by kernel_rfl
theorem kn_impl_isStruct:trFn Try.prog Try.f34 A.impl_isStruct=some A.impl_isStruct:=by kernel_rfl
theorem kn_impl_once:trFn Try.prog Try.f35 A.impl_once=some A.impl_once:=by kernel_rfl
theorem kn_spec_ReadAll:trFn Try.prog Try.f36 A.spec_ReadAll=some A.spec_ReadAll:=by kernel_rfl
theorem kn_spec_l03Is:trFn Try.prog Try.f37 A.spec_l03Is=some A.spec_l03Is:=by kernel_rfl
theorem kn_spec_l23Add:trFn Try.prog Try.f38 A.spec_l23Add=some A.spec_l23Add:=by kernel_rfl
theorem kn_laws_markText:trFn Try.prog Try.f39 A.laws_markText=some A.laws_markText:=by kernel_rfl
theorem kn_laws_szFile:trFn Try.prog Try.f40 A.laws_szFile=some A.laws_szFile:=by kernel_rfl
theorem kn_spec_l23Has:trFn Try.prog Try.f42 A.spec_l23Has=some A.spec_l23Has:=by kernel_rfl
theorem kn_laws_toFile:trFn Try.prog Try.f43 A.laws_toFile=some A.laws_toFile:=by kernel_rfl
theorem kn_laws_eqFile:trFn Try.prog Try.f44 A.laws_eqFile=some A.laws_eqFile:=by kernel_rfl
theorem kn_slices_Index_string_string:trFn Try.prog Try.f50 A.slices_Index_string_string=some A.slices_Index_string_string:=by kernel_rfl
theorem kn_impl_SignsOf:trFn Try.prog Try.f52 A.impl_SignsOf=some A.impl_SignsOf:=by kernel_rfl
theorem kn_impl_ReadSigns:trFn Try.prog Try.f53 A.impl_ReadSigns=some A.impl_ReadSigns:=by kernel_rfl
theorem kn_spec_SignsOf:trFn Try.prog Try.f54 A.spec_SignsOf=some A.spec_SignsOf:=by kernel_rfl
theorem kn_spec_ReadSigns:trFn Try.prog Try.f55 A.spec_ReadSigns=some A.spec_ReadSigns:=by kernel_rfl
theorem kn_impl_run:trFn Try.prog Try.f61 A.impl_run=some A.impl_run:=by kernel_rfl
theorem kn_impl_SignsOf_1:trFn Try.prog Try.f62 A.impl_SignsOf_1=some A.impl_SignsOf_1:=by kernel_rfl
theorem kn_impl_nextSign:trFn Try.prog Try.f63 A.impl_nextSign=some A.impl_nextSign:=by kernel_rfl
theorem kn_impl_within:trFn Try.prog Try.f64 A.impl_within=some A.impl_within:=by kernel_rfl
theorem kn_impl_parser_term:trFn Try.prog Try.f65 A.impl_parser_term=some A.impl_parser_term:=by kernel_rfl
theorem kn_impl_parser_sign:trFn Try.prog Try.f66 A.impl_parser_sign=some A.impl_parser_sign:=by kernel_rfl
theorem kn_impl_TermOk:trFn Try.prog Try.f67 A.impl_TermOk=some A.impl_TermOk:=by kernel_rfl
theorem kn_spec_l05Blank:trFn Try.prog Try.f68 A.spec_l05Blank=some A.spec_l05Blank:=by kernel_rfl
theorem kn_spec_l05Sign:trFn Try.prog Try.f69 A.spec_l05Sign=some A.spec_l05Sign:=by kernel_rfl
theorem kn_spec_l06Behind:trFn Try.prog Try.f70 A.spec_l06Behind=some A.spec_l06Behind:=by kernel_rfl
theorem kn_spec_l01In:trFn Try.prog Try.f71 A.spec_l01In=some A.spec_l01In:=by kernel_rfl
theorem kn_spec_l06Read_term:trFn Try.prog Try.f72 A.spec_l06Read_term=some A.spec_l06Read_term:=by kernel_rfl
theorem kn_spec_l06Read_is:trFn Try.prog Try.f73 A.spec_l06Read_is=some A.spec_l06Read_is:=by kernel_rfl
theorem kn_spec_TermOk:trFn Try.prog Try.f74 A.spec_TermOk=some A.spec_TermOk:=by kernel_rfl
theorem kn_impl_endsHere:trFn Try.prog Try.f78 A.impl_endsHere=some A.impl_endsHere:=by kernel_rfl
theorem kn_impl_lower:trFn Try.prog Try.f79 A.impl_lower=some A.impl_lower:=by kernel_rfl
theorem kn_impl_upper:trFn Try.prog Try.f80 A.impl_upper=some A.impl_upper:=by kernel_rfl
theorem kn_impl_wordByte:trFn Try.prog Try.f81 A.impl_wordByte=some A.impl_wordByte:=by kernel_rfl
theorem kn_impl_figure:trFn Try.prog Try.f82 A.impl_figure=some A.impl_figure:=by kernel_rfl
theorem kn_impl_SymbolByte:trFn Try.prog Try.f83 A.impl_SymbolByte=some A.impl_SymbolByte:=by kernel_rfl
theorem kn_impl_nextSign_1:trFn Try.prog Try.f85 A.impl_nextSign_1=some A.impl_nextSign_1:=by kernel_rfl
theorem kn_impl_parser_primary:trFn Try.prog Try.f86 A.impl_parser_primary=some A.impl_parser_primary:=by kernel_rfl
theorem kn_impl_InfixOf:trFn Try.prog Try.f87 A.impl_InfixOf=some A.impl_InfixOf:=by kernel_rfl
theorem kn_impl_structure:trFn Try.prog Try.f88 A.impl_structure=some A.impl_structure:=by kernel_rfl
theorem kn_impl_sized:trFn Try.prog Try.f89 A.impl_sized=some A.impl_sized:=by kernel_rfl
theorem kn_spec_l05Small:trFn Try.prog Try.f90 A.spec_l05Small=some A.spec_l05Small:=by kernel_rfl
theorem kn_spec_l05Great:trFn Try.prog Try.f91 A.spec_l05Great=some A.spec_l05Great:=by kernel_rfl
theorem kn_spec_l05Run:trFn Try.prog Try.f92 A.spec_l05Run=some A.spec_l05Run:=by kernel_rfl
theorem kn_spec_l05Figure:trFn Try.prog Try.f93 A.spec_l05Figure=some A.spec_l05Figure:=by kernel_rfl
theorem kn_spec_l05Quoted:trFn Try.prog Try.f94 A.spec_l05Quoted=some A.spec_l05Quoted:=by kernel_rfl
theorem kn_spec_l05End:trFn Try.prog Try.f95 A.spec_l05End=some A.spec_l05End:=by kernel_rfl
theorem kn_spec_SymbolByte:trFn Try.prog Try.f96 A.spec_SymbolByte=some A.spec_SymbolByte:=by kernel_rfl
theorem kn_spec_l06Read_primary:trFn Try.prog Try.f97 A.spec_l06Read_primary=some A.spec_l06Read_primary:=by kernel_rfl
theorem kn_spec_l06Read_infix:trFn Try.prog Try.f98 A.spec_l06Read_infix=some A.spec_l06Read_infix:=by kernel_rfl
theorem kn_spec_l03Two:trFn Try.prog Try.f99 A.spec_l03Two=some A.spec_l03Two:=by kernel_rfl
theorem kn_spec_l03Count:trFn Try.prog Try.f100 A.spec_l03Count=some A.spec_l03Count:=by kernel_rfl
theorem kn_spec_l03Right:trFn Try.prog Try.f101 A.spec_l03Right=some A.spec_l03Right:=by kernel_rfl
theorem kn_impl_PrefixOf:trFn Try.prog Try.f105 A.impl_PrefixOf=some A.impl_PrefixOf:=by kernel_rfl
theorem kn_impl_parser_mark:trFn Try.prog Try.f106 A.impl_parser_mark=some A.impl_parser_mark:=by kernel_rfl
theorem kn_impl_parser_terms:trFn Try.prog Try.f107 A.impl_parser_terms=some A.impl_parser_terms:=by kernel_rfl
theorem kn_impl_parser_isMark:trFn Try.prog Try.f108 A.impl_parser_isMark=some A.impl_parser_isMark:=by kernel_rfl
theorem kn_impl_atom:trFn Try.prog Try.f109 A.impl_atom=some A.impl_atom:=by kernel_rfl
theorem kn_impl_parser_listTerm:trFn Try.prog Try.f110 A.impl_parser_listTerm=some A.impl_parser_listTerm:=by kernel_rfl
theorem kn_impl_number:trFn Try.prog Try.f111 A.impl_number=some A.impl_number:=by kernel_rfl
theorem kn_impl_parser_variable:trFn Try.prog Try.f112 A.impl_parser_variable=some A.impl_parser_variable:=by kernel_rfl
theorem kn_impl_nameOk:trFn Try.prog Try.f113 A.impl_nameOk=some A.impl_nameOk:=by kernel_rfl
theorem kn_spec_l05Word:trFn Try.prog Try.f114 A.spec_l05Word=some A.spec_l05Word:=by kernel_rfl
theorem kn_spec_l03Name:trFn Try.prog Try.f115 A.spec_l03Name=some A.spec_l03Name:=by kernel_rfl
theorem kn_spec_l06Read_atom:trFn Try.prog Try.f116 A.spec_l06Read_atom=some A.spec_l06Read_atom:=by kernel_rfl
theorem kn_spec_l06Read_mark:trFn Try.prog Try.f117 A.spec_l06Read_mark=some A.spec_l06Read_mark:=by kernel_rfl
theorem kn_spec_l06Read_round:trFn Try.prog Try.f118 A.spec_l06Read_round=some A.spec_l06Read_round:=by kernel_rfl
theorem kn_spec_l06Read_row:trFn Try.prog Try.f119 A.spec_l06Read_row=some A.spec_l06Read_row:=by kernel_rfl
theorem kn_spec_l03Num:trFn Try.prog Try.f120 A.spec_l03Num=some A.spec_l03Num:=by kernel_rfl
theorem kn_spec_l06Read_variable:trFn Try.prog Try.f121 A.spec_l06Read_variable=some A.spec_l06Read_variable:=by kernel_rfl
theorem kn_spec_InfixOf:trFn Try.prog Try.f122 A.spec_InfixOf=some A.spec_InfixOf:=by kernel_rfl
theorem kn_spec_l03One:trFn Try.prog Try.f123 A.spec_l03One=some A.spec_l03One:=by kernel_rfl
theorem kn_impl_variable:trFn Try.prog Try.f125 A.impl_variable=some A.impl_variable:=by kernel_rfl
theorem kn_spec_l06Read_some:trFn Try.prog Try.f126 A.spec_l06Read_some=some A.spec_l06Read_some:=by kernel_rfl
theorem kn_spec_l06Read_near:trFn Try.prog Try.f127 A.spec_l06Read_near=some A.spec_l06Read_near:=by kernel_rfl
theorem kn_spec_PrefixOf:trFn Try.prog Try.f128 A.spec_PrefixOf=some A.spec_PrefixOf:=by kernel_rfl
theorem kn_spec_l03Atom:trFn Try.prog Try.f129 A.spec_l03Atom=some A.spec_l03Atom:=by kernel_rfl
theorem kn_spec_l06Read_wants:trFn Try.prog Try.f130 A.spec_l06Read_wants=some A.spec_l06Read_wants:=by kernel_rfl
theorem kn_spec_l03Var:trFn Try.prog Try.f131 A.spec_l03Var=some A.spec_l03Var:=by kernel_rfl
theorem known_0:Known Try.prog progA_0:=by
 intro f e h
 unfold progA_0 at h
 split at h
 ·simp only [Option.some.injEq]at h;subst h;exact ⟨Try.f4,A.laws_FnExactIncludesIn,Try.func4,kn_laws_FnExactIncludesIn⟩
 ·simp only [Option.some.injEq]at h;subst h;exact ⟨Try.f13,A.impl_IncludesIn,Try.func13,kn_impl_IncludesIn⟩
 ·simp only [Option.some.injEq]at h;subst h;exact ⟨Try.f15,A.spec_IncludesIn,Try.func15,kn_spec_IncludesIn⟩
 ·simp only [Option.some.injEq]at h;subst h;exact ⟨Try.f16,A.laws_eqStringS,Try.func16,kn_laws_eqStringS⟩
 ·simp only [Option.some.injEq]at h;subst h;exact ⟨Try.f17,A.laws_markStringS,Try.func17,kn_laws_markStringS⟩
 ·simp only [Option.some.injEq]at h;subst h;exact ⟨Try.f18,A.laws_heldStringS,Try.func18,kn_laws_heldStringS⟩
 ·simp only [Option.some.injEq]at h;subst h;exact ⟨Try.f19,A.laws_szFileS,Try.func19,kn_laws_szFileS⟩
 ·simp only [Option.some.injEq]at h;subst h;exact ⟨Try.f21,A.laws_toFileS,Try.func21,kn_laws_toFileS⟩
 ·simp only [Option.some.injEq]at h;subst h;exact ⟨Try.f22,A.laws_eqFileS,Try.func22,kn_laws_eqFileS⟩
 ·simp only [Option.some.injEq]at h;subst h;exact ⟨Try.f27,A.slices_Contains_string_string,Try.func27,kn_slices_Contains_string_string⟩
 ·simp only [Option.some.injEq]at h;subst h;exact ⟨Try.f33,A.impl_ReadAll,Try.func33,kn_impl_ReadAll⟩
 ·simp only [Option.some.injEq]at h;subst h;exact ⟨Try.f34,A.impl_isStruct,Try.func34,kn_impl_isStruct⟩
 ·simp only [Option.some.injEq]at h;subst h;exact ⟨Try.f35,A.impl_once,Try.func35,kn_impl_once⟩
 ·simp only [Option.some.injEq]at h;subst h;exact ⟨Try.f36,A.spec_ReadAll,Try.func36,kn_spec_ReadAll⟩
 ·simp only [Option.some.injEq]at h;subst h;exact ⟨Try.f37,A.spec_l03Is,Try.func37,kn_spec_l03Is⟩
 ·simp only [Option.some.injEq]at h;subst h;exact ⟨Try.f38,A.spec_l23Add,Try.func38,kn_spec_l23Add⟩
 ·simp only [Option.some.injEq]at h;subst h;exact ⟨Try.f39,A.laws_markText,Try.func39,kn_laws_markText⟩
 ·simp only [Option.some.injEq]at h;subst h;exact ⟨Try.f40,A.laws_szFile,Try.func40,kn_laws_szFile⟩
 ·simp only [Option.some.injEq]at h;subst h;exact ⟨Try.f42,A.spec_l23Has,Try.func42,kn_spec_l23Has⟩
 ·simp only [Option.some.injEq]at h;subst h;exact ⟨Try.f43,A.laws_toFile,Try.func43,kn_laws_toFile⟩
 ·simp only [Option.some.injEq]at h;subst h;exact ⟨Try.f44,A.laws_eqFile,Try.func44,kn_laws_eqFile⟩
 ·simp only [Option.some.injEq]at h;subst h;exact ⟨Try.f50,A.slices_Index_string_string,Try.func50,kn_slices_Index_string_string⟩
 ·simp only [Option.some.injEq]at h;subst h;exact ⟨Try.f52,A.impl_SignsOf,Try.func52,kn_impl_SignsOf⟩
 ·cases h
theorem known_1:Known Try.prog progA_1:=by
 intro f e h
 unfold progA_1 at h
 split at h
 ·simp only [Option.some.injEq]at h;subst h;exact ⟨Try.f53,A.impl_ReadSigns,Try.func53,kn_impl_ReadSigns⟩
 ·simp only [Option.some.injEq]at h;subst h;exact ⟨Try.f54,A.spec_SignsOf,Try.func54,kn_spec_SignsOf⟩
 ·simp only [Option.some.injEq]at h;subst h;exact ⟨Try.f55,A.spec_ReadSigns,Try.func55,kn_spec_ReadSigns⟩
 ·simp only [Option.some.injEq]at h;subst h;exact ⟨Try.f61,A.impl_run,Try.func61,kn_impl_run⟩
 ·simp only [Option.some.injEq]at h;subst h;exact ⟨Try.f62,A.impl_SignsOf_1,Try.func62,kn_impl_SignsOf_1⟩
 ·simp only [Option.some.injEq]at h;subst h;exact ⟨Try.f63,A.impl_nextSign,Try.func63,kn_impl_nextSign⟩
 ·simp only [Option.some.injEq]at h;subst h;exact ⟨Try.f64,A.impl_within,Try.func64,kn_impl_within⟩
 ·simp only [Option.some.injEq]at h;subst h;exact ⟨Try.f65,A.impl_parser_term,Try.func65,kn_impl_parser_term⟩
 ·simp only [Option.some.injEq]at h;subst h;exact ⟨Try.f66,A.impl_parser_sign,Try.func66,kn_impl_parser_sign⟩
 ·simp only [Option.some.injEq]at h;subst h;exact ⟨Try.f67,A.impl_TermOk,Try.func67,kn_impl_TermOk⟩
 ·simp only [Option.some.injEq]at h;subst h;exact ⟨Try.f68,A.spec_l05Blank,Try.func68,kn_spec_l05Blank⟩
 ·simp only [Option.some.injEq]at h;subst h;exact ⟨Try.f69,A.spec_l05Sign,Try.func69,kn_spec_l05Sign⟩
 ·simp only [Option.some.injEq]at h;subst h;exact ⟨Try.f70,A.spec_l06Behind,Try.func70,kn_spec_l06Behind⟩
 ·simp only [Option.some.injEq]at h;subst h;exact ⟨Try.f71,A.spec_l01In,Try.func71,kn_spec_l01In⟩
 ·simp only [Option.some.injEq]at h;subst h;exact ⟨Try.f72,A.spec_l06Read_term,Try.func72,kn_spec_l06Read_term⟩
 ·simp only [Option.some.injEq]at h;subst h;exact ⟨Try.f73,A.spec_l06Read_is,Try.func73,kn_spec_l06Read_is⟩
 ·simp only [Option.some.injEq]at h;subst h;exact ⟨Try.f74,A.spec_TermOk,Try.func74,kn_spec_TermOk⟩
 ·simp only [Option.some.injEq]at h;subst h;exact ⟨Try.f78,A.impl_endsHere,Try.func78,kn_impl_endsHere⟩
 ·simp only [Option.some.injEq]at h;subst h;exact ⟨Try.f79,A.impl_lower,Try.func79,kn_impl_lower⟩
 ·simp only [Option.some.injEq]at h;subst h;exact ⟨Try.f80,A.impl_upper,Try.func80,kn_impl_upper⟩
 ·simp only [Option.some.injEq]at h;subst h;exact ⟨Try.f81,A.impl_wordByte,Try.func81,kn_impl_wordByte⟩
 ·simp only [Option.some.injEq]at h;subst h;exact ⟨Try.f82,A.impl_figure,Try.func82,kn_impl_figure⟩
 ·simp only [Option.some.injEq]at h;subst h;exact ⟨Try.f83,A.impl_SymbolByte,Try.func83,kn_impl_SymbolByte⟩
 ·simp only [Option.some.injEq]at h;subst h;exact ixbP_ok
 ·simp only [Option.some.injEq]at h;subst h;exact ⟨Try.f85,A.impl_nextSign_1,Try.func85,kn_impl_nextSign_1⟩
 ·simp only [Option.some.injEq]at h;subst h;exact ⟨Try.f86,A.impl_parser_primary,Try.func86,kn_impl_parser_primary⟩
 ·simp only [Option.some.injEq]at h;subst h;exact ⟨Try.f87,A.impl_InfixOf,Try.func87,kn_impl_InfixOf⟩
 ·simp only [Option.some.injEq]at h;subst h;exact ⟨Try.f88,A.impl_structure,Try.func88,kn_impl_structure⟩
 ·simp only [Option.some.injEq]at h;subst h;exact ⟨Try.f89,A.impl_sized,Try.func89,kn_impl_sized⟩
 ·simp only [Option.some.injEq]at h;subst h;exact ⟨Try.f90,A.spec_l05Small,Try.func90,kn_spec_l05Small⟩
 ·simp only [Option.some.injEq]at h;subst h;exact ⟨Try.f91,A.spec_l05Great,Try.func91,kn_spec_l05Great⟩
 ·simp only [Option.some.injEq]at h;subst h;exact ⟨Try.f92,A.spec_l05Run,Try.func92,kn_spec_l05Run⟩
 ·simp only [Option.some.injEq]at h;subst h;exact ⟨Try.f93,A.spec_l05Figure,Try.func93,kn_spec_l05Figure⟩
 ·simp only [Option.some.injEq]at h;subst h;exact ⟨Try.f94,A.spec_l05Quoted,Try.func94,kn_spec_l05Quoted⟩
 ·simp only [Option.some.injEq]at h;subst h;exact ⟨Try.f95,A.spec_l05End,Try.func95,kn_spec_l05End⟩
 ·simp only [Option.some.injEq]at h;subst h;exact ⟨Try.f96,A.spec_SymbolByte,Try.func96,kn_spec_SymbolByte⟩
 ·simp only [Option.some.injEq]at h;subst h;exact ⟨Try.f97,A.spec_l06Read_primary,Try.func97,kn_spec_l06Read_primary⟩
 ·simp only [Option.some.injEq]at h;subst h;exact ⟨Try.f98,A.spec_l06Read_infix,Try.func98,kn_spec_l06Read_infix⟩
 ·simp only [Option.some.injEq]at h;subst h;exact ⟨Try.f99,A.spec_l03Two,Try.func99,kn_spec_l03Two⟩
 ·simp only [Option.some.injEq]at h;subst h;exact ⟨Try.f100,A.spec_l03Count,Try.func100,kn_spec_l03Count⟩
 ·simp only [Option.some.injEq]at h;subst h;exact ⟨Try.f101,A.spec_l03Right,Try.func101,kn_spec_l03Right⟩
 ·cases h
theorem known_2:Known Try.prog progA_2:=by
 intro f e h
 unfold progA_2 at h
 split at h
 ·simp only [Option.some.injEq]at h;subst h;exact ⟨Try.f105,A.impl_PrefixOf,Try.func105,kn_impl_PrefixOf⟩
 ·simp only [Option.some.injEq]at h;subst h;exact ⟨Try.f106,A.impl_parser_mark,Try.func106,kn_impl_parser_mark⟩
 ·simp only [Option.some.injEq]at h;subst h;exact ⟨Try.f107,A.impl_parser_terms,Try.func107,kn_impl_parser_terms⟩
 ·simp only [Option.some.injEq]at h;subst h;exact ⟨Try.f108,A.impl_parser_isMark,Try.func108,kn_impl_parser_isMark⟩
 ·simp only [Option.some.injEq]at h;subst h;exact ⟨Try.f109,A.impl_atom,Try.func109,kn_impl_atom⟩
 ·simp only [Option.some.injEq]at h;subst h;exact ⟨Try.f110,A.impl_parser_listTerm,Try.func110,kn_impl_parser_listTerm⟩
 ·simp only [Option.some.injEq]at h;subst h;exact ⟨Try.f111,A.impl_number,Try.func111,kn_impl_number⟩
 ·simp only [Option.some.injEq]at h;subst h;exact ⟨Try.f112,A.impl_parser_variable,Try.func112,kn_impl_parser_variable⟩
 ·simp only [Option.some.injEq]at h;subst h;exact ⟨Try.f113,A.impl_nameOk,Try.func113,kn_impl_nameOk⟩
 ·simp only [Option.some.injEq]at h;subst h;exact ⟨Try.f114,A.spec_l05Word,Try.func114,kn_spec_l05Word⟩
 ·simp only [Option.some.injEq]at h;subst h;exact ⟨Try.f115,A.spec_l03Name,Try.func115,kn_spec_l03Name⟩
 ·simp only [Option.some.injEq]at h;subst h;exact ⟨Try.f116,A.spec_l06Read_atom,Try.func116,kn_spec_l06Read_atom⟩
 ·simp only [Option.some.injEq]at h;subst h;exact ⟨Try.f117,A.spec_l06Read_mark,Try.func117,kn_spec_l06Read_mark⟩
 ·simp only [Option.some.injEq]at h;subst h;exact ⟨Try.f118,A.spec_l06Read_round,Try.func118,kn_spec_l06Read_round⟩
 ·simp only [Option.some.injEq]at h;subst h;exact ⟨Try.f119,A.spec_l06Read_row,Try.func119,kn_spec_l06Read_row⟩
 ·simp only [Option.some.injEq]at h;subst h;exact ⟨Try.f120,A.spec_l03Num,Try.func120,kn_spec_l03Num⟩
 ·simp only [Option.some.injEq]at h;subst h;exact ⟨Try.f121,A.spec_l06Read_variable,Try.func121,kn_spec_l06Read_variable⟩
 ·simp only [Option.some.injEq]at h;subst h;exact ⟨Try.f122,A.spec_InfixOf,Try.func122,kn_spec_InfixOf⟩
 ·simp only [Option.some.injEq]at h;subst h;exact ⟨Try.f123,A.spec_l03One,Try.func123,kn_spec_l03One⟩
 ·simp only [Option.some.injEq]at h;subst h;exact ⟨Try.f125,A.impl_variable,Try.func125,kn_impl_variable⟩
 ·simp only [Option.some.injEq]at h;subst h;exact ⟨Try.f126,A.spec_l06Read_some,Try.func126,kn_spec_l06Read_some⟩
 ·simp only [Option.some.injEq]at h;subst h;exact ⟨Try.f127,A.spec_l06Read_near,Try.func127,kn_spec_l06Read_near⟩
 ·simp only [Option.some.injEq]at h;subst h;exact ⟨Try.f128,A.spec_PrefixOf,Try.func128,kn_spec_PrefixOf⟩
 ·simp only [Option.some.injEq]at h;subst h;exact ⟨Try.f129,A.spec_l03Atom,Try.func129,kn_spec_l03Atom⟩
 ·simp only [Option.some.injEq]at h;subst h;exact ⟨Try.f130,A.spec_l06Read_wants,Try.func130,kn_spec_l06Read_wants⟩
 ·simp only [Option.some.injEq]at h;subst h;exact ⟨Try.f131,A.spec_l03Var,Try.func131,kn_spec_l03Var⟩
 ·cases h
theorem known:Known Try.prog progA:=by
 intro f e h
 unfold progA at h
 cases h0:progA_0 f with
 |some x=>rw [h0]at h;cases h;exact known_0 f e h0
 |none=>
 rw [h0]at h
 simp only at h
 cases h1:progA_1 f with
 |some x=>rw [h1]at h;cases h;exact known_1 f e h1
 |none=>
 rw [h1]at h
 simp only at h
 exact known_2 f e h
end Go.Vm
