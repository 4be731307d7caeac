/- The law FnExactShowClause answers true for every input of the bounded form; proved by an abstract machine that is sound for the model. -/
import Derived.Test.YtbbcakmmbnikjaaDoorT06
import Derived.Test.YtbbcakmmbnikjaaDoorT08

set_option autoImplicit false
set_option maxRecDepth 100000
set_option linter.unusedVariables false
set_option linter.unusedSimpArgs false
namespace Go.Proofs.YtbbcakmmbnikjaaDoor
open Go.Vm Go.RowKit Go.ChangeShapes
theorem laid_met_FnExactShowClause (os : Os) : laidMet Tryd.prog Rows.fnExactShowClauseUptoRow.laid ((laidWorld os).forCall (fun _ _ => 0) ⟨#[], #[.agg #[.int .i64 0, .string ⟨#[]⟩, .int .i64 0, .slice none 0 0, .int .i64 0, .string ⟨#[]⟩, .int .i64 0, .slice none 0 0, .string ⟨#[]⟩]], []⟩).memory :=
  laidMet_of_run' 8 (by kernel_rfl) (by kernel_rfl)
theorem reads_FnExactShowClause (os : Os) {H : Type} (enc : TypeId × Value → H) : ∃ places, DataW.whole enc Tryd.prog ((laidWorld os).forCall (fun _ _ => 0) ⟨#[], #[.agg #[.int .i64 0, .string ⟨#[]⟩, .int .i64 0, .slice none 0 0, .int .i64 0, .string ⟨#[]⟩, .int .i64 0, .slice none 0 0, .string ⟨#[]⟩]], []⟩).memory Tryd.f5.params.toList Rows.fnExactShowClauseSpec.vars false (#[.agg #[.int .i64 0, .string ⟨#[]⟩, .int .i64 0, .slice none 0 0, .int .i64 0, .string ⟨#[]⟩, .int .i64 0, .slice none 0 0, .string ⟨#[]⟩]] : Array Value).toList 8 = some ([.agg [.agg [.lit (.int .i64 0), .lit (.string []), .lit (.int .i64 0), .nil], .agg [.lit (.int .i64 0), .lit (.string []), .lit (.int .i64 0), .nil], .lit (.string [])]], [], places) :=
  ⟨[], by kernel_rfl⟩
theorem lifted_FnExactShowClause (os : Os) (started : os.Started) (H : Type) (enc : TypeId × Value → H) (F : Stop.Interp) :
    ReturnsInHanded {} Tryd.checked os 5 .any ((Rows.OpenSpec.upto Rows.fnExactShowClauseSpec).preRow enc Tryd.prog Tryd.f5 Rows.fnExactShowClauseUptoRow.domain false Rows.fnExactShowClauseUptoRow.laid) (((Rows.OpenSpec.upto Rows.fnExactShowClauseSpec).at F).post enc Tryd.prog Tryd.f5 false true false false) := by
  obtain ⟨places, hx⟩ := reads_FnExactShowClause os enc
  refine returnsInHanded_of_row (C := Tryd.checked) (s := Rows.OpenSpec.upto Rows.fnExactShowClauseSpec) Tryd.own started (by kernel_rfl) Tryd.func5
    (witness_row_at (enc := enc) (C := Tryd.checked) false (laidWorld os) #[.agg #[.int .i64 0, .string ⟨#[]⟩, .int .i64 0, .slice none 0 0, .int .i64 0, .string ⟨#[]⟩, .int .i64 0, .slice none 0 0, .string ⟨#[]⟩]] rfl (by kernel_rfl) (by kernel_rfl) (by kernel_rfl)
      (OpenSpec.preRow_of_cond 8 hx (by kernel_rfl) (fun k hk => by cases hk; kernel_rfl) (by kernel_rfl) (laid_met_FnExactShowClause os))) ?_
  intro W base args ds gs before hval hW _ hcond _ hL _ _
  have hk := hcond _ rfl
  have hW' := hW
  obtain ⟨p, q, hA, hV, hpq, hfz, hnd⟩ := hW
  obtain ⟨rfl, rfl⟩ : gs = [] ∧ q = [] := by
    cases gs with
    | nil => exact ⟨rfl, hV⟩
    | cons => exact hV.elim
  rw [List.append_nil] at hk
  have hb := small_le hk
  rw [Tryd.params5] at hA hval
  obtain ⟨v0, vs0, d0, ds0, p0, q0, hargs, rfl, rfl, a0, r⟩ := trodAll_cons hA
  obtain ⟨rfl, rfl, rfl⟩ := trodAll_nil r
  refine law_contract (P := Tryd.prog) known Tryd.laidOut Tryd.func5 rfl rfl (tb := 4) rfl Tryd.underlying4 (by kernel_rfl) rfl hW' (fun _ => rfl) (layIn hL) ?_
  simp only [bulkDs, Nat.add_zero] at hb
  obtain ⟨n0, xs0, hr0, hsh0, hbk0⟩ := arg_rd St_ok (t := 26) (by simp [St]) (hval 0 26 v0 rfl (by rw [← Array.getElem?_toList, hargs]; rfl)) a0
  obtain ⟨-, x0, hx0, hw0⟩ := (rd_Cl ⟨_, Tryd.underlying26, rfl⟩ (rd_term ⟨⟨_, Tryd.underlying24, rfl⟩, Tryd.underlying22, Tryd.underlying3, Tryd.underlying9⟩) (rd_term ⟨⟨_, Tryd.underlying24, rfl⟩, Tryd.underlying22, Tryd.underlying3, Tryd.underlying9⟩) (rd_str Tryd.underlying9)) n0 xs0 hsh0 (by unfold Lm; omega)
  rw [wrap_struct Tryd.underlying26] at hr0
  obtain ⟨outs, hc⟩ := law_ShowClause x0 hw0 _ hx0
  refine ⟨_, outs, ?_, hc⟩
  rw [hargs]
  simp only [RelL]
  exact ⟨v0, _, c0, c0, rfl, hr0, ⟨rfl, rfl⟩, rfl⟩
theorem said_FnExactShowClause : Rows.FnExactShowClauseUptoSaid :=
  OpenClaim.holds_of_cond 5 Tryd.f5 rfl rfl rfl rfl rfl rfl rfl ⟨rfl, rfl, rfl, rfl, rfl⟩ rfl rfl rfl rfl rfl (by kernel_rfl) Tryd.func5 (by kernel_rfl)
    (of_decide_eq_true (by kernel_rfl)) (by unfold Func.isWrapper; first | (rw [if_pos (by decide +kernel)]; kernel_rfl) | (rw [if_neg (by decide +kernel)]; exact ⟨rfl, rfl⟩))
    (fun os started H enc _ F => by rw [OpenClaim.pre_eq_preRow]; exact lifted_FnExactShowClause os started H enc F)
theorem plain_FnExactShowClause (f : FuncId) (fn : Func) (hf : Tryd.pinned.checked.prog.funcNamed "loop.example/g00469/laws.FnExactShowClause" = some f) (hfn : Tryd.pinned.checked.prog.funcs[f]? = some fn) :
    false = Tryd.pinned.checked.prog.looks [] ∧ ∀ (j : Nat) t, fn.params[j]? = some t → Tryd.pinned.checked.prog.wantsStandIn t = false := by
  obtain rfl : f = 5 := Option.some.inj ((show Tryd.prog.funcNamed "loop.example/g00469/laws.FnExactShowClause" = some 5 by kernel_rfl).symm.trans hf) |>.symm
  obtain rfl : fn = Tryd.f5 := (Option.some.inj (Tryd.func5.symm.trans hfn)).symm
  refine ⟨by kernel_rfl, fun j t ht => ?_⟩
  rw [Tryd.params5] at ht
  have hm : t ∈ [26] := by simpa using Array.mem_of_getElem? ht
  have hall : ([26].all fun u => !Tryd.prog.wantsStandIn u) = true := by kernel_rfl
  exact (show Tryd.prog.wantsStandIn t = false by simpa using List.all_eq_true.1 hall t hm)
theorem FnExactShowClause_holds : Rows.FnExactShowClauseUptoCardSaid :=
  Claim7.holds_tied_plain_at .later [] _ _ _ _ said_FnExactShowClause (fun _ h => by cases h) (by kernel_rfl) (fun _ h => by cases h) fnExactShowClauseUpto_row_tie rfl ⟨rfl, rfl⟩ (by kernel_rfl) rfl plain_FnExactShowClause (by kernel_rfl)
end Go.Proofs.YtbbcakmmbnikjaaDoor
