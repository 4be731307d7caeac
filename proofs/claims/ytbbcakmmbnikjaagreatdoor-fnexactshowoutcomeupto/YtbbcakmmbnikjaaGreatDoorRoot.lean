/- The law FnExactShowOutcome answers true for every input of the bounded form; proved by an abstract machine that is sound for the model. -/
import Derived.Test.YtbbcakmmbnikjaaGreatDoorT07
import Derived.Test.YtbbcakmmbnikjaaGreatDoorT09

set_option autoImplicit false
set_option maxRecDepth 100000
set_option linter.unusedVariables false
set_option linter.unusedSimpArgs false
namespace Go.Proofs.YtbbcakmmbnikjaaGreatDoor
open Go.Vm Go.RowKit Go.ChangeShapes
theorem laid_met_FnExactShowOutcome (os : Os) : laidMet Tryz.prog Rows.fnExactShowOutcomeUptoRow.laid ((laidWorld os).forCall (fun _ _ => 0) ⟨#[], #[.agg #[.slice none 0 0, .int .i64 0, .int .i64 0, .string ⟨#[]⟩, .int .i64 0, .slice none 0 0, .string ⟨#[]⟩, .slice none 0 0, .slice none 0 0, .int .i64 0]], []⟩).memory :=
  laidMet_of_run' 8 (by kernel_rfl) (by kernel_rfl)
theorem reads_FnExactShowOutcome (os : Os) {H : Type} (enc : TypeId × Value → H) : ∃ places, DataW.whole enc Tryz.prog ((laidWorld os).forCall (fun _ _ => 0) ⟨#[], #[.agg #[.slice none 0 0, .int .i64 0, .int .i64 0, .string ⟨#[]⟩, .int .i64 0, .slice none 0 0, .string ⟨#[]⟩, .slice none 0 0, .slice none 0 0, .int .i64 0]], []⟩).memory Tryz.f5.params.toList Rows.fnExactShowOutcomeSpec.vars false (#[.agg #[.slice none 0 0, .int .i64 0, .int .i64 0, .string ⟨#[]⟩, .int .i64 0, .slice none 0 0, .string ⟨#[]⟩, .slice none 0 0, .slice none 0 0, .int .i64 0]] : Array Value).toList 8 = some ([.agg [.nil, .lit (.int .i64 0), .agg [.lit (.int .i64 0), .lit (.string []), .lit (.int .i64 0), .nil], .lit (.string []), .agg [.nil, .nil], .lit (.int .i64 0)]], [], places) :=
  ⟨[], by kernel_rfl⟩
theorem lifted_FnExactShowOutcome (os : Os) (started : os.Started) (H : Type) (enc : TypeId × Value → H) (F : Stop.Interp) :
    ReturnsInHanded {} Tryz.checked os 5 .any ((Rows.OpenSpec.upto Rows.fnExactShowOutcomeSpec).preRow enc Tryz.prog Tryz.f5 Rows.fnExactShowOutcomeUptoRow.domain false Rows.fnExactShowOutcomeUptoRow.laid) (((Rows.OpenSpec.upto Rows.fnExactShowOutcomeSpec).at F).post enc Tryz.prog Tryz.f5 false true false false) := by
  obtain ⟨places, hx⟩ := reads_FnExactShowOutcome os enc
  refine returnsInHanded_of_row (C := Tryz.checked) (s := Rows.OpenSpec.upto Rows.fnExactShowOutcomeSpec) Tryz.own started (by kernel_rfl) Tryz.func5
    (witness_row_at (enc := enc) (C := Tryz.checked) false (laidWorld os) #[.agg #[.slice none 0 0, .int .i64 0, .int .i64 0, .string ⟨#[]⟩, .int .i64 0, .slice none 0 0, .string ⟨#[]⟩, .slice none 0 0, .slice none 0 0, .int .i64 0]] rfl (by kernel_rfl) (by kernel_rfl) (by kernel_rfl)
      (OpenSpec.preRow_of_cond 8 hx (by kernel_rfl) (fun k hk => by cases hk; kernel_rfl) (by kernel_rfl) (laid_met_FnExactShowOutcome os))) ?_
  intro W base args ds gs before hval hW _ hcond _ hL _ _
  have hk := hcond _ rfl
  have hW' := hW
  obtain ⟨p, q, hA, hV, hpq, hfz, hnd⟩ := hW
  obtain ⟨rfl, rfl⟩ : gs = [] ∧ q = [] := by
    cases gs with
    | nil => exact ⟨rfl, hV⟩
    | cons => exact hV.elim
  rw [List.append_nil] at hk
  have hb := small_le hk
  rw [Tryz.params5] at hA hval
  obtain ⟨v0, vs0, d0, ds0, p0, q0, hargs, rfl, rfl, a0, r⟩ := trodAll_cons hA
  obtain ⟨rfl, rfl, rfl⟩ := trodAll_nil r
  refine law_contract (P := Tryz.prog) known Tryz.laidOut Tryz.func5 rfl rfl (tb := 4) rfl Tryz.underlying4 (by kernel_rfl) rfl hW' (fun _ => rfl) (layIn hL) ?_
  simp only [bulkDs, Nat.add_zero] at hb
  obtain ⟨n0, xs0, hr0, hsh0, hbk0⟩ := arg_rd St_ok (t := 50) (by simp [St]) (hval 0 50 v0 rfl (by rw [← Array.getElem?_toList, hargs]; rfl)) a0
  obtain ⟨-, x0, hx0, hw0⟩ := (rd_Ou ⟨_, Tryz.underlying50, rfl⟩ (rd_list Tryz.underlying34 (rd_term ⟨⟨_, Tryz.underlying36, rfl⟩, Tryz.underlying34, Tryz.underlying3, Tryz.underlying9⟩) (wrap_A ⟨_, Tryz.underlying36⟩)) (rd_int Tryz.underlying3) (rd_term ⟨⟨_, Tryz.underlying36, rfl⟩, Tryz.underlying34, Tryz.underlying3, Tryz.underlying9⟩) (rd_str Tryz.underlying9) (rd_Db ⟨_, Tryz.underlying25, rfl⟩ (rd_list Tryz.underlying22 (rd_Cl ⟨_, Tryz.underlying38, rfl⟩ (rd_term ⟨⟨_, Tryz.underlying36, rfl⟩, Tryz.underlying34, Tryz.underlying3, Tryz.underlying9⟩) (rd_term ⟨⟨_, Tryz.underlying36, rfl⟩, Tryz.underlying34, Tryz.underlying3, Tryz.underlying9⟩) (rd_str Tryz.underlying9)) (wrap_A ⟨_, Tryz.underlying38⟩)) (rd_list Tryz.underlying23 (rd_str Tryz.underlying9) (wrap_S Tryz.underlying9))) (rd_int Tryz.underlying3)) n0 xs0 hsh0 (by unfold Lm; omega)
  rw [wrap_struct Tryz.underlying50] at hr0
  obtain ⟨outs, hc⟩ := law_ShowOutcome x0 hw0 _ hx0
  refine ⟨_, outs, ?_, hc⟩
  rw [hargs]
  simp only [RelL]
  exact ⟨v0, _, c0, c0, rfl, hr0, ⟨rfl, rfl⟩, rfl⟩
theorem said_FnExactShowOutcome : Rows.FnExactShowOutcomeUptoSaid :=
  OpenClaim.holds_of_cond 5 Tryz.f5 rfl rfl rfl rfl rfl rfl rfl ⟨rfl, rfl, rfl, rfl, rfl⟩ rfl rfl rfl rfl rfl (by kernel_rfl) Tryz.func5 (by kernel_rfl)
    (of_decide_eq_true (by kernel_rfl)) (by unfold Func.isWrapper; first | (rw [if_pos (by decide +kernel)]; kernel_rfl) | (rw [if_neg (by decide +kernel)]; exact ⟨rfl, rfl⟩))
    (fun os started H enc _ F => by rw [OpenClaim.pre_eq_preRow]; exact lifted_FnExactShowOutcome os started H enc F)
theorem plain_FnExactShowOutcome (f : FuncId) (fn : Func) (hf : Tryz.pinned.checked.prog.funcNamed "loop.example/g00469/laws.FnExactShowOutcome" = some f) (hfn : Tryz.pinned.checked.prog.funcs[f]? = some fn) :
    false = Tryz.pinned.checked.prog.looks [] ∧ ∀ (j : Nat) t, fn.params[j]? = some t → Tryz.pinned.checked.prog.wantsStandIn t = false := by
  obtain rfl : f = 5 := Option.some.inj ((show Tryz.prog.funcNamed "loop.example/g00469/laws.FnExactShowOutcome" = some 5 by kernel_rfl).symm.trans hf) |>.symm
  obtain rfl : fn = Tryz.f5 := (Option.some.inj (Tryz.func5.symm.trans hfn)).symm
  refine ⟨by kernel_rfl, fun j t ht => ?_⟩
  rw [Tryz.params5] at ht
  have hm : t ∈ [50] := by simpa using Array.mem_of_getElem? ht
  have hall : ([50].all fun u => !Tryz.prog.wantsStandIn u) = true := by kernel_rfl
  exact (show Tryz.prog.wantsStandIn t = false by simpa using List.all_eq_true.1 hall t hm)
theorem FnExactShowOutcome_holds : Rows.FnExactShowOutcomeUptoCardSaid :=
  Claim7.holds_tied_plain_at .later [] _ _ _ _ said_FnExactShowOutcome (fun _ h => by cases h) (by kernel_rfl) (fun _ h => by cases h) fnExactShowOutcomeUpto_row_tie rfl ⟨rfl, rfl⟩ (by kernel_rfl) rfl plain_FnExactShowOutcome (by kernel_rfl)
end Go.Proofs.YtbbcakmmbnikjaaGreatDoor
