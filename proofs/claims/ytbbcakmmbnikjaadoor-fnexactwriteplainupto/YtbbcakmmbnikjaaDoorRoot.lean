/- The law FnExactWritePlain answers true for every input of the bounded form; proved by an abstract machine that is sound for the model. -/
import Derived.Test.YtbbcakmmbnikjaaDoorT06
import Derived.Test.YtbbcakmmbnikjaaDoorT08

set_option autoImplicit false
set_option maxRecDepth 100000
set_option linter.unusedVariables false
set_option linter.unusedSimpArgs false
namespace Go.Proofs.YtbbcakmmbnikjaaDoor
open Go.Vm Go.RowKit Go.ChangeShapes
theorem laid_met_FnExactWritePlain (os : Os) : laidMet Tryd.prog Rows.fnExactWritePlainUptoRow.laid ((laidWorld os).forCall (fun _ _ => 0) ⟨#[], #[.agg #[.int .i64 0, .string ⟨#[]⟩, .int .i64 0, .slice none 0 0]], []⟩).memory :=
  laidMet_of_run' 8 (by kernel_rfl) (by kernel_rfl)
theorem reads_FnExactWritePlain (os : Os) {H : Type} (enc : TypeId × Value → H) : ∃ places, DataW.whole enc Tryd.prog ((laidWorld os).forCall (fun _ _ => 0) ⟨#[], #[.agg #[.int .i64 0, .string ⟨#[]⟩, .int .i64 0, .slice none 0 0]], []⟩).memory Tryd.f6.params.toList Rows.fnExactWritePlainSpec.vars false (#[.agg #[.int .i64 0, .string ⟨#[]⟩, .int .i64 0, .slice none 0 0]] : Array Value).toList 8 = some ([.agg [.lit (.int .i64 0), .lit (.string []), .lit (.int .i64 0), .nil]], [], places) :=
  ⟨[], by kernel_rfl⟩
theorem lifted_FnExactWritePlain (os : Os) (started : os.Started) (H : Type) (enc : TypeId × Value → H) (F : Stop.Interp) :
    ReturnsInHanded {} Tryd.checked os 6 .any ((Rows.OpenSpec.upto Rows.fnExactWritePlainSpec).preRow enc Tryd.prog Tryd.f6 Rows.fnExactWritePlainUptoRow.domain false Rows.fnExactWritePlainUptoRow.laid) (((Rows.OpenSpec.upto Rows.fnExactWritePlainSpec).at F).post enc Tryd.prog Tryd.f6 false true false false) := by
  obtain ⟨places, hx⟩ := reads_FnExactWritePlain os enc
  refine returnsInHanded_of_row (C := Tryd.checked) (s := Rows.OpenSpec.upto Rows.fnExactWritePlainSpec) Tryd.own started (by kernel_rfl) Tryd.func6
    (witness_row_at (enc := enc) (C := Tryd.checked) false (laidWorld os) #[.agg #[.int .i64 0, .string ⟨#[]⟩, .int .i64 0, .slice none 0 0]] rfl (by kernel_rfl) (by kernel_rfl) (by kernel_rfl)
      (OpenSpec.preRow_of_cond 8 hx (by kernel_rfl) (fun k hk => by cases hk; kernel_rfl) (by kernel_rfl) (laid_met_FnExactWritePlain os))) ?_
  intro W base args ds gs before hval hW _ hcond _ hL _ _
  have hk := hcond _ rfl
  have hW' := hW
  obtain ⟨p, q, hA, hV, hpq, hfz, hnd⟩ := hW
  obtain ⟨rfl, rfl⟩ : gs = [] ∧ q = [] := by
    cases gs with
    | nil => exact ⟨rfl, hV⟩
    | cons => exact hV.elim
  rw [List.append_nil] at hk
  have hb := small_le hk
  rw [Tryd.params6] at hA hval
  obtain ⟨v0, vs0, d0, ds0, p0, q0, hargs, rfl, rfl, a0, r⟩ := trodAll_cons hA
  obtain ⟨rfl, rfl, rfl⟩ := trodAll_nil r
  refine law_contract (P := Tryd.prog) known Tryd.laidOut Tryd.func6 rfl rfl (tb := 4) rfl Tryd.underlying4 (by kernel_rfl) rfl hW' (fun _ => rfl) (layIn hL) ?_
  simp only [bulkDs, Nat.add_zero] at hb
  obtain ⟨n0, xs0, hr0, hsh0, hbk0⟩ := arg_rd St_ok (t := 24) (by simp [St]) (hval 0 24 v0 rfl (by rw [← Array.getElem?_toList, hargs]; rfl)) a0
  obtain ⟨-, x0, hx0, hw0⟩ := (rd_term ⟨⟨_, Tryd.underlying24, rfl⟩, Tryd.underlying22, Tryd.underlying3, Tryd.underlying9⟩) n0 xs0 hsh0 (by unfold Lm; omega)
  rw [wrap_struct Tryd.underlying24] at hr0
  obtain ⟨outs, hc⟩ := law_WritePlain x0 hw0 _ hx0
  refine ⟨_, outs, ?_, hc⟩
  rw [hargs]
  simp only [RelL]
  exact ⟨v0, _, c0, c0, rfl, hr0, ⟨rfl, rfl⟩, rfl⟩
theorem said_FnExactWritePlain : Rows.FnExactWritePlainUptoSaid :=
  OpenClaim.holds_of_cond 6 Tryd.f6 rfl rfl rfl rfl rfl rfl rfl ⟨rfl, rfl, rfl, rfl, rfl⟩ rfl rfl rfl rfl rfl (by kernel_rfl) Tryd.func6 (by kernel_rfl)
    (of_decide_eq_true (by kernel_rfl)) (by unfold Func.isWrapper; first | (rw [if_pos (by decide +kernel)]; kernel_rfl) | (rw [if_neg (by decide +kernel)]; exact ⟨rfl, rfl⟩))
    (fun os started H enc _ F => by rw [OpenClaim.pre_eq_preRow]; exact lifted_FnExactWritePlain os started H enc F)
theorem plain_FnExactWritePlain (f : FuncId) (fn : Func) (hf : Tryd.pinned.checked.prog.funcNamed "loop.example/g00469/laws.FnExactWritePlain" = some f) (hfn : Tryd.pinned.checked.prog.funcs[f]? = some fn) :
    false = Tryd.pinned.checked.prog.looks [] ∧ ∀ (j : Nat) t, fn.params[j]? = some t → Tryd.pinned.checked.prog.wantsStandIn t = false := by
  obtain rfl : f = 6 := Option.some.inj ((show Tryd.prog.funcNamed "loop.example/g00469/laws.FnExactWritePlain" = some 6 by kernel_rfl).symm.trans hf) |>.symm
  obtain rfl : fn = Tryd.f6 := (Option.some.inj (Tryd.func6.symm.trans hfn)).symm
  refine ⟨by kernel_rfl, fun j t ht => ?_⟩
  rw [Tryd.params6] at ht
  have hm : t ∈ [24] := by simpa using Array.mem_of_getElem? ht
  have hall : ([24].all fun u => !Tryd.prog.wantsStandIn u) = true := by kernel_rfl
  exact (show Tryd.prog.wantsStandIn t = false by simpa using List.all_eq_true.1 hall t hm)
theorem FnExactWritePlain_holds : Rows.FnExactWritePlainUptoCardSaid :=
  Claim7.holds_tied_plain_at .later [] _ _ _ _ said_FnExactWritePlain (fun _ h => by cases h) (by kernel_rfl) (fun _ h => by cases h) fnExactWritePlainUpto_row_tie rfl ⟨rfl, rfl⟩ (by kernel_rfl) rfl plain_FnExactWritePlain (by kernel_rfl)
end Go.Proofs.YtbbcakmmbnikjaaDoor
