/- The law FnExactIncludesIn answers true for every input of the bounded form; proved by an abstract machine that is sound for the model. -/
import Derived.Test.YtimgahafdmacbaaT07
import Derived.Test.YtimgahafdmacbaaT09

set_option autoImplicit false
set_option maxRecDepth 100000
set_option linter.unusedVariables false
set_option linter.unusedSimpArgs false
namespace Go.Proofs.Ytimgahafdmacbaa
open Go.Vm Go.RowKit Go.ChangeShapes
theorem lifted_FnExactIncludesIn (os : Os) (started : os.Started) (H : Type) (enc : TypeId × Value → H) (F : Stop.Interp) :
    ReturnsInHanded {} Try.checked os 4 .any ((Rows.OpenSpec.upto Rows.fnExactIncludesInSpec).pre6 enc Try.prog Try.f4 Rows.fnExactIncludesInUptoRow.domain false) (((Rows.OpenSpec.upto Rows.fnExactIncludesInSpec).at F).post enc Try.prog Try.f4 false true false false) := by
  refine returnsInHanded_of_cond (C := Try.checked) (s := Rows.OpenSpec.upto Rows.fnExactIncludesInSpec) (k := Rows.uptoSmall) rfl Try.own started (by kernel_rfl) Try.func4
    (OpenSpec.witness (enc := enc) (C := Try.checked) (s := Rows.OpenSpec.upto Rows.fnExactIncludesInSpec) (k := Rows.uptoSmall) rfl false ⟨#[], #[.string ⟨#[]⟩], []⟩ 8 (by kernel_rfl) (by kernel_rfl) (by kernel_rfl)
      (x := ([.lit (.string [])], [], [])) (by kernel_rfl) rfl (by kernel_rfl)) ?_
  intro W base args ds gs before hval hW _ hk _
  have hW' := hW
  obtain ⟨p, q, hA, hV, hpq, hfz, hnd⟩ := hW
  obtain ⟨rfl, rfl⟩ : gs = [] ∧ q = [] := by
    cases gs with
    | nil => exact ⟨rfl, hV⟩
    | cons => exact hV.elim
  rw [List.append_nil] at hk
  have hb := small_le hk
  rw [Try.params4] at hA hval
  obtain ⟨v0, vs0, d0, ds0, p0, q0, hargs, rfl, rfl, a0, r⟩ := trodAll_cons hA
  obtain ⟨rfl, rfl, rfl⟩ := trodAll_nil r
  refine law_contract (P := Try.prog) known Try.laidOut Try.func4 rfl rfl (tb := 4) rfl Try.underlying4 (by kernel_rfl) rfl hW' (fun _ => rfl) ⟨fun _ h => h.elim, trivial⟩ ?_
  simp only [bulkDs, Nat.add_zero] at hb
  obtain ⟨n0, xs0, hr0, hsh0, hbk0⟩ := arg_rd St_ok (t := 9) (by simp [St]) (hval 0 9 v0 rfl (by rw [← Array.getElem?_toList, hargs]; rfl)) a0
  obtain ⟨-, x0, hx0, hw0⟩ := (rd_str Try.underlying9) n0 xs0 hsh0 (by unfold Lm; omega)
  obtain rfl := hx0
  rw [wrap_str Try.underlying9] at hr0
  obtain ⟨outs, hc⟩ := law_IncludesIn x0 hw0
  refine ⟨_, outs, ?_, hc⟩
  rw [hargs]
  simp only [RelL]
  exact ⟨v0, _, c0, c0, rfl, hr0, ⟨rfl, rfl⟩, rfl⟩

theorem FnExactIncludesIn_holds : Rows.FnExactIncludesInUptoSaid :=
  OpenClaim.holds_of_cond 4 Try.f4 rfl rfl rfl rfl rfl rfl rfl ⟨rfl, rfl, rfl, rfl, rfl⟩ rfl rfl rfl rfl rfl (by kernel_rfl) Try.func4 (by kernel_rfl)
    (of_decide_eq_true (by kernel_rfl)) (by unfold Func.isWrapper; first | (rw [if_pos (by decide +kernel)]; kernel_rfl) | (rw [if_neg (by decide +kernel)]; exact ⟨rfl, rfl⟩))
    (fun os started H enc _ F => lifted_FnExactIncludesIn os started H enc F)
end Go.Proofs.Ytimgahafdmacbaa
