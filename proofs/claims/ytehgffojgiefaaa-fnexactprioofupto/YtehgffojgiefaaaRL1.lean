/- The law FnExactPrioOf answers true for every input of the bounded form; proved by an abstract machine that is sound for the model. -/
import Derived.Test.YtehgffojgiefaaaRP5
import Derived.Test.YtehgffojgiefaaaRKn
import Derived.Test.YtehgffojgiefaaaVmTop
import Derived.Test.YtehgffojgiefaaaRows
import Derived.JoinedCond
set_option autoImplicit false
set_option maxRecDepth 100000
set_option linter.unusedVariables false
namespace Go.Proofs.Ytehgffojgiefaaa
open Go.Vm Go.RowKit Go.ChangeShapes
theorem Try.own : ownKnob Try.prog.godebug = none := by kernel_rfl
theorem Try.laidOut : laidOutB Try.prog = true := by kernel_rfl
def St : List TypeId := [3, 9, 22, 24, 34, 43, 44, 45, 47, 49, 104]
theorem St_ok : ∀ t ∈ St, okTy Try.prog St t = true := by
  have h : St.all (okTy Try.prog St) = true := by kernel_rfl
  exact fun t ht => List.all_eq_true.1 h t ht
theorem ty_term : TyTerm Try.prog 24 22 3 9 := ⟨⟨_, Try.underlying24, rfl⟩, Try.underlying22, Try.underlying3, Try.underlying9⟩
mutual
theorem bulk_eq {H : Type} : ∀ (d : DataW H), bulkD d ≤ Rows.uptoBulk d
  | .lit (.string b) => by simp [bulkD, Rows.uptoBulk]
  | .lit (.bool b) => by simp [bulkD, Rows.uptoBulk]
  | .lit (.int k b) => by simp [bulkD, Rows.uptoBulk]
  | .lit (.float k b) => by simp [bulkD, Rows.uptoBulk]
  | .lit .nil => by simp [bulkD, Rows.uptoBulk]
  | .nil => by simp [bulkD, Rows.uptoBulk]
  | .ptr d => by simp only [bulkD, Rows.uptoBulk]; have := bulk_eq d; omega
  | .slice es sp => by simp only [bulkD, Rows.uptoBulk]; have := bulks_eq es; have := bulks_eq sp; omega
  | .agg ps => by simp only [bulkD, Rows.uptoBulk]; have := bulks_eq ps; omega
  | .iface t d => by simp only [bulkD, Rows.uptoBulk]; omega
  | .map es => by simp only [bulkD, Rows.uptoBulk]; omega
  | .held h => by simp [bulkD, Rows.uptoBulk]
theorem bulks_eq {H : Type} : ∀ (ds : List (DataW H)), bulkDs ds ≤ Rows.uptoBulkAll ds
  | [] => by simp [bulkDs, Rows.uptoBulkAll]
  | d :: ds => by simp only [bulkDs, Rows.uptoBulkAll]; have := bulk_eq d; have := bulks_eq ds; omega
end
theorem small_le {H : Type} {ds : List (DataW H)} (h : Rows.uptoSmall H ds = true) : bulkDs ds ≤ 1048576 := Nat.le_trans (bulks_eq ds) (of_decide_eq_true h)

set_option maxRecDepth 100000 in
theorem lifted_FnExactPrioOf (os : Os) (started : os.Started) (H : Type) (enc : TypeId × Value → H) (F : Stop.Interp) :
    ReturnsInHanded {} Try.checked os 3 .any ((Rows.OpenSpec.upto Rows.fnExactPrioOfSpec).pre6 enc Try.prog Try.f3 Rows.fnExactPrioOfUptoRow.domain false) (((Rows.OpenSpec.upto Rows.fnExactPrioOfSpec).at F).post enc Try.prog Try.f3 false true false false) := by
  refine returnsInHanded_of_cond (C := Try.checked) (s := Rows.OpenSpec.upto Rows.fnExactPrioOfSpec) (k := Rows.uptoSmall) rfl Try.own started (by kernel_rfl) Try.func3
    (OpenSpec.witness (enc := enc) (C := Try.checked) (s := Rows.OpenSpec.upto Rows.fnExactPrioOfSpec) (k := Rows.uptoSmall) rfl false ⟨#[], #[.agg #[.int .i64 0, .string ⟨#[]⟩, .int .i64 0, .slice none 0 0]], []⟩ 8 (by kernel_rfl) (by kernel_rfl) (by kernel_rfl)
      (x := ([.agg [.lit (.int .i64 0), .lit (.string []), .lit (.int .i64 0), .nil]], [], [])) (by kernel_rfl) rfl (by kernel_rfl)) ?_
  intro W base args ds gs before hval hW _ hk _
  have hW' := hW
  obtain ⟨p, q, hA, hV, hpq, hfz, hnd⟩ := hW
  obtain ⟨rfl, rfl⟩ : gs = [] ∧ q = [] := by
    cases gs with
    | nil => exact ⟨rfl, hV⟩
    | cons => exact hV.elim
  rw [List.append_nil] at hk
  have hb := small_le hk
  refine law_contract (P := Try.prog) known Try.laidOut Try.func3 rfl rfl (tb := 4) rfl Try.underlying4 (by kernel_rfl) rfl hW' ?_ ?_
  · intro _
    rw [Try.params3] at hA
    obtain ⟨v0, vs0, d0, ds0, p0, q0, hargs, rfl, rfl, h0, r0⟩ := trodAll_cons hA
    obtain ⟨rfl, rfl, rfl⟩ := trodAll_nil r0
    rfl
  · rw [Try.params3] at hA hval
    obtain ⟨v0, vs0, d0, ds0, p0, q0, hargs, rfl, rfl, h0, r0⟩ := trodAll_cons hA
    obtain ⟨rfl, rfl, rfl⟩ := trodAll_nil r0
    obtain ⟨n, xs, hr, hsh, hbk⟩ := arg_rd St_ok (t := 24) (by simp [St]) (hval 0 24 v0 rfl (by rw [← Array.getElem?_toList, hargs]; rfl)) h0
    simp only [bulkDs, Nat.add_zero] at hb
    obtain ⟨-, t, hbt, hwt⟩ := shp_term ty_term n xs hsh (by unfold Lm; omega)
    rw [wrap_struct Try.underlying24] at hr
    obtain ⟨outs, hc⟩ := law_PrioOf t hwt _ hbt
    exact ⟨_, outs, by rw [hargs]; exact relL_one hr, hc⟩

theorem FnExactPrioOf_holds : Rows.FnExactPrioOfUptoSaid :=
  OpenClaim.holds_of_cond 3 Try.f3 rfl rfl rfl rfl rfl rfl rfl ⟨rfl, rfl, rfl, rfl, rfl⟩ rfl rfl rfl rfl rfl (by kernel_rfl) Try.func3 (by kernel_rfl)
    (of_decide_eq_true (by kernel_rfl)) (by unfold Func.isWrapper; first | (rw [if_pos (by decide +kernel)]; kernel_rfl) | (rw [if_neg (by decide +kernel)]; exact ⟨rfl, rfl⟩))
    (fun os started H enc _ F => lifted_FnExactPrioOf os started H enc F)
end Go.Proofs.Ytehgffojgiefaaa
