import Derived.Test.YtehgffojgiefaaaRKn
import Derived.Test.YtehgffojgiefaaaRRd
import Derived.Test.YtehgffojgiefaaaRows
import Derived.JoinedCond
set_option autoImplicit false
set_option maxRecDepth 100000
set_option linter.unusedVariables false
set_option linter.unusedSimpArgs false
namespace Go.Proofs.Ytehgffojgiefaaa
open Go.Vm Go.RowKit Go.ChangeShapes
theorem Try.own : ownKnob Try.prog.godebug = none := by kernel_rfl
theorem Try.laidOut : laidOutB Try.prog = true := by kernel_rfl
def St : List TypeId := [3, 9, 22, 24, 34, 43, 44, 45, 47, 49, 104]
theorem St_ok : ∀ t ∈ St, okTy Try.prog St t = true := by
  have h : St.all (okTy Try.prog St) = true := by kernel_rfl
  exact fun t ht => List.all_eq_true.1 h t ht
mutual
theorem bulk_eq {H : Type} : ∀ (d : DataW H), bulkD d ≤ Rows.uptoBulk d
  | .lit (.string b) => by simp [bulkD, Rows.uptoBulk]
  | .lit (.bool b) => by simp [bulkD, Rows.uptoBulk]
  | .lit (.int k b) => by simp [bulkD, Rows.uptoBulk]
  | .lit (.float k b) => by simp [bulkD, Rows.uptoBulk]
  | .lit .nil => by simp [bulkD, Rows.uptoBulk]
  | .nil => by simp [bulkD, Rows.uptoBulk]
  | .ptr d => by simp only [bulkD, Rows.uptoBulk]; have := bulk_eq d; omega
  | .slice es sp => by simp only [bulkD, Rows.uptoBulk]; have := bulks_eq es; have := bulks_eq sp; omega
  | .agg ps => by simp only [bulkD, Rows.uptoBulk]; have := bulks_eq ps; omega
  | .iface t d => by simp only [bulkD, Rows.uptoBulk]; omega
  | .map es => by simp only [bulkD, Rows.uptoBulk]; omega
  | .held h => by simp [bulkD, Rows.uptoBulk]
theorem bulks_eq {H : Type} : ∀ (ds : List (DataW H)), bulkDs ds ≤ Rows.uptoBulkAll ds
  | [] => by simp [bulkDs, Rows.uptoBulkAll]
  | d :: ds => by simp only [bulkDs, Rows.uptoBulkAll]; have := bulk_eq d; have := bulks_eq ds; omega
end
theorem small_le {H : Type} {ds : List (DataW H)} (h : Rows.uptoSmall H ds = true) : bulkDs ds ≤ 1048576 := Nat.le_trans (bulks_eq ds) (of_decide_eq_true h)
end Go.Proofs.Ytehgffojgiefaaa
