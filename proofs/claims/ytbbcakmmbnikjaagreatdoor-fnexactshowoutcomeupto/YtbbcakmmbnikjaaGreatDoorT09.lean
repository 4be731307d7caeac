import Derived.Test.YtbbcakmmbnikjaaGreatDoorT08
import Derived.Test.YtbbcakmmbnikjaaGreatDoorT07
import Derived.Test.YtbbcakmmbnikjaaGreatDoorRows
import Derived.Test.YtbbcakmmbnikjaaGreatDoorCards
import Derived.Test.YtbbcakmmbnikjaaGreatDoorTie
import Derived.JoinedCond
import Derived.Deep.DeepHandedRow
import Derived.Lib.LaidTab
import Derived.Stop.LaidErr

set_option autoImplicit false
set_option maxRecDepth 100000
set_option linter.unusedVariables false
set_option linter.unusedSimpArgs false
namespace Go.Proofs.YtbbcakmmbnikjaaGreatDoor
open Go.Vm Go.RowKit Go.ChangeShapes
theorem Tryz.own : ownKnob Tryz.prog.godebug = none := by kernel_rfl
theorem Tryz.laidOut : laidOutB Tryz.prog = true := by kernel_rfl
def St : List TypeId := [3, 9, 22, 23, 25, 34, 36, 38, 50]
theorem St_ok : ∀ t ∈ St, okTy Tryz.prog St t = true := by
  have h : St.all (okTy Tryz.prog St) = true := by kernel_rfl
  exact fun t ht => List.all_eq_true.1 h t ht
mutual
theorem bulk_eq {H : Type} : ∀ (d : DataW H), bulkD d ≤ Rows.uptoBulk d
  | .lit (.string b) => by simp [bulkD, Rows.uptoBulk]
  | .lit (.bool b) => by simp [bulkD, Rows.uptoBulk]
  | .lit (.int k b) => by simp [bulkD, Rows.uptoBulk]
  | .lit (.float k b) => by simp [bulkD, Rows.uptoBulk]
  | .lit .nil => by simp [bulkD, Rows.uptoBulk]
  | .nil => by simp [bulkD, Rows.uptoBulk]
  | .ptr d => by simp only [bulkD, Rows.uptoBulk]; have := bulk_eq d; omega
  | .slice es sp => by simp only [bulkD, Rows.uptoBulk]; have := bulks_eq es; have := bulks_eq sp; omega
  | .agg ps => by simp only [bulkD, Rows.uptoBulk]; have := bulks_eq ps; omega
  | .iface t d => by simp only [bulkD, Rows.uptoBulk]; omega
  | .map es => by simp only [bulkD, Rows.uptoBulk]; omega
  | .held h => by simp [bulkD, Rows.uptoBulk]
theorem bulks_eq {H : Type} : ∀ (ds : List (DataW H)), bulkDs ds ≤ Rows.uptoBulkAll ds
  | [] => by simp [bulkDs, Rows.uptoBulkAll]
  | d :: ds => by simp only [bulkDs, Rows.uptoBulkAll]; have := bulk_eq d; have := bulks_eq ds; omega
end
theorem small_le {H : Type} {ds : List (DataW H)} (h : Rows.uptoSmall H ds = true) : bulkDs ds ≤ 1048576 := Nat.le_trans (bulks_eq ds) (of_decide_eq_true h)
def setC (xs : Array Value) : Obj → Obj
  | .cells _ t frozen => .cells xs t frozen
  | o => o
def tab_laid_math_bits_deBruijn32tab : Array Value := #[.int .u8 0, .int .u8 1, .int .u8 28, .int .u8 2, .int .u8 29, .int .u8 14, .int .u8 24, .int .u8 3, .int .u8 30, .int .u8 22, .int .u8 20, .int .u8 15, .int .u8 25, .int .u8 17, .int .u8 4, .int .u8 8, .int .u8 31, .int .u8 27, .int .u8 13, .int .u8 23, .int .u8 21, .int .u8 19, .int .u8 16, .int .u8 7, .int .u8 26, .int .u8 12, .int .u8 18, .int .u8 6, .int .u8 11, .int .u8 5, .int .u8 10, .int .u8 9]
def tab_laid_math_bits_deBruijn64tab : Array Value := #[.int .u8 0, .int .u8 1, .int .u8 56, .int .u8 2, .int .u8 57, .int .u8 49, .int .u8 28, .int .u8 3, .int .u8 61, .int .u8 58, .int .u8 42, .int .u8 50, .int .u8 38, .int .u8 29, .int .u8 17, .int .u8 4, .int .u8 62, .int .u8 47, .int .u8 59, .int .u8 36, .int .u8 45, .int .u8 43, .int .u8 51, .int .u8 22, .int .u8 53, .int .u8 39, .int .u8 33, .int .u8 30, .int .u8 24, .int .u8 18, .int .u8 12, .int .u8 5, .int .u8 63, .int .u8 55, .int .u8 48, .int .u8 27, .int .u8 60, .int .u8 41, .int .u8 37, .int .u8 16, .int .u8 46, .int .u8 35, .int .u8 44, .int .u8 21, .int .u8 52, .int .u8 32, .int .u8 23, .int .u8 11, .int .u8 54, .int .u8 26, .int .u8 40, .int .u8 15, .int .u8 34, .int .u8 20, .int .u8 31, .int .u8 10, .int .u8 25, .int .u8 14, .int .u8 19, .int .u8 9, .int .u8 13, .int .u8 8, .int .u8 7, .int .u8 6]
def tab_laid_internal_strconv_uint64pow10 : Array Value := #[.int .u64 1, .int .u64 10, .int .u64 100, .int .u64 1000, .int .u64 10000, .int .u64 100000, .int .u64 1000000, .int .u64 10000000, .int .u64 100000000, .int .u64 1000000000, .int .u64 10000000000, .int .u64 100000000000, .int .u64 1000000000000, .int .u64 10000000000000, .int .u64 100000000000000, .int .u64 1000000000000000, .int .u64 10000000000000000, .int .u64 100000000000000000, .int .u64 1000000000000000000, .int .u64 10000000000000000000]
noncomputable def laidWorld (os : Os) : World :=
  { World.holding Tryz.prog os ⟨#[], #[], []⟩ with heap := ((((World.holding Tryz.prog os ⟨#[], #[], []⟩).heap).modify 2 (setC tab_laid_math_bits_deBruijn32tab)).modify 3 (setC tab_laid_math_bits_deBruijn64tab)).modify 0 (setC tab_laid_internal_strconv_uint64pow10) }
theorem pow_dat : (Rows.laid_internal_strconv_uint64pow10 : DataW Unit) = Lib.tabData .u64 Lib.pow10Tab := by kernel_rfl
theorem glob_pow : Tryz.prog.globalNamed "internal/strconv.uint64pow10" = some 0 := by kernel_rfl
theorem type_pow : (Tryz.prog.globals[0]?).map (·.type) = some 195 := by kernel_rfl
theorem cells_pow : Tryz.prog.cellsOf 195 = 20 := by kernel_rfl
theorem cell_pow : Tryz.prog.cellsOf 184 = 1 := by kernel_rfl
theorem layIn {W : World} (h0 : laidMetH Tryz.prog [("math/bits.deBruijn32tab", Rows.laid_math_bits_deBruijn32tab), ("math/bits.deBruijn64tab", Rows.laid_math_bits_deBruijn64tab), ("internal/strconv.uint64pow10", Rows.laid_internal_strconv_uint64pow10)] W) : LayIn W := by
  have h : laidMet Tryz.prog [("math/bits.deBruijn32tab", Rows.laid_math_bits_deBruijn32tab), ("math/bits.deBruijn64tab", Rows.laid_math_bits_deBruijn64tab), ("internal/strconv.uint64pow10", Rows.laid_internal_strconv_uint64pow10)] W := h0
  have h3 := (laidMet.tail (laidMet.tail h))
  rw [pow_dat] at h3
  have ht : Lib.TabIs Tryz.prog W "internal/strconv.uint64pow10" .u64 Lib.pow10Tab := Lib.tabIs_of_head (rest := _) glob_pow type_pow Tryz.underlying195 Tryz.underlying184 cell_pow cells_pow h3
  refine ⟨?_, ht⟩
  rintro b rfl
  unfold Lib.TabIs World.var? at ht
  rw [glob_pow] at ht
  simp only [Option.bind_some] at ht
  show 0 < W.heap.size
  cases hb : W.heap[0]? with
  | none => rw [hb] at ht; cases ht
  | some x => exact (Array.getElem?_eq_some_iff.1 hb).1
end Go.Proofs.YtbbcakmmbnikjaaGreatDoor
