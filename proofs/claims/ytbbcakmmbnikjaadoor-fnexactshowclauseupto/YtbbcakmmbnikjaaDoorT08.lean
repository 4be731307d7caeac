import Derived.Test.YtbbcakmmbnikjaaDoorT03
import Derived.Test.YtbbcakmmbnikjaaDoorT07
import Derived.Test.YtbbcakmmbnikjaaDoorRows
import Derived.Test.YtbbcakmmbnikjaaDoorCards
import Derived.Test.YtbbcakmmbnikjaaDoorTie
import Derived.JoinedCond
import Derived.Deep.DeepHandedRow
import Derived.Lib.LaidTab
import Derived.Stop.LaidErr

set_option autoImplicit false
set_option maxRecDepth 100000
set_option linter.unusedSimpArgs false
set_option linter.unusedVariables false
namespace Go.Vm
section
variable {P : Program}
theorem rd_Cl {tX t0 t1 t2 : TypeId} (hu : ∃ fs, P.underlying tX = some (.struct fs) ∧ fs.toList.map (·.type) = [t0, t1, t2]) (h0 : RdC P t0 (cA BT) wTm) (h1 : RdC P t1 (cA BT) wTm) (h2 : RdC P t2 cS wS) : RdC P tX (cA bCl) wCl := fun n xs h hb => by
  obtain ⟨fs, hu, hfs⟩ := hu
  obtain ⟨m, parts, rfl, rfl, hp⟩ := shp_struct hu h
  rw [hfs] at hp
  obtain ⟨p0, r0, rfl, s0, hp⟩ := shpF_cons hp
  obtain ⟨p1, r1, rfl, s1, hp⟩ := shpF_cons hp
  obtain ⟨p2, r2, rfl, s2, hp⟩ := shpF_cons hp
  obtain rfl := shpF_nil hp
  simp only [List.flatten_cons, List.flatten_nil, List.append_nil, bulkVs_append] at hb ⊢
  obtain ⟨b0, x0, c0, w0⟩ := h0 m p0 s0 (by omega)
  obtain ⟨b1, x1, c1, w1⟩ := h1 m p1 s1 (by omega)
  obtain ⟨b2, x2, c2, w2⟩ := h2 m p2 s2 (by omega)
  obtain ⟨τ0, vs0, e0, g0⟩ := BT_shape c0
  obtain rfl := V.a.inj e0
  obtain ⟨τ1, vs1, e1, g1⟩ := BT_shape c1
  obtain rfl := V.a.inj e1
  obtain rfl := c2
  exact ⟨by omega, ⟨x0, x1, x2⟩, ⟨τ0, vs0, τ1, vs1, rfl, g0, g1⟩, w0, w1, w2⟩
theorem rd_Db {tX t0 t1 : TypeId} (hu : ∃ fs, P.underlying tX = some (.struct fs) ∧ fs.toList.map (·.type) = [t0, t1]) (h0 : RdC P t0 (cL bCl) (wL wCl)) (h1 : RdC P t1 (cL RS) (wL wS)) : RdC P tX (cA bDb) wDb := fun n xs h hb => by
  obtain ⟨fs, hu, hfs⟩ := hu
  obtain ⟨m, parts, rfl, rfl, hp⟩ := shp_struct hu h
  rw [hfs] at hp
  obtain ⟨p0, r0, rfl, s0, hp⟩ := shpF_cons hp
  obtain ⟨p1, r1, rfl, s1, hp⟩ := shpF_cons hp
  obtain rfl := shpF_nil hp
  simp only [List.flatten_cons, List.flatten_nil, List.append_nil, bulkVs_append] at hb ⊢
  obtain ⟨b0, x0, c0, w0⟩ := h0 m p0 s0 (by omega)
  obtain ⟨b1, x1, c1, w1⟩ := h1 m p1 s1 (by omega)
  obtain ⟨vs0, rfl, g0⟩ := c0
  obtain ⟨vs1, rfl, g1⟩ := c1
  obtain rfl := RL_S g1
  exact ⟨by omega, ⟨x0, x1⟩, ⟨false, vs0, false, rfl, g0⟩, w0, w1⟩
theorem rd_Fl {tX t0 t1 : TypeId} (hu : ∃ fs, P.underlying tX = some (.struct fs) ∧ fs.toList.map (·.type) = [t0, t1]) (h0 : RdC P t0 cS wS) (h1 : RdC P t1 cS wS) : RdC P tX (cA bFl) wFl := fun n xs h hb => by
  obtain ⟨fs, hu, hfs⟩ := hu
  obtain ⟨m, parts, rfl, rfl, hp⟩ := shp_struct hu h
  rw [hfs] at hp
  obtain ⟨p0, r0, rfl, s0, hp⟩ := shpF_cons hp
  obtain ⟨p1, r1, rfl, s1, hp⟩ := shpF_cons hp
  obtain rfl := shpF_nil hp
  simp only [List.flatten_cons, List.flatten_nil, List.append_nil, bulkVs_append] at hb ⊢
  obtain ⟨b0, x0, c0, w0⟩ := h0 m p0 s0 (by omega)
  obtain ⟨b1, x1, c1, w1⟩ := h1 m p1 s1 (by omega)
  obtain rfl := c0
  obtain rfl := c1
  exact ⟨by omega, ⟨x0, x1⟩, rfl, w0, w1⟩
theorem rd_Se {tX t0 t1 t2 t3 : TypeId} (hu : ∃ fs, P.underlying tX = some (.struct fs) ∧ fs.toList.map (·.type) = [t0, t1, t2, t3]) (h0 : RdC P t0 (cL bFl) (wL wFl)) (h1 : RdC P t1 (cA bDb) wDb) (h2 : RdC P t2 (cL RS) (wL wS)) (h3 : RdC P t3 cS wS) : RdC P tX (cA bSe) wSe := fun n xs h hb => by
  obtain ⟨fs, hu, hfs⟩ := hu
  obtain ⟨m, parts, rfl, rfl, hp⟩ := shp_struct hu h
  rw [hfs] at hp
  obtain ⟨p0, r0, rfl, s0, hp⟩ := shpF_cons hp
  obtain ⟨p1, r1, rfl, s1, hp⟩ := shpF_cons hp
  obtain ⟨p2, r2, rfl, s2, hp⟩ := shpF_cons hp
  obtain ⟨p3, r3, rfl, s3, hp⟩ := shpF_cons hp
  obtain rfl := shpF_nil hp
  simp only [List.flatten_cons, List.flatten_nil, List.append_nil, bulkVs_append] at hb ⊢
  obtain ⟨b0, x0, c0, w0⟩ := h0 m p0 s0 (by omega)
  obtain ⟨b1, x1, c1, w1⟩ := h1 m p1 s1 (by omega)
  obtain ⟨b2, x2, c2, w2⟩ := h2 m p2 s2 (by omega)
  obtain ⟨b3, x3, c3, w3⟩ := h3 m p3 s3 (by omega)
  obtain ⟨vs0, rfl, g0⟩ := c0
  obtain ⟨τ0_1, vs0_1, τ1_1, e1, g1_0⟩ := c1
  obtain rfl := V.a.inj e1
  obtain ⟨vs2, rfl, g2⟩ := c2
  obtain rfl := RL_S g2
  obtain rfl := c3
  exact ⟨by omega, ⟨x0, x1, x2, x3⟩, ⟨false, vs0, τ0_1, vs0_1, τ1_1, false, rfl, g0, g1_0⟩, w0, w1, w2, w3⟩
end
end Go.Vm

set_option autoImplicit false
set_option maxRecDepth 100000
set_option linter.unusedVariables false
set_option linter.unusedSimpArgs false
namespace Go.Proofs.YtbbcakmmbnikjaaDoor
open Go.Vm Go.RowKit Go.ChangeShapes
theorem Tryd.own : ownKnob Tryd.prog.godebug = none := by kernel_rfl
theorem Tryd.laidOut : laidOutB Tryd.prog = true := by kernel_rfl
def St : List TypeId := [3, 9, 22, 24, 26]
theorem St_ok : ∀ t ∈ St, okTy Tryd.prog St t = true := by
  have h : St.all (okTy Tryd.prog St) = true := by kernel_rfl
  exact fun t ht => List.all_eq_true.1 h t ht
mutual
theorem bulk_eq {H : Type} : ∀ (d : DataW H), bulkD d ≤ Rows.uptoBulk d
  | .lit (.string b) => by simp [bulkD, Rows.uptoBulk]
  | .lit (.bool b) => by simp [bulkD, Rows.uptoBulk]
  | .lit (.int k b) => by simp [bulkD, Rows.uptoBulk]
  | .lit (.float k b) => by simp [bulkD, Rows.uptoBulk]
  | .lit .nil => by simp [bulkD, Rows.uptoBulk]
  | .nil => by simp [bulkD, Rows.uptoBulk]
  | .ptr d => by simp only [bulkD, Rows.uptoBulk]; have := bulk_eq d; omega
  | .slice es sp => by simp only [bulkD, Rows.uptoBulk]; have := bulks_eq es; have := bulks_eq sp; omega
  | .agg ps => by simp only [bulkD, Rows.uptoBulk]; have := bulks_eq ps; omega
  | .iface t d => by simp only [bulkD, Rows.uptoBulk]; omega
  | .map es => by simp only [bulkD, Rows.uptoBulk]; omega
  | .held h => by simp [bulkD, Rows.uptoBulk]
theorem bulks_eq {H : Type} : ∀ (ds : List (DataW H)), bulkDs ds ≤ Rows.uptoBulkAll ds
  | [] => by simp [bulkDs, Rows.uptoBulkAll]
  | d :: ds => by simp only [bulkDs, Rows.uptoBulkAll]; have := bulk_eq d; have := bulks_eq ds; omega
end
theorem small_le {H : Type} {ds : List (DataW H)} (h : Rows.uptoSmall H ds = true) : bulkDs ds ≤ 1048576 := Nat.le_trans (bulks_eq ds) (of_decide_eq_true h)
def setC (xs : Array Value) : Obj → Obj
  | .cells _ t frozen => .cells xs t frozen
  | o => o
def tab_laid_math_bits_deBruijn32tab : Array Value := #[.int .u8 0, .int .u8 1, .int .u8 28, .int .u8 2, .int .u8 29, .int .u8 14, .int .u8 24, .int .u8 3, .int .u8 30, .int .u8 22, .int .u8 20, .int .u8 15, .int .u8 25, .int .u8 17, .int .u8 4, .int .u8 8, .int .u8 31, .int .u8 27, .int .u8 13, .int .u8 23, .int .u8 21, .int .u8 19, .int .u8 16, .int .u8 7, .int .u8 26, .int .u8 12, .int .u8 18, .int .u8 6, .int .u8 11, .int .u8 5, .int .u8 10, .int .u8 9]
def tab_laid_math_bits_deBruijn64tab : Array Value := #[.int .u8 0, .int .u8 1, .int .u8 56, .int .u8 2, .int .u8 57, .int .u8 49, .int .u8 28, .int .u8 3, .int .u8 61, .int .u8 58, .int .u8 42, .int .u8 50, .int .u8 38, .int .u8 29, .int .u8 17, .int .u8 4, .int .u8 62, .int .u8 47, .int .u8 59, .int .u8 36, .int .u8 45, .int .u8 43, .int .u8 51, .int .u8 22, .int .u8 53, .int .u8 39, .int .u8 33, .int .u8 30, .int .u8 24, .int .u8 18, .int .u8 12, .int .u8 5, .int .u8 63, .int .u8 55, .int .u8 48, .int .u8 27, .int .u8 60, .int .u8 41, .int .u8 37, .int .u8 16, .int .u8 46, .int .u8 35, .int .u8 44, .int .u8 21, .int .u8 52, .int .u8 32, .int .u8 23, .int .u8 11, .int .u8 54, .int .u8 26, .int .u8 40, .int .u8 15, .int .u8 34, .int .u8 20, .int .u8 31, .int .u8 10, .int .u8 25, .int .u8 14, .int .u8 19, .int .u8 9, .int .u8 13, .int .u8 8, .int .u8 7, .int .u8 6]
def tab_laid_internal_strconv_uint64pow10 : Array Value := #[.int .u64 1, .int .u64 10, .int .u64 100, .int .u64 1000, .int .u64 10000, .int .u64 100000, .int .u64 1000000, .int .u64 10000000, .int .u64 100000000, .int .u64 1000000000, .int .u64 10000000000, .int .u64 100000000000, .int .u64 1000000000000, .int .u64 10000000000000, .int .u64 100000000000000, .int .u64 1000000000000000, .int .u64 10000000000000000, .int .u64 100000000000000000, .int .u64 1000000000000000000, .int .u64 10000000000000000000]
noncomputable def laidWorld (os : Os) : World :=
  { World.holding Tryd.prog os ⟨#[], #[], []⟩ with heap := ((((World.holding Tryd.prog os ⟨#[], #[], []⟩).heap).modify 4 (setC tab_laid_math_bits_deBruijn32tab)).modify 5 (setC tab_laid_math_bits_deBruijn64tab)).modify 3 (setC tab_laid_internal_strconv_uint64pow10) }
theorem pow_dat : (Rows.laid_internal_strconv_uint64pow10 : DataW Unit) = Lib.tabData .u64 Lib.pow10Tab := by kernel_rfl
theorem glob_pow : Tryd.prog.globalNamed "internal/strconv.uint64pow10" = some 3 := by kernel_rfl
theorem type_pow : (Tryd.prog.globals[3]?).map (·.type) = some 160 := by kernel_rfl
theorem cells_pow : Tryd.prog.cellsOf 160 = 20 := by kernel_rfl
theorem cell_pow : Tryd.prog.cellsOf 154 = 1 := by kernel_rfl
theorem layIn {W : World} (h0 : laidMetH Tryd.prog [("math/bits.deBruijn32tab", Rows.laid_math_bits_deBruijn32tab), ("math/bits.deBruijn64tab", Rows.laid_math_bits_deBruijn64tab), ("internal/strconv.uint64pow10", Rows.laid_internal_strconv_uint64pow10)] W) : LayIn W := by
  have h : laidMet Tryd.prog [("math/bits.deBruijn32tab", Rows.laid_math_bits_deBruijn32tab), ("math/bits.deBruijn64tab", Rows.laid_math_bits_deBruijn64tab), ("internal/strconv.uint64pow10", Rows.laid_internal_strconv_uint64pow10)] W := h0
  have h3 := (laidMet.tail (laidMet.tail h))
  rw [pow_dat] at h3
  have ht : Lib.TabIs Tryd.prog W "internal/strconv.uint64pow10" .u64 Lib.pow10Tab := Lib.tabIs_of_head (rest := _) glob_pow type_pow Tryd.underlying160 Tryd.underlying154 cell_pow cells_pow h3
  refine ⟨?_, ht⟩
  rintro b rfl
  unfold Lib.TabIs World.var? at ht
  rw [glob_pow] at ht
  simp only [Option.bind_some] at ht
  show 3 < W.heap.size
  cases hb : W.heap[3]? with
  | none => rw [hb] at ht; cases ht
  | some x => exact (Array.getElem?_eq_some_iff.1 hb).1
end Go.Proofs.YtbbcakmmbnikjaaDoor
