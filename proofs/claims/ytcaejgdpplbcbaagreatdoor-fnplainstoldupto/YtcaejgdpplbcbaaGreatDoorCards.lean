/-
  DERIVED. GIVEN WITH THE SEED: THE CARDS: each row of YtcaejgdpplbcbaaGreatDoorRows.lean that lists a variable, with what it lists TIED to the program's text (the seventh form; the later family's looks); each row that meets fmt, with fmt's text TOLD by the authors' own Lean function (tested against real Go, not proved from fmt's source: count such statements apart). THE CARD IS WHAT COUNTS. Prove the row's statement (the work); the ties are given (YtcaejgdpplbcbaaGreatDoorTie.lean); close each card by the builder's one call (the guide's Derived/Test/ToyasCard.lean, 'card_holds'). Laid BY PROGRAM, IN A SANDBOX (cutbox-door.mjs). By AI agents, Wed Nov 11 2026. No macro, syntax, notation, axiom, sorry.
-/
import Derived.Test.YtcaejgdpplbcbaaGreatDoorRows
import GoSem.ClaimSeven
namespace Go.Proofs.YtcaejgdpplbcbaaGreatDoor
namespace Rows

/-- THE TIED CARD OF 'laws.FnExactUnfoldsIn'. -/
def fnExactUnfoldsInCard : Claim7 := { stood := { row := fnExactUnfoldsInRow, standIns := [], harness := (true, "2430f180803c60c3e972578735c1be6360b0802953e0880ee33c4e370602a077"), looks := false }, kinds := [], alts := [], laidByText := true, laidKinds := [.data, .data, .data], laidTests := true, laidLooks := .later }
def FnExactUnfoldsInCardSaid : Prop := Claim7.holds Tryz.pinned (.plain (OpenSpec.ofChange fnExactUnfoldsInSpec)) fnExactUnfoldsInCard

/-- THE TIED CARD OF 'laws.FnExactUnfoldAt'. -/
def fnExactUnfoldAtCard : Claim7 := { stood := { row := fnExactUnfoldAtRow, standIns := [], harness := (true, "2430f180803c60c3e972578735c1be6360b0802953e0880ee33c4e370602a077"), looks := false }, kinds := [], alts := [], laidByText := true, laidKinds := [.data, .data, .data], laidTests := true, laidLooks := .later }
def FnExactUnfoldAtCardSaid : Prop := Claim7.holds Tryz.pinned (.plain (OpenSpec.ofChange fnExactUnfoldAtSpec)) fnExactUnfoldAtCard

/-- THE TIED CARD OF 'laws.FnPlainsTold'. -/
def fnPlainsToldCard : Claim7 := { stood := { row := fnPlainsToldRow, standIns := [], harness := (true, "2430f180803c60c3e972578735c1be6360b0802953e0880ee33c4e370602a077"), looks := false }, kinds := [], alts := [], laidByText := true, laidKinds := [.data, .data, .data], laidTests := true, laidLooks := .later }
def FnPlainsToldCardSaid : Prop := Claim7.holds Tryz.pinned (.plain (OpenSpec.ofChange fnPlainsToldSpec)) fnPlainsToldCard

/-- THE TIED CARD OF 'laws.FnPlains'. -/
def fnPlainsCard : Claim7 := { stood := { row := fnPlainsRow, standIns := [], harness := (true, "2430f180803c60c3e972578735c1be6360b0802953e0880ee33c4e370602a077"), looks := false }, kinds := [], alts := [], laidByText := true, laidKinds := [.data, .data, .data], laidTests := true, laidLooks := .later }
def FnPlainsCardSaid : Prop := Claim7.holds Tryz.pinned (.plain (OpenSpec.ofChange fnPlainsSpec)) fnPlainsCard

/-- THE TIED CARD OF 'laws.FnDiffs'. -/
def fnDiffsCard : Claim7 := { stood := { row := fnDiffsRow, standIns := [], harness := (true, "2430f180803c60c3e972578735c1be6360b0802953e0880ee33c4e370602a077"), looks := false }, kinds := [], alts := [], laidByText := true, laidKinds := [.data, .data, .data], laidTests := true, laidLooks := .later }
def FnDiffsCardSaid : Prop := Claim7.holds Tryz.pinned (.plain (OpenSpec.ofChange fnDiffsSpec)) fnDiffsCard

/-- THE TIED CARD OF 'laws.FnDiffsTold'. -/
def fnDiffsToldCard : Claim7 := { stood := { row := fnDiffsToldRow, standIns := [], harness := (true, "2430f180803c60c3e972578735c1be6360b0802953e0880ee33c4e370602a077"), looks := false }, kinds := [], alts := [], laidByText := true, laidKinds := [.data, .data, .data], laidTests := true, laidLooks := .later }
def FnDiffsToldCardSaid : Prop := Claim7.holds Tryz.pinned (.plain (OpenSpec.ofChange fnDiffsToldSpec)) fnDiffsToldCard

/-- THE TIED CARD OF 'laws.FnUnfoldsTold'. -/
def fnUnfoldsToldCard : Claim7 := { stood := { row := fnUnfoldsToldRow, standIns := [], harness := (true, "2430f180803c60c3e972578735c1be6360b0802953e0880ee33c4e370602a077"), looks := false }, kinds := [], alts := [], laidByText := true, laidKinds := [.data, .data, .data], laidTests := true, laidLooks := .later }
def FnUnfoldsToldCardSaid : Prop := Claim7.holds Tryz.pinned (.plain (OpenSpec.ofChange fnUnfoldsToldSpec)) fnUnfoldsToldCard

/-- THE TIED CARD OF 'laws.FnScriptRemarks'. -/
def fnScriptRemarksCard : Claim7 := { stood := { row := fnScriptRemarksRow, standIns := [], harness := (true, "2430f180803c60c3e972578735c1be6360b0802953e0880ee33c4e370602a077"), looks := false }, kinds := [], alts := [], laidByText := true, laidKinds := [.data, .data, .data, .data, .pinned], laidTests := true, laidLooks := .later }
def FnScriptRemarksCardSaid : Prop := Claim7.holds Tryz.pinned (.plain (OpenSpec.ofChange fnScriptRemarksSpec)) fnScriptRemarksCard

/-- THE SECOND FORM's CARD OF 'laws.FnExactUnfoldsIn'. -/
def fnExactUnfoldsInUptoCard : Claim7 := { stood := { row := fnExactUnfoldsInUptoRow, standIns := [], harness := (true, "2430f180803c60c3e972578735c1be6360b0802953e0880ee33c4e370602a077"), looks := false }, kinds := [], alts := [], laidByText := true, laidKinds := [.data, .data, .data], laidTests := true, laidLooks := .later }
def FnExactUnfoldsInUptoCardSaid : Prop := Claim7.holds Tryz.pinned (.plain (OpenSpec.upto fnExactUnfoldsInSpec)) fnExactUnfoldsInUptoCard

/-- THE SECOND FORM's CARD OF 'laws.FnExactUnfoldAt'. -/
def fnExactUnfoldAtUptoCard : Claim7 := { stood := { row := fnExactUnfoldAtUptoRow, standIns := [], harness := (true, "2430f180803c60c3e972578735c1be6360b0802953e0880ee33c4e370602a077"), looks := false }, kinds := [], alts := [], laidByText := true, laidKinds := [.data, .data, .data], laidTests := true, laidLooks := .later }
def FnExactUnfoldAtUptoCardSaid : Prop := Claim7.holds Tryz.pinned (.plain (OpenSpec.upto fnExactUnfoldAtSpec)) fnExactUnfoldAtUptoCard

/-- THE SECOND FORM's CARD OF 'laws.FnPlainsTold'. -/
def fnPlainsToldUptoCard : Claim7 := { stood := { row := fnPlainsToldUptoRow, standIns := [], harness := (true, "2430f180803c60c3e972578735c1be6360b0802953e0880ee33c4e370602a077"), looks := false }, kinds := [], alts := [], laidByText := true, laidKinds := [.data, .data, .data], laidTests := true, laidLooks := .later }
def FnPlainsToldUptoCardSaid : Prop := Claim7.holds Tryz.pinned (.plain (OpenSpec.upto fnPlainsToldSpec)) fnPlainsToldUptoCard

/-- THE SECOND FORM's CARD OF 'laws.FnPlains'. -/
def fnPlainsUptoCard : Claim7 := { stood := { row := fnPlainsUptoRow, standIns := [], harness := (true, "2430f180803c60c3e972578735c1be6360b0802953e0880ee33c4e370602a077"), looks := false }, kinds := [], alts := [], laidByText := true, laidKinds := [.data, .data, .data], laidTests := true, laidLooks := .later }
def FnPlainsUptoCardSaid : Prop := Claim7.holds Tryz.pinned (.plain (OpenSpec.upto fnPlainsSpec)) fnPlainsUptoCard

/-- THE SECOND FORM's CARD OF 'laws.FnDiffs'. -/
def fnDiffsUptoCard : Claim7 := { stood := { row := fnDiffsUptoRow, standIns := [], harness := (true, "2430f180803c60c3e972578735c1be6360b0802953e0880ee33c4e370602a077"), looks := false }, kinds := [], alts := [], laidByText := true, laidKinds := [.data, .data, .data], laidTests := true, laidLooks := .later }
def FnDiffsUptoCardSaid : Prop := Claim7.holds Tryz.pinned (.plain (OpenSpec.upto fnDiffsSpec)) fnDiffsUptoCard

/-- THE SECOND FORM's CARD OF 'laws.FnDiffsTold'. -/
def fnDiffsToldUptoCard : Claim7 := { stood := { row := fnDiffsToldUptoRow, standIns := [], harness := (true, "2430f180803c60c3e972578735c1be6360b0802953e0880ee33c4e370602a077"), looks := false }, kinds := [], alts := [], laidByText := true, laidKinds := [.data, .data, .data], laidTests := true, laidLooks := .later }
def FnDiffsToldUptoCardSaid : Prop := Claim7.holds Tryz.pinned (.plain (OpenSpec.upto fnDiffsToldSpec)) fnDiffsToldUptoCard

/-- THE SECOND FORM's CARD OF 'laws.FnUnfoldsTold'. -/
def fnUnfoldsToldUptoCard : Claim7 := { stood := { row := fnUnfoldsToldUptoRow, standIns := [], harness := (true, "2430f180803c60c3e972578735c1be6360b0802953e0880ee33c4e370602a077"), looks := false }, kinds := [], alts := [], laidByText := true, laidKinds := [.data, .data, .data], laidTests := true, laidLooks := .later }
def FnUnfoldsToldUptoCardSaid : Prop := Claim7.holds Tryz.pinned (.plain (OpenSpec.upto fnUnfoldsToldSpec)) fnUnfoldsToldUptoCard

/-- THE SECOND FORM's CARD OF 'laws.FnScriptRemarks'. -/
def fnScriptRemarksUptoCard : Claim7 := { stood := { row := fnScriptRemarksUptoRow, standIns := [], harness := (true, "2430f180803c60c3e972578735c1be6360b0802953e0880ee33c4e370602a077"), looks := false }, kinds := [], alts := [], laidByText := true, laidKinds := [.data, .data, .data, .data, .pinned], laidTests := true, laidLooks := .later }
def FnScriptRemarksUptoCardSaid : Prop := Claim7.holds Tryz.pinned (.plain (OpenSpec.upto fnScriptRemarksSpec)) fnScriptRemarksUptoCard
end Rows
end Go.Proofs.YtcaejgdpplbcbaaGreatDoor
