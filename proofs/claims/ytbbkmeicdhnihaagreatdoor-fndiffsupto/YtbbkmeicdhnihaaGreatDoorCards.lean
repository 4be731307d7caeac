/-
  DERIVED. GIVEN WITH THE SEED: THE CARDS: each row of YtbbkmeicdhnihaaGreatDoorRows.lean that lists a variable, with what it lists TIED to the program's text (the seventh form; the later family's looks); each row that meets fmt, with fmt's text TOLD by the authors' own Lean function (tested against real Go, not proved from fmt's source: count such statements apart). THE CARD IS WHAT COUNTS. Prove the row's statement (the work); the ties are given (YtbbkmeicdhnihaaGreatDoorTie.lean); close each card by the builder's one call (the guide's Derived/Test/ToyasCard.lean, 'card_holds'). Laid BY PROGRAM, IN A SANDBOX (cutbox-door.mjs). By AI agents, Wed Nov 11 2026. No macro, syntax, notation, axiom, sorry.
-/
import Derived.Test.YtbbkmeicdhnihaaGreatDoorRows
import GoSem.ClaimSeven
namespace Go.Proofs.YtbbkmeicdhnihaaGreatDoor
namespace Rows

/-- THE TIED CARD OF 'laws.FnExactUnfoldsIn'. -/
def fnExactUnfoldsInCard : Claim7 := { stood := { row := fnExactUnfoldsInRow, standIns := [], harness := (true, "40d97728fa1d88893f6bee1756555e71232859ed1bcefa2c5028fd88d28c07bb"), looks := false }, kinds := [], alts := [], laidByText := true, laidKinds := [.data, .data, .data], laidTests := true, laidLooks := .later }
def FnExactUnfoldsInCardSaid : Prop := Claim7.holds Tryz.pinned (.plain (OpenSpec.ofChange fnExactUnfoldsInSpec)) fnExactUnfoldsInCard

/-- THE TIED CARD OF 'laws.FnExactUnfoldAt'. -/
def fnExactUnfoldAtCard : Claim7 := { stood := { row := fnExactUnfoldAtRow, standIns := [], harness := (true, "40d97728fa1d88893f6bee1756555e71232859ed1bcefa2c5028fd88d28c07bb"), looks := false }, kinds := [], alts := [], laidByText := true, laidKinds := [.data, .data, .data], laidTests := true, laidLooks := .later }
def FnExactUnfoldAtCardSaid : Prop := Claim7.holds Tryz.pinned (.plain (OpenSpec.ofChange fnExactUnfoldAtSpec)) fnExactUnfoldAtCard

/-- THE TIED CARD OF 'laws.FnPlains'. -/
def fnPlainsCard : Claim7 := { stood := { row := fnPlainsRow, standIns := [], harness := (true, "40d97728fa1d88893f6bee1756555e71232859ed1bcefa2c5028fd88d28c07bb"), looks := false }, kinds := [], alts := [], laidByText := true, laidKinds := [.data, .data, .data], laidTests := true, laidLooks := .later }
def FnPlainsCardSaid : Prop := Claim7.holds Tryz.pinned (.plain (OpenSpec.ofChange fnPlainsSpec)) fnPlainsCard

/-- THE TIED CARD OF 'laws.FnDiffs'. -/
def fnDiffsCard : Claim7 := { stood := { row := fnDiffsRow, standIns := [], harness := (true, "40d97728fa1d88893f6bee1756555e71232859ed1bcefa2c5028fd88d28c07bb"), looks := false }, kinds := [], alts := [], laidByText := true, laidKinds := [.data, .data, .data], laidTests := true, laidLooks := .later }
def FnDiffsCardSaid : Prop := Claim7.holds Tryz.pinned (.plain (OpenSpec.ofChange fnDiffsSpec)) fnDiffsCard

/-- THE SECOND FORM's CARD OF 'laws.FnExactUnfoldsIn'. -/
def fnExactUnfoldsInUptoCard : Claim7 := { stood := { row := fnExactUnfoldsInUptoRow, standIns := [], harness := (true, "40d97728fa1d88893f6bee1756555e71232859ed1bcefa2c5028fd88d28c07bb"), looks := false }, kinds := [], alts := [], laidByText := true, laidKinds := [.data, .data, .data], laidTests := true, laidLooks := .later }
def FnExactUnfoldsInUptoCardSaid : Prop := Claim7.holds Tryz.pinned (.plain (OpenSpec.upto fnExactUnfoldsInSpec)) fnExactUnfoldsInUptoCard

/-- THE SECOND FORM's CARD OF 'laws.FnExactUnfoldAt'. -/
def fnExactUnfoldAtUptoCard : Claim7 := { stood := { row := fnExactUnfoldAtUptoRow, standIns := [], harness := (true, "40d97728fa1d88893f6bee1756555e71232859ed1bcefa2c5028fd88d28c07bb"), looks := false }, kinds := [], alts := [], laidByText := true, laidKinds := [.data, .data, .data], laidTests := true, laidLooks := .later }
def FnExactUnfoldAtUptoCardSaid : Prop := Claim7.holds Tryz.pinned (.plain (OpenSpec.upto fnExactUnfoldAtSpec)) fnExactUnfoldAtUptoCard

/-- THE SECOND FORM's CARD OF 'laws.FnPlains'. -/
def fnPlainsUptoCard : Claim7 := { stood := { row := fnPlainsUptoRow, standIns := [], harness := (true, "40d97728fa1d88893f6bee1756555e71232859ed1bcefa2c5028fd88d28c07bb"), looks := false }, kinds := [], alts := [], laidByText := true, laidKinds := [.data, .data, .data], laidTests := true, laidLooks := .later }
def FnPlainsUptoCardSaid : Prop := Claim7.holds Tryz.pinned (.plain (OpenSpec.upto fnPlainsSpec)) fnPlainsUptoCard

/-- THE SECOND FORM's CARD OF 'laws.FnDiffs'. -/
def fnDiffsUptoCard : Claim7 := { stood := { row := fnDiffsUptoRow, standIns := [], harness := (true, "40d97728fa1d88893f6bee1756555e71232859ed1bcefa2c5028fd88d28c07bb"), looks := false }, kinds := [], alts := [], laidByText := true, laidKinds := [.data, .data, .data], laidTests := true, laidLooks := .later }
def FnDiffsUptoCardSaid : Prop := Claim7.holds Tryz.pinned (.plain (OpenSpec.upto fnDiffsSpec)) fnDiffsUptoCard
end Rows
end Go.Proofs.YtbbkmeicdhnihaaGreatDoor
