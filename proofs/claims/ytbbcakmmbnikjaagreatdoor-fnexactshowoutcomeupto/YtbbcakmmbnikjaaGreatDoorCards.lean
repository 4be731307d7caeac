/-
  DERIVED. GIVEN WITH THE SEED: THE CARDS: each row of YtbbcakmmbnikjaaGreatDoorRows.lean that lists a variable, with what it lists TIED to the program's text (the seventh form; the later family's looks); each row that meets fmt, with fmt's text TOLD by the authors' own Lean function (tested against real Go, not proved from fmt's source: count such statements apart). THE CARD IS WHAT COUNTS. Prove the row's statement (the work); the ties are given (YtbbcakmmbnikjaaGreatDoorTie.lean); close each card by the builder's one call (the guide's Derived/Test/ToyasCard.lean, 'card_holds'). Laid BY PROGRAM, IN A SANDBOX (cutbox-door.mjs). By AI agents, Wed Nov 11 2026. No macro, syntax, notation, axiom, sorry.
-/
import Derived.Test.YtbbcakmmbnikjaaGreatDoorRows
import GoSem.ClaimSeven
namespace Go.Proofs.YtbbcakmmbnikjaaGreatDoor
namespace Rows

/-- THE TIED CARD OF 'laws.FnExactShowDb'. -/
def fnExactShowDbCard : Claim7 := { stood := { row := fnExactShowDbRow, standIns := [], harness := (true, "e2ef1ab8c44428435448d8a26d7da823296b73fc4d3b1410f98c1c88283c91f8"), looks := false }, kinds := [], alts := [], laidByText := true, laidKinds := [.data, .data, .data], laidTests := true, laidLooks := .later }
def FnExactShowDbCardSaid : Prop := Claim7.holds Tryz.pinned (.plain (OpenSpec.ofChange fnExactShowDbSpec)) fnExactShowDbCard

/-- THE TIED CARD OF 'laws.FnExactPlainClause'. -/
def fnExactPlainClauseCard : Claim7 := { stood := { row := fnExactPlainClauseRow, standIns := [], harness := (true, "e2ef1ab8c44428435448d8a26d7da823296b73fc4d3b1410f98c1c88283c91f8"), looks := false }, kinds := [], alts := [], laidByText := true, laidKinds := [.data, .data, .data], laidTests := true, laidLooks := .later }
def FnExactPlainClauseCardSaid : Prop := Claim7.holds Tryz.pinned (.plain (OpenSpec.ofChange fnExactPlainClauseSpec)) fnExactPlainClauseCard

/-- THE TIED CARD OF 'laws.FnExactShowOutcome'. -/
def fnExactShowOutcomeCard : Claim7 := { stood := { row := fnExactShowOutcomeRow, standIns := [], harness := (true, "e2ef1ab8c44428435448d8a26d7da823296b73fc4d3b1410f98c1c88283c91f8"), looks := false }, kinds := [], alts := [], laidByText := true, laidKinds := [.data, .data, .data], laidTests := true, laidLooks := .later }
def FnExactShowOutcomeCardSaid : Prop := Claim7.holds Tryz.pinned (.plain (OpenSpec.ofChange fnExactShowOutcomeSpec)) fnExactShowOutcomeCard

/-- THE TIED CARD OF 'laws.FnExactPlainText'. -/
def fnExactPlainTextCard : Claim7 := { stood := { row := fnExactPlainTextRow, standIns := [], harness := (true, "e2ef1ab8c44428435448d8a26d7da823296b73fc4d3b1410f98c1c88283c91f8"), looks := false }, kinds := [], alts := [], laidByText := true, laidKinds := [.data, .data, .data], laidTests := true, laidLooks := .later }
def FnExactPlainTextCardSaid : Prop := Claim7.holds Tryz.pinned (.plain (OpenSpec.ofChange fnExactPlainTextSpec)) fnExactPlainTextCard

/-- THE TIED CARD OF 'laws.FnExactUnfoldsIn'. -/
def fnExactUnfoldsInCard : Claim7 := { stood := { row := fnExactUnfoldsInRow, standIns := [], harness := (true, "e2ef1ab8c44428435448d8a26d7da823296b73fc4d3b1410f98c1c88283c91f8"), looks := false }, kinds := [], alts := [], laidByText := true, laidKinds := [.data, .data, .data], laidTests := true, laidLooks := .later }
def FnExactUnfoldsInCardSaid : Prop := Claim7.holds Tryz.pinned (.plain (OpenSpec.ofChange fnExactUnfoldsInSpec)) fnExactUnfoldsInCard

/-- THE TIED CARD OF 'laws.FnExactUnfoldAt'. -/
def fnExactUnfoldAtCard : Claim7 := { stood := { row := fnExactUnfoldAtRow, standIns := [], harness := (true, "e2ef1ab8c44428435448d8a26d7da823296b73fc4d3b1410f98c1c88283c91f8"), looks := false }, kinds := [], alts := [], laidByText := true, laidKinds := [.data, .data, .data], laidTests := true, laidLooks := .later }
def FnExactUnfoldAtCardSaid : Prop := Claim7.holds Tryz.pinned (.plain (OpenSpec.ofChange fnExactUnfoldAtSpec)) fnExactUnfoldAtCard

/-- THE SECOND FORM's CARD OF 'laws.FnExactShowDb'. -/
def fnExactShowDbUptoCard : Claim7 := { stood := { row := fnExactShowDbUptoRow, standIns := [], harness := (true, "e2ef1ab8c44428435448d8a26d7da823296b73fc4d3b1410f98c1c88283c91f8"), looks := false }, kinds := [], alts := [], laidByText := true, laidKinds := [.data, .data, .data], laidTests := true, laidLooks := .later }
def FnExactShowDbUptoCardSaid : Prop := Claim7.holds Tryz.pinned (.plain (OpenSpec.upto fnExactShowDbSpec)) fnExactShowDbUptoCard

/-- THE SECOND FORM's CARD OF 'laws.FnExactPlainClause'. -/
def fnExactPlainClauseUptoCard : Claim7 := { stood := { row := fnExactPlainClauseUptoRow, standIns := [], harness := (true, "e2ef1ab8c44428435448d8a26d7da823296b73fc4d3b1410f98c1c88283c91f8"), looks := false }, kinds := [], alts := [], laidByText := true, laidKinds := [.data, .data, .data], laidTests := true, laidLooks := .later }
def FnExactPlainClauseUptoCardSaid : Prop := Claim7.holds Tryz.pinned (.plain (OpenSpec.upto fnExactPlainClauseSpec)) fnExactPlainClauseUptoCard

/-- THE SECOND FORM's CARD OF 'laws.FnExactShowOutcome'. -/
def fnExactShowOutcomeUptoCard : Claim7 := { stood := { row := fnExactShowOutcomeUptoRow, standIns := [], harness := (true, "e2ef1ab8c44428435448d8a26d7da823296b73fc4d3b1410f98c1c88283c91f8"), looks := false }, kinds := [], alts := [], laidByText := true, laidKinds := [.data, .data, .data], laidTests := true, laidLooks := .later }
def FnExactShowOutcomeUptoCardSaid : Prop := Claim7.holds Tryz.pinned (.plain (OpenSpec.upto fnExactShowOutcomeSpec)) fnExactShowOutcomeUptoCard

/-- THE SECOND FORM's CARD OF 'laws.FnExactPlainText'. -/
def fnExactPlainTextUptoCard : Claim7 := { stood := { row := fnExactPlainTextUptoRow, standIns := [], harness := (true, "e2ef1ab8c44428435448d8a26d7da823296b73fc4d3b1410f98c1c88283c91f8"), looks := false }, kinds := [], alts := [], laidByText := true, laidKinds := [.data, .data, .data], laidTests := true, laidLooks := .later }
def FnExactPlainTextUptoCardSaid : Prop := Claim7.holds Tryz.pinned (.plain (OpenSpec.upto fnExactPlainTextSpec)) fnExactPlainTextUptoCard

/-- THE SECOND FORM's CARD OF 'laws.FnExactUnfoldsIn'. -/
def fnExactUnfoldsInUptoCard : Claim7 := { stood := { row := fnExactUnfoldsInUptoRow, standIns := [], harness := (true, "e2ef1ab8c44428435448d8a26d7da823296b73fc4d3b1410f98c1c88283c91f8"), looks := false }, kinds := [], alts := [], laidByText := true, laidKinds := [.data, .data, .data], laidTests := true, laidLooks := .later }
def FnExactUnfoldsInUptoCardSaid : Prop := Claim7.holds Tryz.pinned (.plain (OpenSpec.upto fnExactUnfoldsInSpec)) fnExactUnfoldsInUptoCard

/-- THE SECOND FORM's CARD OF 'laws.FnExactUnfoldAt'. -/
def fnExactUnfoldAtUptoCard : Claim7 := { stood := { row := fnExactUnfoldAtUptoRow, standIns := [], harness := (true, "e2ef1ab8c44428435448d8a26d7da823296b73fc4d3b1410f98c1c88283c91f8"), looks := false }, kinds := [], alts := [], laidByText := true, laidKinds := [.data, .data, .data], laidTests := true, laidLooks := .later }
def FnExactUnfoldAtUptoCardSaid : Prop := Claim7.holds Tryz.pinned (.plain (OpenSpec.upto fnExactUnfoldAtSpec)) fnExactUnfoldAtUptoCard
end Rows
end Go.Proofs.YtbbcakmmbnikjaaGreatDoor
