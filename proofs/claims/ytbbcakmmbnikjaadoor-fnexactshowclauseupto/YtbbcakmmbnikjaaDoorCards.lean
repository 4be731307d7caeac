/-
  DERIVED. GIVEN WITH THE SEED: THE CARDS: each row of YtbbcakmmbnikjaaDoorRows.lean that lists a variable, with what it lists TIED to the program's text (the seventh form; the later family's looks); each row that meets fmt, with fmt's text TOLD by the authors' own Lean function (tested against real Go, not proved from fmt's source: count such statements apart). THE CARD IS WHAT COUNTS. Prove the row's statement (the work); the ties are given (YtbbcakmmbnikjaaDoorTie.lean); close each card by the builder's one call (the guide's Derived/Test/ToyasCard.lean, 'card_holds'). Laid BY PROGRAM, IN A SANDBOX (cutbox-door.mjs). By AI agents, Wed Nov 11 2026. No macro, syntax, notation, axiom, sorry.
-/
import Derived.Test.YtbbcakmmbnikjaaDoorRows
import GoSem.ClaimSeven
namespace Go.Proofs.YtbbcakmmbnikjaaDoor
namespace Rows

/-- THE TIED CARD OF 'laws.FnExactFirstGoal'. -/
def fnExactFirstGoalCard : Claim7 := { stood := { row := fnExactFirstGoalRow, standIns := [], harness := (true, "bcdb2b63be6579f816fca9c6a12652ad58c92fc1335cde49981591456a4aae4c"), looks := false }, kinds := [], alts := [], laidByText := true, laidKinds := [.data, .data, .data], laidTests := true, laidLooks := .later }
def FnExactFirstGoalCardSaid : Prop := Claim7.holds Tryd.pinned (.plain (OpenSpec.ofChange fnExactFirstGoalSpec)) fnExactFirstGoalCard

/-- THE TIED CARD OF 'laws.FnExactReadScript'. -/
def fnExactReadScriptCard : Claim7 := { stood := { row := fnExactReadScriptRow, standIns := [], harness := (true, "bcdb2b63be6579f816fca9c6a12652ad58c92fc1335cde49981591456a4aae4c"), looks := false }, kinds := [], alts := [], laidByText := true, laidKinds := [.data, .pinned], laidTests := true, laidLooks := .later }
def FnExactReadScriptCardSaid : Prop := Claim7.holds Tryd.pinned (.plain (OpenSpec.ofChange fnExactReadScriptSpec)) fnExactReadScriptCard

/-- THE TIED CARD OF 'laws.FnExactShowClause'. -/
def fnExactShowClauseCard : Claim7 := { stood := { row := fnExactShowClauseRow, standIns := [], harness := (true, "bcdb2b63be6579f816fca9c6a12652ad58c92fc1335cde49981591456a4aae4c"), looks := false }, kinds := [], alts := [], laidByText := true, laidKinds := [.data, .data, .data], laidTests := true, laidLooks := .later }
def FnExactShowClauseCardSaid : Prop := Claim7.holds Tryd.pinned (.plain (OpenSpec.ofChange fnExactShowClauseSpec)) fnExactShowClauseCard

/-- THE TIED CARD OF 'laws.FnExactWritePlain'. -/
def fnExactWritePlainCard : Claim7 := { stood := { row := fnExactWritePlainRow, standIns := [], harness := (true, "bcdb2b63be6579f816fca9c6a12652ad58c92fc1335cde49981591456a4aae4c"), looks := false }, kinds := [], alts := [], laidByText := true, laidKinds := [.data, .data, .data], laidTests := true, laidLooks := .later }
def FnExactWritePlainCardSaid : Prop := Claim7.holds Tryd.pinned (.plain (OpenSpec.ofChange fnExactWritePlainSpec)) fnExactWritePlainCard

/-- THE SECOND FORM's CARD OF 'laws.FnExactFirstGoal'. -/
def fnExactFirstGoalUptoCard : Claim7 := { stood := { row := fnExactFirstGoalUptoRow, standIns := [], harness := (true, "bcdb2b63be6579f816fca9c6a12652ad58c92fc1335cde49981591456a4aae4c"), looks := false }, kinds := [], alts := [], laidByText := true, laidKinds := [.data, .data, .data], laidTests := true, laidLooks := .later }
def FnExactFirstGoalUptoCardSaid : Prop := Claim7.holds Tryd.pinned (.plain (OpenSpec.upto fnExactFirstGoalSpec)) fnExactFirstGoalUptoCard

/-- THE SECOND FORM's CARD OF 'laws.FnExactReadScript'. -/
def fnExactReadScriptUptoCard : Claim7 := { stood := { row := fnExactReadScriptUptoRow, standIns := [], harness := (true, "bcdb2b63be6579f816fca9c6a12652ad58c92fc1335cde49981591456a4aae4c"), looks := false }, kinds := [], alts := [], laidByText := true, laidKinds := [.data, .pinned], laidTests := true, laidLooks := .later }
def FnExactReadScriptUptoCardSaid : Prop := Claim7.holds Tryd.pinned (.plain (OpenSpec.upto fnExactReadScriptSpec)) fnExactReadScriptUptoCard

/-- THE SECOND FORM's CARD OF 'laws.FnExactShowClause'. -/
def fnExactShowClauseUptoCard : Claim7 := { stood := { row := fnExactShowClauseUptoRow, standIns := [], harness := (true, "bcdb2b63be6579f816fca9c6a12652ad58c92fc1335cde49981591456a4aae4c"), looks := false }, kinds := [], alts := [], laidByText := true, laidKinds := [.data, .data, .data], laidTests := true, laidLooks := .later }
def FnExactShowClauseUptoCardSaid : Prop := Claim7.holds Tryd.pinned (.plain (OpenSpec.upto fnExactShowClauseSpec)) fnExactShowClauseUptoCard

/-- THE SECOND FORM's CARD OF 'laws.FnExactWritePlain'. -/
def fnExactWritePlainUptoCard : Claim7 := { stood := { row := fnExactWritePlainUptoRow, standIns := [], harness := (true, "bcdb2b63be6579f816fca9c6a12652ad58c92fc1335cde49981591456a4aae4c"), looks := false }, kinds := [], alts := [], laidByText := true, laidKinds := [.data, .data, .data], laidTests := true, laidLooks := .later }
def FnExactWritePlainUptoCardSaid : Prop := Claim7.holds Tryd.pinned (.plain (OpenSpec.upto fnExactWritePlainSpec)) fnExactWritePlainUptoCard
end Rows
end Go.Proofs.YtbbcakmmbnikjaaDoor
