/-
  DERIVED. GIVEN WITH THE SEED: THE CARDS: each row of YtcaejgdpplbcbaaDoorRows.lean that lists a variable, with what it lists TIED to the program's text (the seventh form; the later family's looks); each row that meets fmt, with fmt's text TOLD by the authors' own Lean function (tested against real Go, not proved from fmt's source: count such statements apart). THE CARD IS WHAT COUNTS. Prove the row's statement (the work); the ties are given (YtcaejgdpplbcbaaDoorTie.lean); close each card by the builder's one call (the guide's Derived/Test/ToyasCard.lean, 'card_holds'). Laid BY PROGRAM, IN A SANDBOX (cutbox-door.mjs). By AI agents, Wed Nov 11 2026. No macro, syntax, notation, axiom, sorry.
-/
import Derived.Test.YtcaejgdpplbcbaaDoorRows
import GoSem.ClaimSeven
namespace Go.Proofs.YtcaejgdpplbcbaaDoor
namespace Rows

/-- THE TIED CARD OF 'laws.FnExactFirstGoal'. -/
def fnExactFirstGoalCard : Claim7 := { stood := { row := fnExactFirstGoalRow, standIns := [], harness := (true, "2923232a8212e5b12e0e4579c5499bff28494af52cd90f8f4ea5c21ce442b7ca"), looks := false }, kinds := [], alts := [], laidByText := true, laidKinds := [.data, .data, .data], laidTests := true, laidLooks := .later }
def FnExactFirstGoalCardSaid : Prop := Claim7.holds Tryd.pinned (.plain (OpenSpec.ofChange fnExactFirstGoalSpec)) fnExactFirstGoalCard

/-- THE TIED CARD OF 'laws.FnExactReadScript'. -/
def fnExactReadScriptCard : Claim7 := { stood := { row := fnExactReadScriptRow, standIns := [], harness := (true, "2923232a8212e5b12e0e4579c5499bff28494af52cd90f8f4ea5c21ce442b7ca"), looks := false }, kinds := [], alts := [], laidByText := true, laidKinds := [.data, .pinned], laidTests := true, laidLooks := .later }
def FnExactReadScriptCardSaid : Prop := Claim7.holds Tryd.pinned (.plain (OpenSpec.ofChange fnExactReadScriptSpec)) fnExactReadScriptCard

/-- THE SECOND FORM's CARD OF 'laws.FnExactFirstGoal'. -/
def fnExactFirstGoalUptoCard : Claim7 := { stood := { row := fnExactFirstGoalUptoRow, standIns := [], harness := (true, "2923232a8212e5b12e0e4579c5499bff28494af52cd90f8f4ea5c21ce442b7ca"), looks := false }, kinds := [], alts := [], laidByText := true, laidKinds := [.data, .data, .data], laidTests := true, laidLooks := .later }
def FnExactFirstGoalUptoCardSaid : Prop := Claim7.holds Tryd.pinned (.plain (OpenSpec.upto fnExactFirstGoalSpec)) fnExactFirstGoalUptoCard

/-- THE SECOND FORM's CARD OF 'laws.FnExactReadScript'. -/
def fnExactReadScriptUptoCard : Claim7 := { stood := { row := fnExactReadScriptUptoRow, standIns := [], harness := (true, "2923232a8212e5b12e0e4579c5499bff28494af52cd90f8f4ea5c21ce442b7ca"), looks := false }, kinds := [], alts := [], laidByText := true, laidKinds := [.data, .pinned], laidTests := true, laidLooks := .later }
def FnExactReadScriptUptoCardSaid : Prop := Claim7.holds Tryd.pinned (.plain (OpenSpec.upto fnExactReadScriptSpec)) fnExactReadScriptUptoCard
end Rows
end Go.Proofs.YtcaejgdpplbcbaaDoor
