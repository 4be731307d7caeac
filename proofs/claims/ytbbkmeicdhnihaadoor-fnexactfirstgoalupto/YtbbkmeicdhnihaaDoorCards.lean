/-
  DERIVED. GIVEN WITH THE SEED: THE CARDS: each row of YtbbkmeicdhnihaaDoorRows.lean that lists a variable, with what it lists TIED to the program's text (the seventh form; the later family's looks); each row that meets fmt, with fmt's text TOLD by the authors' own Lean function (tested against real Go, not proved from fmt's source: count such statements apart). THE CARD IS WHAT COUNTS. Prove the row's statement (the work); the ties are given (YtbbkmeicdhnihaaDoorTie.lean); close each card by the builder's one call (the guide's Derived/Test/ToyasCard.lean, 'card_holds'). Laid BY PROGRAM, IN A SANDBOX (cutbox-door.mjs). By AI agents, Wed Nov 11 2026. No macro, syntax, notation, axiom, sorry.
-/
import Derived.Test.YtbbkmeicdhnihaaDoorRows
import GoSem.ClaimSeven
namespace Go.Proofs.YtbbkmeicdhnihaaDoor
namespace Rows

/-- THE TIED CARD OF 'laws.FnExactFirstGoal'. -/
def fnExactFirstGoalCard : Claim7 := { stood := { row := fnExactFirstGoalRow, standIns := [], harness := (true, "f7932ac58179834b8735cdd022c07de10cd3a107707dea657e4764f22e5e3203"), looks := false }, kinds := [], alts := [], laidByText := true, laidKinds := [.data, .data, .data], laidTests := true, laidLooks := .later }
def FnExactFirstGoalCardSaid : Prop := Claim7.holds Tryd.pinned (.plain (OpenSpec.ofChange fnExactFirstGoalSpec)) fnExactFirstGoalCard

/-- THE SECOND FORM's CARD OF 'laws.FnExactFirstGoal'. -/
def fnExactFirstGoalUptoCard : Claim7 := { stood := { row := fnExactFirstGoalUptoRow, standIns := [], harness := (true, "f7932ac58179834b8735cdd022c07de10cd3a107707dea657e4764f22e5e3203"), looks := false }, kinds := [], alts := [], laidByText := true, laidKinds := [.data, .data, .data], laidTests := true, laidLooks := .later }
def FnExactFirstGoalUptoCardSaid : Prop := Claim7.holds Tryd.pinned (.plain (OpenSpec.upto fnExactFirstGoalSpec)) fnExactFirstGoalUptoCard
end Rows
end Go.Proofs.YtbbkmeicdhnihaaDoor
