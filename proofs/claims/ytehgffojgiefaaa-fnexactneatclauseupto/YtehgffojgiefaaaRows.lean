/-
  NARROWER THAN 'FOR EVERY INPUT', by the rows' own cells (each row's printed sentence says how): FnExactPrioOf: loops · FnExactNeatClause: loops · FnExactShowSession: loops · FnExactClauseAt: loops · FnExactSameSet: loops.
  DERIVED. THE GIVEN ROWS OF THIS SEAT. 5 by the template 'for every input the law returns true; each argument reads behind the call as it read before'; 0 by the template 'total and deterministic' (their statements: YtehgffojgiefaaaTotals.lean).
  GIVEN WITH THE SEED: the statements are not yours to turn. If you find one false, say at which input.
  Laid BY PROGRAM, IN A SANDBOX (cutbox-rows.mjs): the forced cells as the released guide's own fill.sh prints them over the translation 57837aaa39b44e7b… (all of the seat's roots in one cut). By AI agents, Wed Nov 11 2026. No macro, syntax, notation, axiom, sorry.
-/
import Derived.Test.YtehgffojgiefaaaChecked
import GoSem.Claim
import GoSem.ClaimJoined
import GoSem.ClaimMapViews
import Derived.JoinedTies
import Derived.KernelRfl
namespace Go.Proofs.Ytehgffojgiefaaa
/- THE CELL 'sum', in the pinned program and in every row, IS THE sha256 OF THE DUMP (.gsa) THAT YtehgffojgiefaaaProg.lean LOADS. Nothing in Lean hashes anything: it is a label: what it is worth is what the hold of that sum in a sandbox is worth. -/
noncomputable def Try.pinned : Pinned := { name := "ytehgffojgiefaaa", sum := "57837aaa39b44e7bec76bba3af2e97cbaf2df44135b7aae977536a22174dbe41", checked := Try.checked }
namespace Rows
def none {H : Type} : Left H := { results := [], args := [] }

/-- 'laws.FnExactPrioOf': WHATEVER THE INPUT: true; the input reads as it did. -/
def fnExactPrioOfSpec : ChangeSpec := { name := "fnExactPrioOf", fn := fun _ => fun
  | [d] => { results := [.lit (.bool true)], args := [d] }
  | _ => none }
def fnExactPrioOfRow : OpenClaim := { program := "ytehgffojgiefaaa", sum := "57837aaa39b44e7bec76bba3af2e97cbaf2df44135b7aae977536a22174dbe41", func := "loop.example/g00469/laws.FnExactPrioOf", spec := "fnExactPrioOf", recurses := true, loops := true, apart := false }
def FnExactPrioOfSaid : Prop := fnExactPrioOfRow.holds Try.pinned (OpenSpec.ofChange fnExactPrioOfSpec)

/-- ITS FALSE NEIGHBOUR: 'it returns false'. Refute it at one input. -/
def fnExactPrioOfWrong : ChangeSpec := { name := "fnExactPrioOf", fn := fun _ => fun
  | [d] => { results := [.lit (.bool false)], args := [d] }
  | _ => none }
def FnExactPrioOfWrongFalsely : Prop := fnExactPrioOfRow.holds Try.pinned (OpenSpec.ofChange fnExactPrioOfWrong)

/-- 'laws.FnExactNeatClause': WHATEVER THE INPUT: true; the input reads as it did. -/
def fnExactNeatClauseSpec : ChangeSpec := { name := "fnExactNeatClause", fn := fun _ => fun
  | [d] => { results := [.lit (.bool true)], args := [d] }
  | _ => none }
def fnExactNeatClauseRow : OpenClaim := { program := "ytehgffojgiefaaa", sum := "57837aaa39b44e7bec76bba3af2e97cbaf2df44135b7aae977536a22174dbe41", func := "loop.example/g00469/laws.FnExactNeatClause", spec := "fnExactNeatClause", unfollowed := true, recurses := true, loops := true, apart := false }
def FnExactNeatClauseSaid : Prop := fnExactNeatClauseRow.holds Try.pinned (OpenSpec.ofChange fnExactNeatClauseSpec)

/-- ITS FALSE NEIGHBOUR: 'it returns false'. Refute it at one input. -/
def fnExactNeatClauseWrong : ChangeSpec := { name := "fnExactNeatClause", fn := fun _ => fun
  | [d] => { results := [.lit (.bool false)], args := [d] }
  | _ => none }
def FnExactNeatClauseWrongFalsely : Prop := fnExactNeatClauseRow.holds Try.pinned (OpenSpec.ofChange fnExactNeatClauseWrong)

/-- 'laws.FnExactShowSession': WHATEVER THE INPUT: true; the input reads as it did. -/
def fnExactShowSessionSpec : ChangeSpec := { name := "fnExactShowSession", fn := fun _ => fun
  | [d] => { results := [.lit (.bool true)], args := [d] }
  | _ => none }
def fnExactShowSessionRow : OpenClaim := { program := "ytehgffojgiefaaa", sum := "57837aaa39b44e7bec76bba3af2e97cbaf2df44135b7aae977536a22174dbe41", func := "loop.example/g00469/laws.FnExactShowSession", spec := "fnExactShowSession", recurses := true, loops := true, apart := false }
def FnExactShowSessionSaid : Prop := fnExactShowSessionRow.holds Try.pinned (OpenSpec.ofChange fnExactShowSessionSpec)

/-- ITS FALSE NEIGHBOUR: 'it returns false'. Refute it at one input. -/
def fnExactShowSessionWrong : ChangeSpec := { name := "fnExactShowSession", fn := fun _ => fun
  | [d] => { results := [.lit (.bool false)], args := [d] }
  | _ => none }
def FnExactShowSessionWrongFalsely : Prop := fnExactShowSessionRow.holds Try.pinned (OpenSpec.ofChange fnExactShowSessionWrong)

/-- 'laws.FnExactClauseAt': WHATEVER THE INPUT: true; the input reads as it did. -/
def fnExactClauseAtSpec : ChangeSpec := { name := "fnExactClauseAt", fn := fun _ => fun
  | [d1, d2] => { results := [.lit (.bool true)], args := [d1, d2] }
  | _ => none }
def fnExactClauseAtRow : OpenClaim := { program := "ytehgffojgiefaaa", sum := "57837aaa39b44e7bec76bba3af2e97cbaf2df44135b7aae977536a22174dbe41", func := "loop.example/g00469/laws.FnExactClauseAt", spec := "fnExactClauseAt", unfollowed := true, recurses := true, loops := true, apart := false }
def FnExactClauseAtSaid : Prop := fnExactClauseAtRow.holds Try.pinned (OpenSpec.ofChange fnExactClauseAtSpec)

/-- ITS FALSE NEIGHBOUR: 'it returns false'. Refute it at one input. -/
def fnExactClauseAtWrong : ChangeSpec := { name := "fnExactClauseAt", fn := fun _ => fun
  | [d1, d2] => { results := [.lit (.bool false)], args := [d1, d2] }
  | _ => none }
def FnExactClauseAtWrongFalsely : Prop := fnExactClauseAtRow.holds Try.pinned (OpenSpec.ofChange fnExactClauseAtWrong)

/-- 'laws.FnExactSameSet': WHATEVER THE INPUT: true; the input reads as it did. -/
def fnExactSameSetSpec : ChangeSpec := { name := "fnExactSameSet", fn := fun _ => fun
  | [d1, d2] => { results := [.lit (.bool true)], args := [d1, d2] }
  | _ => none }
def fnExactSameSetRow : OpenClaim := { program := "ytehgffojgiefaaa", sum := "57837aaa39b44e7bec76bba3af2e97cbaf2df44135b7aae977536a22174dbe41", func := "loop.example/g00469/laws.FnExactSameSet", spec := "fnExactSameSet", unfollowed := true, recurses := true, loops := true, apart := false }
def FnExactSameSetSaid : Prop := fnExactSameSetRow.holds Try.pinned (OpenSpec.ofChange fnExactSameSetSpec)

/-- ITS FALSE NEIGHBOUR: 'it returns false'. Refute it at one input. -/
def fnExactSameSetWrong : ChangeSpec := { name := "fnExactSameSet", fn := fun _ => fun
  | [d1, d2] => { results := [.lit (.bool false)], args := [d1, d2] }
  | _ => none }
def FnExactSameSetWrongFalsely : Prop := fnExactSameSetRow.holds Try.pinned (OpenSpec.ofChange fnExactSameSetWrong)

/- THE SECOND FORM. 'bulk': how many values and letters a reading holds, each counted each time it is reached (what is shared counts as often as it is met; a slice's spare places count too). A statement '..UptoSaid' is the law's where the arguments, and the package variables that the reading takes, are together of bulk at most 1048576: NARROWER than '..Said'. Prove '..Said' where nothing that the law and all that it calls make is longer than what came in: it says more and counts as full. Else prove '..UptoSaid'. A law counts once. -/
mutual
def uptoBulk {H : Type} : DataW H → Nat
  | .lit (.string bytes) => bytes.length + 1
  | .lit _ => 1
  | .nil => 1
  | .ptr d => uptoBulk d + 1
  | .slice elems spare => uptoBulkAll elems + uptoBulkAll spare + 1
  | .agg parts => uptoBulkAll parts + 1
  | .iface _ d => uptoBulk d + 1
  | .map entries => uptoBulkEntries entries + 1
  | .held _ => 1
def uptoBulkAll {H : Type} : List (DataW H) → Nat
  | [] => 0
  | d :: r => uptoBulk d + uptoBulkAll r
def uptoBulkEntries {H : Type} : List (Lit × DataW H) → Nat
  | [] => 0
  | x :: r => uptoBulkEntry x + uptoBulkEntries r
def uptoBulkEntry {H : Type} : Lit × DataW H → Nat
  | (.string bytes, d) => bytes.length + uptoBulk d + 1
  | (_, d) => uptoBulk d + 1
 end
def uptoSmall : (H : Type) → List (DataW H) → Bool := fun _ ds => decide (uptoBulkAll ds ≤ 1048576)
def OpenSpec.upto (s : _root_.Go.ChangeSpec) : _root_.Go.OpenSpec := { _root_.Go.OpenSpec.ofChange s with cond := some uptoSmall }

/-- 'laws.FnExactPrioOf', WHERE WHAT IT READS IS OF BULK AT MOST 1048576: true; the input reads as it did. -/
def fnExactPrioOfUptoRow : OpenClaim := { program := "ytehgffojgiefaaa", sum := "57837aaa39b44e7bec76bba3af2e97cbaf2df44135b7aae977536a22174dbe41", func := "loop.example/g00469/laws.FnExactPrioOf", spec := "fnExactPrioOf", recurses := true, loops := true, apart := false, narrowed := true }
def FnExactPrioOfUptoSaid : Prop := fnExactPrioOfUptoRow.holds Try.pinned (OpenSpec.upto fnExactPrioOfSpec)

/-- 'laws.FnExactNeatClause', WHERE WHAT IT READS IS OF BULK AT MOST 1048576: true; the input reads as it did. -/
def fnExactNeatClauseUptoRow : OpenClaim := { program := "ytehgffojgiefaaa", sum := "57837aaa39b44e7bec76bba3af2e97cbaf2df44135b7aae977536a22174dbe41", func := "loop.example/g00469/laws.FnExactNeatClause", spec := "fnExactNeatClause", unfollowed := true, recurses := true, loops := true, apart := false, narrowed := true }
def FnExactNeatClauseUptoSaid : Prop := fnExactNeatClauseUptoRow.holds Try.pinned (OpenSpec.upto fnExactNeatClauseSpec)

/-- 'laws.FnExactShowSession', WHERE WHAT IT READS IS OF BULK AT MOST 1048576: true; the input reads as it did. -/
def fnExactShowSessionUptoRow : OpenClaim := { program := "ytehgffojgiefaaa", sum := "57837aaa39b44e7bec76bba3af2e97cbaf2df44135b7aae977536a22174dbe41", func := "loop.example/g00469/laws.FnExactShowSession", spec := "fnExactShowSession", recurses := true, loops := true, apart := false, narrowed := true }
def FnExactShowSessionUptoSaid : Prop := fnExactShowSessionUptoRow.holds Try.pinned (OpenSpec.upto fnExactShowSessionSpec)

/-- 'laws.FnExactClauseAt', WHERE WHAT IT READS IS OF BULK AT MOST 1048576: true; the input reads as it did. -/
def fnExactClauseAtUptoRow : OpenClaim := { program := "ytehgffojgiefaaa", sum := "57837aaa39b44e7bec76bba3af2e97cbaf2df44135b7aae977536a22174dbe41", func := "loop.example/g00469/laws.FnExactClauseAt", spec := "fnExactClauseAt", unfollowed := true, recurses := true, loops := true, apart := false, narrowed := true }
def FnExactClauseAtUptoSaid : Prop := fnExactClauseAtUptoRow.holds Try.pinned (OpenSpec.upto fnExactClauseAtSpec)

/-- 'laws.FnExactSameSet', WHERE WHAT IT READS IS OF BULK AT MOST 1048576: true; the input reads as it did. -/
def fnExactSameSetUptoRow : OpenClaim := { program := "ytehgffojgiefaaa", sum := "57837aaa39b44e7bec76bba3af2e97cbaf2df44135b7aae977536a22174dbe41", func := "loop.example/g00469/laws.FnExactSameSet", spec := "fnExactSameSet", unfollowed := true, recurses := true, loops := true, apart := false, narrowed := true }
def FnExactSameSetUptoSaid : Prop := fnExactSameSetUptoRow.holds Try.pinned (OpenSpec.upto fnExactSameSetSpec)

end Rows
end Go.Proofs.Ytehgffojgiefaaa
