/-
  No cell of these rows narrows 'for every input' (looked for: loops, veiled, ifaces, maps, wideKeys, modest, calm, conditions, laid).
  DERIVED. THE GIVEN ROWS OF THIS SEAT. 9 by the template 'for every input the law returns true; each argument reads behind the call as it read before'; 0 by the template 'total and deterministic' (their statements: YtilpfkjhahnfaaaGreatTotals.lean).
  GIVEN WITH THE SEED: the statements are not yours to turn. If you find one false, say at which input.
  Laid BY PROGRAM, IN A SANDBOX (cutbox-rows.mjs): the forced cells as the released guide's own fill.sh prints them over the translation 4fd07cc2e1e251c8… (all of the seat's roots in one cut). By AI agents, Wed Nov 11 2026. No macro, syntax, notation, axiom, sorry.
-/
import Derived.Test.YtilpfkjhahnfaaaGreatChecked
import GoSem.Claim
import GoSem.ClaimJoined
import GoSem.ClaimMapViews
import Derived.JoinedTies
import Derived.KernelRfl
namespace Go.Proofs.YtilpfkjhahnfaaaGreat
/- THE CELL 'sum', in the pinned program and in every row, IS THE sha256 OF THE DUMP (.gsa) THAT YtilpfkjhahnfaaaGreatProg.lean LOADS. Nothing in Lean hashes anything: it is a label: what it is worth is what the hold of that sum in a sandbox is worth. -/
noncomputable def Tryz.pinned : Pinned := { name := "ytilpfkjhahnfaaagreat", sum := "4fd07cc2e1e251c8d82b71c554e538902e703ac1518adb31a36f2f240f8d289c", checked := Tryz.checked }
namespace Rows
def none {H : Type} : Left H := { results := [], args := [] }

/-- 'leavenlaw09.ScopeNumbers': WHATEVER THE INPUT: true; the input reads as it did. -/
def scopeNumbersSpec : ChangeSpec := { name := "scopeNumbers", fn := fun _ => fun
  | [d1, d2, d3] => { results := [.lit (.bool true)], args := [d1, d2, d3] }
  | _ => none }
def scopeNumbersRow : OpenClaim := { program := "ytilpfkjhahnfaaagreat", sum := "4fd07cc2e1e251c8d82b71c554e538902e703ac1518adb31a36f2f240f8d289c", func := "leaven/leavenlaw09.ScopeNumbers", spec := "scopeNumbers", unfollowed := true, recurses := true, apart := false }
def ScopeNumbersSaid : Prop := scopeNumbersRow.holds Tryz.pinned (OpenSpec.ofChange scopeNumbersSpec)

/-- ITS FALSE NEIGHBOUR: 'it returns false'. Refute it at one input. -/
def scopeNumbersWrong : ChangeSpec := { name := "scopeNumbers", fn := fun _ => fun
  | [d1, d2, d3] => { results := [.lit (.bool false)], args := [d1, d2, d3] }
  | _ => none }
def ScopeNumbersWrongFalsely : Prop := scopeNumbersRow.holds Tryz.pinned (OpenSpec.ofChange scopeNumbersWrong)

/-- 'leavenlaw09.ScopeEnvs': WHATEVER THE INPUT: true; the input reads as it did. -/
def scopeEnvsSpec : ChangeSpec := { name := "scopeEnvs", fn := fun _ => fun
  | [d1, d2, d3] => { results := [.lit (.bool true)], args := [d1, d2, d3] }
  | _ => none }
def scopeEnvsRow : OpenClaim := { program := "ytilpfkjhahnfaaagreat", sum := "4fd07cc2e1e251c8d82b71c554e538902e703ac1518adb31a36f2f240f8d289c", func := "leaven/leavenlaw09.ScopeEnvs", spec := "scopeEnvs", unfollowed := true, recurses := true, apart := false }
def ScopeEnvsSaid : Prop := scopeEnvsRow.holds Tryz.pinned (OpenSpec.ofChange scopeEnvsSpec)

/-- ITS FALSE NEIGHBOUR: 'it returns false'. Refute it at one input. -/
def scopeEnvsWrong : ChangeSpec := { name := "scopeEnvs", fn := fun _ => fun
  | [d1, d2, d3] => { results := [.lit (.bool false)], args := [d1, d2, d3] }
  | _ => none }
def ScopeEnvsWrongFalsely : Prop := scopeEnvsRow.holds Tryz.pinned (OpenSpec.ofChange scopeEnvsWrong)

/-- 'leavenlaw09.ScopeNames': WHATEVER THE INPUT: true; the input reads as it did. -/
def scopeNamesSpec : ChangeSpec := { name := "scopeNames", fn := fun _ => fun
  | [d] => { results := [.lit (.bool true)], args := [d] }
  | _ => none }
def scopeNamesRow : OpenClaim := { program := "ytilpfkjhahnfaaagreat", sum := "4fd07cc2e1e251c8d82b71c554e538902e703ac1518adb31a36f2f240f8d289c", func := "leaven/leavenlaw09.ScopeNames", spec := "scopeNames", unfollowed := true, recurses := true, apart := false }
def ScopeNamesSaid : Prop := scopeNamesRow.holds Tryz.pinned (OpenSpec.ofChange scopeNamesSpec)

/-- ITS FALSE NEIGHBOUR: 'it returns false'. Refute it at one input. -/
def scopeNamesWrong : ChangeSpec := { name := "scopeNames", fn := fun _ => fun
  | [d] => { results := [.lit (.bool false)], args := [d] }
  | _ => none }
def ScopeNamesWrongFalsely : Prop := scopeNamesRow.holds Tryz.pinned (OpenSpec.ofChange scopeNamesWrong)

/-- 'leavenlaw09.ScopeNamed': WHATEVER THE INPUT: true; the input reads as it did. -/
def scopeNamedSpec : ChangeSpec := { name := "scopeNamed", fn := fun _ => fun
  | [d] => { results := [.lit (.bool true)], args := [d] }
  | _ => none }
def scopeNamedRow : OpenClaim := { program := "ytilpfkjhahnfaaagreat", sum := "4fd07cc2e1e251c8d82b71c554e538902e703ac1518adb31a36f2f240f8d289c", func := "leaven/leavenlaw09.ScopeNamed", spec := "scopeNamed", unfollowed := true, recurses := true, apart := false }
def ScopeNamedSaid : Prop := scopeNamedRow.holds Tryz.pinned (OpenSpec.ofChange scopeNamedSpec)

/-- ITS FALSE NEIGHBOUR: 'it returns false'. Refute it at one input. -/
def scopeNamedWrong : ChangeSpec := { name := "scopeNamed", fn := fun _ => fun
  | [d] => { results := [.lit (.bool false)], args := [d] }
  | _ => none }
def ScopeNamedWrongFalsely : Prop := scopeNamedRow.holds Tryz.pinned (OpenSpec.ofChange scopeNamedWrong)

/-- 'leavenlaw09.ScopeProgram': WHATEVER THE INPUT: true; the input reads as it did. -/
def scopeProgramSpec : ChangeSpec := { name := "scopeProgram", fn := fun _ => fun
  | [d] => { results := [.lit (.bool true)], args := [d] }
  | _ => none }
def scopeProgramRow : OpenClaim := { program := "ytilpfkjhahnfaaagreat", sum := "4fd07cc2e1e251c8d82b71c554e538902e703ac1518adb31a36f2f240f8d289c", func := "leaven/leavenlaw09.ScopeProgram", spec := "scopeProgram", unfollowed := true, recurses := true, apart := false }
def ScopeProgramSaid : Prop := scopeProgramRow.holds Tryz.pinned (OpenSpec.ofChange scopeProgramSpec)

/-- ITS FALSE NEIGHBOUR: 'it returns false'. Refute it at one input. -/
def scopeProgramWrong : ChangeSpec := { name := "scopeProgram", fn := fun _ => fun
  | [d] => { results := [.lit (.bool false)], args := [d] }
  | _ => none }
def ScopeProgramWrongFalsely : Prop := scopeProgramRow.holds Tryz.pinned (OpenSpec.ofChange scopeProgramWrong)

/-- 'leavenlaw09.ScopeTurned': WHATEVER THE INPUT: true; the input reads as it did. -/
def scopeTurnedSpec : ChangeSpec := { name := "scopeTurned", fn := fun _ => fun
  | [d] => { results := [.lit (.bool true)], args := [d] }
  | _ => none }
def scopeTurnedRow : OpenClaim := { program := "ytilpfkjhahnfaaagreat", sum := "4fd07cc2e1e251c8d82b71c554e538902e703ac1518adb31a36f2f240f8d289c", func := "leaven/leavenlaw09.ScopeTurned", spec := "scopeTurned", unfollowed := true, recurses := true, apart := false }
def ScopeTurnedSaid : Prop := scopeTurnedRow.holds Tryz.pinned (OpenSpec.ofChange scopeTurnedSpec)

/-- ITS FALSE NEIGHBOUR: 'it returns false'. Refute it at one input. -/
def scopeTurnedWrong : ChangeSpec := { name := "scopeTurned", fn := fun _ => fun
  | [d] => { results := [.lit (.bool false)], args := [d] }
  | _ => none }
def ScopeTurnedWrongFalsely : Prop := scopeTurnedRow.holds Tryz.pinned (OpenSpec.ofChange scopeTurnedWrong)

/-- 'leavenlaw11.AssignPrograms': WHATEVER THE INPUT: true; the input reads as it did. -/
def assignProgramsSpec : ChangeSpec := { name := "assignPrograms", fn := fun _ => fun
  | [d1, d2, d3] => { results := [.lit (.bool true)], args := [d1, d2, d3] }
  | _ => none }
def assignProgramsRow : OpenClaim := { program := "ytilpfkjhahnfaaagreat", sum := "4fd07cc2e1e251c8d82b71c554e538902e703ac1518adb31a36f2f240f8d289c", func := "leaven/leavenlaw11.AssignPrograms", spec := "assignPrograms", unfollowed := true, recurses := true, apart := false }
def AssignProgramsSaid : Prop := assignProgramsRow.holds Tryz.pinned (OpenSpec.ofChange assignProgramsSpec)

/-- ITS FALSE NEIGHBOUR: 'it returns false'. Refute it at one input. -/
def assignProgramsWrong : ChangeSpec := { name := "assignPrograms", fn := fun _ => fun
  | [d1, d2, d3] => { results := [.lit (.bool false)], args := [d1, d2, d3] }
  | _ => none }
def AssignProgramsWrongFalsely : Prop := assignProgramsRow.holds Tryz.pinned (OpenSpec.ofChange assignProgramsWrong)

/-- 'leavenlaw11.AssignMore': WHATEVER THE INPUT: true; the input reads as it did. -/
def assignMoreSpec : ChangeSpec := { name := "assignMore", fn := fun _ => fun
  | [d1, d2] => { results := [.lit (.bool true)], args := [d1, d2] }
  | _ => none }
def assignMoreRow : OpenClaim := { program := "ytilpfkjhahnfaaagreat", sum := "4fd07cc2e1e251c8d82b71c554e538902e703ac1518adb31a36f2f240f8d289c", func := "leaven/leavenlaw11.AssignMore", spec := "assignMore", unfollowed := true, recurses := true, apart := false }
def AssignMoreSaid : Prop := assignMoreRow.holds Tryz.pinned (OpenSpec.ofChange assignMoreSpec)

/-- ITS FALSE NEIGHBOUR: 'it returns false'. Refute it at one input. -/
def assignMoreWrong : ChangeSpec := { name := "assignMore", fn := fun _ => fun
  | [d1, d2] => { results := [.lit (.bool false)], args := [d1, d2] }
  | _ => none }
def AssignMoreWrongFalsely : Prop := assignMoreRow.holds Tryz.pinned (OpenSpec.ofChange assignMoreWrong)

/-- 'leavenlaw11.AssignAll': WHATEVER THE INPUT: true; the input reads as it did. -/
def assignAllSpec : ChangeSpec := { name := "assignAll", fn := fun _ => fun
  | [d1, d2, d3] => { results := [.lit (.bool true)], args := [d1, d2, d3] }
  | _ => none }
def assignAllRow : OpenClaim := { program := "ytilpfkjhahnfaaagreat", sum := "4fd07cc2e1e251c8d82b71c554e538902e703ac1518adb31a36f2f240f8d289c", func := "leaven/leavenlaw11.AssignAll", spec := "assignAll", unfollowed := true, recurses := true, apart := false }
def AssignAllSaid : Prop := assignAllRow.holds Tryz.pinned (OpenSpec.ofChange assignAllSpec)

/-- ITS FALSE NEIGHBOUR: 'it returns false'. Refute it at one input. -/
def assignAllWrong : ChangeSpec := { name := "assignAll", fn := fun _ => fun
  | [d1, d2, d3] => { results := [.lit (.bool false)], args := [d1, d2, d3] }
  | _ => none }
def AssignAllWrongFalsely : Prop := assignAllRow.holds Tryz.pinned (OpenSpec.ofChange assignAllWrong)

/- THE SECOND FORM. 'bulk': how many values and letters a reading holds, each counted each time it is reached (what is shared counts as often as it is met; a slice's spare places count too). A statement '..UptoSaid' is the law's where the arguments, and the package variables that the reading takes, are together of bulk at most 1048576: NARROWER than '..Said'. Prove '..Said' where nothing that the law and all that it calls make is longer than what came in: it says more and counts as full. Else prove '..UptoSaid'. A law counts once. -/
mutual
def uptoBulk {H : Type} : DataW H → Nat
  | .lit (.string bytes) => bytes.length + 1
  | .lit _ => 1
  | .nil => 1
  | .ptr d => uptoBulk d + 1
  | .slice elems spare => uptoBulkAll elems + uptoBulkAll spare + 1
  | .agg parts => uptoBulkAll parts + 1
  | .iface _ d => uptoBulk d + 1
  | .map entries => uptoBulkEntries entries + 1
  | .held _ => 1
def uptoBulkAll {H : Type} : List (DataW H) → Nat
  | [] => 0
  | d :: r => uptoBulk d + uptoBulkAll r
def uptoBulkEntries {H : Type} : List (Lit × DataW H) → Nat
  | [] => 0
  | x :: r => uptoBulkEntry x + uptoBulkEntries r
def uptoBulkEntry {H : Type} : Lit × DataW H → Nat
  | (.string bytes, d) => bytes.length + uptoBulk d + 1
  | (_, d) => uptoBulk d + 1
 end
def uptoSmall : (H : Type) → List (DataW H) → Bool := fun _ ds => decide (uptoBulkAll ds ≤ 1048576)
def OpenSpec.upto (s : _root_.Go.ChangeSpec) : _root_.Go.OpenSpec := { _root_.Go.OpenSpec.ofChange s with cond := some uptoSmall }

/-- 'leavenlaw09.ScopeNumbers', WHERE WHAT IT READS IS OF BULK AT MOST 1048576: true; the input reads as it did. -/
def scopeNumbersUptoRow : OpenClaim := { program := "ytilpfkjhahnfaaagreat", sum := "4fd07cc2e1e251c8d82b71c554e538902e703ac1518adb31a36f2f240f8d289c", func := "leaven/leavenlaw09.ScopeNumbers", spec := "scopeNumbers", unfollowed := true, recurses := true, apart := false, narrowed := true }
def ScopeNumbersUptoSaid : Prop := scopeNumbersUptoRow.holds Tryz.pinned (OpenSpec.upto scopeNumbersSpec)

/-- 'leavenlaw09.ScopeEnvs', WHERE WHAT IT READS IS OF BULK AT MOST 1048576: true; the input reads as it did. -/
def scopeEnvsUptoRow : OpenClaim := { program := "ytilpfkjhahnfaaagreat", sum := "4fd07cc2e1e251c8d82b71c554e538902e703ac1518adb31a36f2f240f8d289c", func := "leaven/leavenlaw09.ScopeEnvs", spec := "scopeEnvs", unfollowed := true, recurses := true, apart := false, narrowed := true }
def ScopeEnvsUptoSaid : Prop := scopeEnvsUptoRow.holds Tryz.pinned (OpenSpec.upto scopeEnvsSpec)

/-- 'leavenlaw09.ScopeNames', WHERE WHAT IT READS IS OF BULK AT MOST 1048576: true; the input reads as it did. -/
def scopeNamesUptoRow : OpenClaim := { program := "ytilpfkjhahnfaaagreat", sum := "4fd07cc2e1e251c8d82b71c554e538902e703ac1518adb31a36f2f240f8d289c", func := "leaven/leavenlaw09.ScopeNames", spec := "scopeNames", unfollowed := true, recurses := true, apart := false, narrowed := true }
def ScopeNamesUptoSaid : Prop := scopeNamesUptoRow.holds Tryz.pinned (OpenSpec.upto scopeNamesSpec)

/-- 'leavenlaw09.ScopeNamed', WHERE WHAT IT READS IS OF BULK AT MOST 1048576: true; the input reads as it did. -/
def scopeNamedUptoRow : OpenClaim := { program := "ytilpfkjhahnfaaagreat", sum := "4fd07cc2e1e251c8d82b71c554e538902e703ac1518adb31a36f2f240f8d289c", func := "leaven/leavenlaw09.ScopeNamed", spec := "scopeNamed", unfollowed := true, recurses := true, apart := false, narrowed := true }
def ScopeNamedUptoSaid : Prop := scopeNamedUptoRow.holds Tryz.pinned (OpenSpec.upto scopeNamedSpec)

/-- 'leavenlaw09.ScopeProgram', WHERE WHAT IT READS IS OF BULK AT MOST 1048576: true; the input reads as it did. -/
def scopeProgramUptoRow : OpenClaim := { program := "ytilpfkjhahnfaaagreat", sum := "4fd07cc2e1e251c8d82b71c554e538902e703ac1518adb31a36f2f240f8d289c", func := "leaven/leavenlaw09.ScopeProgram", spec := "scopeProgram", unfollowed := true, recurses := true, apart := false, narrowed := true }
def ScopeProgramUptoSaid : Prop := scopeProgramUptoRow.holds Tryz.pinned (OpenSpec.upto scopeProgramSpec)

/-- 'leavenlaw09.ScopeTurned', WHERE WHAT IT READS IS OF BULK AT MOST 1048576: true; the input reads as it did. -/
def scopeTurnedUptoRow : OpenClaim := { program := "ytilpfkjhahnfaaagreat", sum := "4fd07cc2e1e251c8d82b71c554e538902e703ac1518adb31a36f2f240f8d289c", func := "leaven/leavenlaw09.ScopeTurned", spec := "scopeTurned", unfollowed := true, recurses := true, apart := false, narrowed := true }
def ScopeTurnedUptoSaid : Prop := scopeTurnedUptoRow.holds Tryz.pinned (OpenSpec.upto scopeTurnedSpec)

/-- 'leavenlaw11.AssignPrograms', WHERE WHAT IT READS IS OF BULK AT MOST 1048576: true; the input reads as it did. -/
def assignProgramsUptoRow : OpenClaim := { program := "ytilpfkjhahnfaaagreat", sum := "4fd07cc2e1e251c8d82b71c554e538902e703ac1518adb31a36f2f240f8d289c", func := "leaven/leavenlaw11.AssignPrograms", spec := "assignPrograms", unfollowed := true, recurses := true, apart := false, narrowed := true }
def AssignProgramsUptoSaid : Prop := assignProgramsUptoRow.holds Tryz.pinned (OpenSpec.upto assignProgramsSpec)

/-- 'leavenlaw11.AssignMore', WHERE WHAT IT READS IS OF BULK AT MOST 1048576: true; the input reads as it did. -/
def assignMoreUptoRow : OpenClaim := { program := "ytilpfkjhahnfaaagreat", sum := "4fd07cc2e1e251c8d82b71c554e538902e703ac1518adb31a36f2f240f8d289c", func := "leaven/leavenlaw11.AssignMore", spec := "assignMore", unfollowed := true, recurses := true, apart := false, narrowed := true }
def AssignMoreUptoSaid : Prop := assignMoreUptoRow.holds Tryz.pinned (OpenSpec.upto assignMoreSpec)

/-- 'leavenlaw11.AssignAll', WHERE WHAT IT READS IS OF BULK AT MOST 1048576: true; the input reads as it did. -/
def assignAllUptoRow : OpenClaim := { program := "ytilpfkjhahnfaaagreat", sum := "4fd07cc2e1e251c8d82b71c554e538902e703ac1518adb31a36f2f240f8d289c", func := "leaven/leavenlaw11.AssignAll", spec := "assignAll", unfollowed := true, recurses := true, apart := false, narrowed := true }
def AssignAllUptoSaid : Prop := assignAllUptoRow.holds Tryz.pinned (OpenSpec.upto assignAllSpec)

end Rows
end Go.Proofs.YtilpfkjhahnfaaaGreat
