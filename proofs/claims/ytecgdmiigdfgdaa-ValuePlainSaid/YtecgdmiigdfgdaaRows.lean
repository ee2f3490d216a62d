/-
  No cell of these rows narrows 'for every input' (looked for: loops, veiled, ifaces, maps, wideKeys, modest, calm, conditions, laid).
  DERIVED. THE GIVEN ROWS OF THIS SEAT. 11 by the template 'for every input the law returns true; each argument reads behind the call as it read before'; 0 by the template 'total and deterministic' (their statements: YtecgdmiigdfgdaaTotals.lean).
  GIVEN WITH THE SEED: the statements are not yours to turn. If you find one false, say at which input.
  Laid BY PROGRAM, IN A SANDBOX (cutbox-rows.mjs): the forced cells as the released guide's own fill.sh prints them over the translation a88256599587f0c9… (all of the seat's roots in one cut). By AI agents, Wed Nov 11 2026. No macro, syntax, notation, axiom, sorry.
-/
import Derived.Test.YtecgdmiigdfgdaaChecked
import GoSem.Claim
import GoSem.ClaimJoined
import GoSem.ClaimMapViews
import Derived.JoinedTies
import Derived.KernelRfl
namespace Go.Proofs.Ytecgdmiigdfgdaa
/- THE CELL 'sum', in the pinned program and in every row, IS THE sha256 OF THE DUMP (.gsa) THAT YtecgdmiigdfgdaaProg.lean LOADS. Nothing in Lean hashes anything: it is a label: what it is worth is what the hold of that sum in a sandbox is worth. -/
noncomputable def Try.pinned : Pinned := { name := "ytecgdmiigdfgdaa", sum := "a88256599587f0c9ace0c59e0e10e820efba151081e74e11ec4bbe7632ebee93", checked := Try.checked }
namespace Rows
def none {H : Type} : Left H := { results := [], args := [] }

/-- 'leavenlaw07.PrecOrder': WHATEVER THE INPUT: true; the input reads as it did. -/
def precOrderSpec : ChangeSpec := { name := "precOrder", fn := fun _ => fun
  | [d1, d2, d3] => { results := [.lit (.bool true)], args := [d1, d2, d3] }
  | _ => none }
def precOrderRow : OpenClaim := { program := "ytecgdmiigdfgdaa", sum := "a88256599587f0c9ace0c59e0e10e820efba151081e74e11ec4bbe7632ebee93", func := "leaven/leavenlaw07.PrecOrder", spec := "precOrder", unfollowed := true, recurses := true, apart := false }
def PrecOrderSaid : Prop := precOrderRow.holds Try.pinned (OpenSpec.ofChange precOrderSpec)

/-- ITS FALSE NEIGHBOUR: 'it returns false'. Refute it at one input. -/
def precOrderWrong : ChangeSpec := { name := "precOrder", fn := fun _ => fun
  | [d1, d2, d3] => { results := [.lit (.bool false)], args := [d1, d2, d3] }
  | _ => none }
def PrecOrderWrongFalsely : Prop := precOrderRow.holds Try.pinned (OpenSpec.ofChange precOrderWrong)

/-- 'leavenlaw07.PrecMeets': WHATEVER THE INPUT: true; the input reads as it did. -/
def precMeetsSpec : ChangeSpec := { name := "precMeets", fn := fun _ => fun
  | [d1, d2, d3] => { results := [.lit (.bool true)], args := [d1, d2, d3] }
  | _ => none }
def precMeetsRow : OpenClaim := { program := "ytecgdmiigdfgdaa", sum := "a88256599587f0c9ace0c59e0e10e820efba151081e74e11ec4bbe7632ebee93", func := "leaven/leavenlaw07.PrecMeets", spec := "precMeets", unfollowed := true, recurses := true, apart := false }
def PrecMeetsSaid : Prop := precMeetsRow.holds Try.pinned (OpenSpec.ofChange precMeetsSpec)

/-- ITS FALSE NEIGHBOUR: 'it returns false'. Refute it at one input. -/
def precMeetsWrong : ChangeSpec := { name := "precMeets", fn := fun _ => fun
  | [d1, d2, d3] => { results := [.lit (.bool false)], args := [d1, d2, d3] }
  | _ => none }
def PrecMeetsWrongFalsely : Prop := precMeetsRow.holds Try.pinned (OpenSpec.ofChange precMeetsWrong)

/-- 'leavenlaw07.PrecThree': WHATEVER THE INPUT: true; the input reads as it did. -/
def precThreeSpec : ChangeSpec := { name := "precThree", fn := fun _ => fun
  | [d1, d2, d3] => { results := [.lit (.bool true)], args := [d1, d2, d3] }
  | _ => none }
def precThreeRow : OpenClaim := { program := "ytecgdmiigdfgdaa", sum := "a88256599587f0c9ace0c59e0e10e820efba151081e74e11ec4bbe7632ebee93", func := "leaven/leavenlaw07.PrecThree", spec := "precThree", unfollowed := true, recurses := true, apart := false }
def PrecThreeSaid : Prop := precThreeRow.holds Try.pinned (OpenSpec.ofChange precThreeSpec)

/-- ITS FALSE NEIGHBOUR: 'it returns false'. Refute it at one input. -/
def precThreeWrong : ChangeSpec := { name := "precThree", fn := fun _ => fun
  | [d1, d2, d3] => { results := [.lit (.bool false)], args := [d1, d2, d3] }
  | _ => none }
def PrecThreeWrongFalsely : Prop := precThreeRow.holds Try.pinned (OpenSpec.ofChange precThreeWrong)

/-- 'leavenlaw07.PrecInside': WHATEVER THE INPUT: true; the input reads as it did. -/
def precInsideSpec : ChangeSpec := { name := "precInside", fn := fun _ => fun
  | [d1, d2] => { results := [.lit (.bool true)], args := [d1, d2] }
  | _ => none }
def precInsideRow : OpenClaim := { program := "ytecgdmiigdfgdaa", sum := "a88256599587f0c9ace0c59e0e10e820efba151081e74e11ec4bbe7632ebee93", func := "leaven/leavenlaw07.PrecInside", spec := "precInside", unfollowed := true, recurses := true, apart := false }
def PrecInsideSaid : Prop := precInsideRow.holds Try.pinned (OpenSpec.ofChange precInsideSpec)

/-- ITS FALSE NEIGHBOUR: 'it returns false'. Refute it at one input. -/
def precInsideWrong : ChangeSpec := { name := "precInside", fn := fun _ => fun
  | [d1, d2] => { results := [.lit (.bool false)], args := [d1, d2] }
  | _ => none }
def PrecInsideWrongFalsely : Prop := precInsideRow.holds Try.pinned (OpenSpec.ofChange precInsideWrong)

/-- 'leavenlaw19.ValueMay': WHATEVER THE INPUT: true; the input reads as it did. -/
def valueMaySpec : ChangeSpec := { name := "valueMay", fn := fun _ => fun
  | [d1, d2] => { results := [.lit (.bool true)], args := [d1, d2] }
  | _ => none }
def valueMayRow : OpenClaim := { program := "ytecgdmiigdfgdaa", sum := "a88256599587f0c9ace0c59e0e10e820efba151081e74e11ec4bbe7632ebee93", func := "leaven/leavenlaw19.ValueMay", spec := "valueMay", unfollowed := true, recurses := true, apart := false }
def ValueMaySaid : Prop := valueMayRow.holds Try.pinned (OpenSpec.ofChange valueMaySpec)

/-- ITS FALSE NEIGHBOUR: 'it returns false'. Refute it at one input. -/
def valueMayWrong : ChangeSpec := { name := "valueMay", fn := fun _ => fun
  | [d1, d2] => { results := [.lit (.bool false)], args := [d1, d2] }
  | _ => none }
def ValueMayWrongFalsely : Prop := valueMayRow.holds Try.pinned (OpenSpec.ofChange valueMayWrong)

/-- 'leavenlaw19.ValueKeeps': WHATEVER THE INPUT: true; the input reads as it did. -/
def valueKeepsSpec : ChangeSpec := { name := "valueKeeps", fn := fun _ => fun
  | [d1, d2, d3] => { results := [.lit (.bool true)], args := [d1, d2, d3] }
  | _ => none }
def valueKeepsRow : OpenClaim := { program := "ytecgdmiigdfgdaa", sum := "a88256599587f0c9ace0c59e0e10e820efba151081e74e11ec4bbe7632ebee93", func := "leaven/leavenlaw19.ValueKeeps", spec := "valueKeeps", unfollowed := true, recurses := true, apart := false }
def ValueKeepsSaid : Prop := valueKeepsRow.holds Try.pinned (OpenSpec.ofChange valueKeepsSpec)

/-- ITS FALSE NEIGHBOUR: 'it returns false'. Refute it at one input. -/
def valueKeepsWrong : ChangeSpec := { name := "valueKeeps", fn := fun _ => fun
  | [d1, d2, d3] => { results := [.lit (.bool false)], args := [d1, d2, d3] }
  | _ => none }
def ValueKeepsWrongFalsely : Prop := valueKeepsRow.holds Try.pinned (OpenSpec.ofChange valueKeepsWrong)

/-- 'leavenlaw19.ValueLess': WHATEVER THE INPUT: true; the input reads as it did. -/
def valueLessSpec : ChangeSpec := { name := "valueLess", fn := fun _ => fun
  | [d1, d2, d3] => { results := [.lit (.bool true)], args := [d1, d2, d3] }
  | _ => none }
def valueLessRow : OpenClaim := { program := "ytecgdmiigdfgdaa", sum := "a88256599587f0c9ace0c59e0e10e820efba151081e74e11ec4bbe7632ebee93", func := "leaven/leavenlaw19.ValueLess", spec := "valueLess", unfollowed := true, recurses := true, apart := false }
def ValueLessSaid : Prop := valueLessRow.holds Try.pinned (OpenSpec.ofChange valueLessSpec)

/-- ITS FALSE NEIGHBOUR: 'it returns false'. Refute it at one input. -/
def valueLessWrong : ChangeSpec := { name := "valueLess", fn := fun _ => fun
  | [d1, d2, d3] => { results := [.lit (.bool false)], args := [d1, d2, d3] }
  | _ => none }
def ValueLessWrongFalsely : Prop := valueLessRow.holds Try.pinned (OpenSpec.ofChange valueLessWrong)

/-- 'leavenlaw19.ValueWay': WHATEVER THE INPUT: true; the input reads as it did. -/
def valueWaySpec : ChangeSpec := { name := "valueWay", fn := fun _ => fun
  | [d1, d2] => { results := [.lit (.bool true)], args := [d1, d2] }
  | _ => none }
def valueWayRow : OpenClaim := { program := "ytecgdmiigdfgdaa", sum := "a88256599587f0c9ace0c59e0e10e820efba151081e74e11ec4bbe7632ebee93", func := "leaven/leavenlaw19.ValueWay", spec := "valueWay", unfollowed := true, recurses := true, apart := false }
def ValueWaySaid : Prop := valueWayRow.holds Try.pinned (OpenSpec.ofChange valueWaySpec)

/-- ITS FALSE NEIGHBOUR: 'it returns false'. Refute it at one input. -/
def valueWayWrong : ChangeSpec := { name := "valueWay", fn := fun _ => fun
  | [d1, d2] => { results := [.lit (.bool false)], args := [d1, d2] }
  | _ => none }
def ValueWayWrongFalsely : Prop := valueWayRow.holds Try.pinned (OpenSpec.ofChange valueWayWrong)

/-- 'leavenlaw19.ValueFits': WHATEVER THE INPUT: true; the input reads as it did. -/
def valueFitsSpec : ChangeSpec := { name := "valueFits", fn := fun _ => fun
  | [d1, d2] => { results := [.lit (.bool true)], args := [d1, d2] }
  | _ => none }
def valueFitsRow : OpenClaim := { program := "ytecgdmiigdfgdaa", sum := "a88256599587f0c9ace0c59e0e10e820efba151081e74e11ec4bbe7632ebee93", func := "leaven/leavenlaw19.ValueFits", spec := "valueFits", unfollowed := true, recurses := true, apart := false }
def ValueFitsSaid : Prop := valueFitsRow.holds Try.pinned (OpenSpec.ofChange valueFitsSpec)

/-- ITS FALSE NEIGHBOUR: 'it returns false'. Refute it at one input. -/
def valueFitsWrong : ChangeSpec := { name := "valueFits", fn := fun _ => fun
  | [d1, d2] => { results := [.lit (.bool false)], args := [d1, d2] }
  | _ => none }
def ValueFitsWrongFalsely : Prop := valueFitsRow.holds Try.pinned (OpenSpec.ofChange valueFitsWrong)

/-- 'leavenlaw19.ValueBack': WHATEVER THE INPUT: true; the input reads as it did. -/
def valueBackSpec : ChangeSpec := { name := "valueBack", fn := fun _ => fun
  | [d1, d2, d3] => { results := [.lit (.bool true)], args := [d1, d2, d3] }
  | _ => none }
def valueBackRow : OpenClaim := { program := "ytecgdmiigdfgdaa", sum := "a88256599587f0c9ace0c59e0e10e820efba151081e74e11ec4bbe7632ebee93", func := "leaven/leavenlaw19.ValueBack", spec := "valueBack", unfollowed := true, recurses := true, apart := false }
def ValueBackSaid : Prop := valueBackRow.holds Try.pinned (OpenSpec.ofChange valueBackSpec)

/-- ITS FALSE NEIGHBOUR: 'it returns false'. Refute it at one input. -/
def valueBackWrong : ChangeSpec := { name := "valueBack", fn := fun _ => fun
  | [d1, d2, d3] => { results := [.lit (.bool false)], args := [d1, d2, d3] }
  | _ => none }
def ValueBackWrongFalsely : Prop := valueBackRow.holds Try.pinned (OpenSpec.ofChange valueBackWrong)

/-- 'leavenlaw19.ValuePlain': WHATEVER THE INPUT: true; the input reads as it did. -/
def valuePlainSpec : ChangeSpec := { name := "valuePlain", fn := fun _ => fun
  | [d1, d2, d3] => { results := [.lit (.bool true)], args := [d1, d2, d3] }
  | _ => none }
def valuePlainRow : OpenClaim := { program := "ytecgdmiigdfgdaa", sum := "a88256599587f0c9ace0c59e0e10e820efba151081e74e11ec4bbe7632ebee93", func := "leaven/leavenlaw19.ValuePlain", spec := "valuePlain", unfollowed := true, recurses := true, apart := false }
def ValuePlainSaid : Prop := valuePlainRow.holds Try.pinned (OpenSpec.ofChange valuePlainSpec)

/-- ITS FALSE NEIGHBOUR: 'it returns false'. Refute it at one input. -/
def valuePlainWrong : ChangeSpec := { name := "valuePlain", fn := fun _ => fun
  | [d1, d2, d3] => { results := [.lit (.bool false)], args := [d1, d2, d3] }
  | _ => none }
def ValuePlainWrongFalsely : Prop := valuePlainRow.holds Try.pinned (OpenSpec.ofChange valuePlainWrong)

/- THE SECOND FORM. 'bulk': how many values and letters a reading holds, each counted each time it is reached (what is shared counts as often as it is met; a slice's spare places count too). A statement '..UptoSaid' is the law's where the arguments, and the package variables that the reading takes, are together of bulk at most 1048576: NARROWER than '..Said'. Prove '..Said' where nothing that the law and all that it calls make is longer than what came in: it says more and counts as full. Else prove '..UptoSaid'. A law counts once. -/
mutual
def uptoBulk {H : Type} : DataW H → Nat
  | .lit (.string bytes) => bytes.length + 1
  | .lit _ => 1
  | .nil => 1
  | .ptr d => uptoBulk d + 1
  | .slice elems spare => uptoBulkAll elems + uptoBulkAll spare + 1
  | .agg parts => uptoBulkAll parts + 1
  | .iface _ d => uptoBulk d + 1
  | .map entries => uptoBulkEntries entries + 1
  | .held _ => 1
def uptoBulkAll {H : Type} : List (DataW H) → Nat
  | [] => 0
  | d :: r => uptoBulk d + uptoBulkAll r
def uptoBulkEntries {H : Type} : List (Lit × DataW H) → Nat
  | [] => 0
  | x :: r => uptoBulkEntry x + uptoBulkEntries r
def uptoBulkEntry {H : Type} : Lit × DataW H → Nat
  | (.string bytes, d) => bytes.length + uptoBulk d + 1
  | (_, d) => uptoBulk d + 1
 end
def uptoSmall : (H : Type) → List (DataW H) → Bool := fun _ ds => decide (uptoBulkAll ds ≤ 1048576)
def OpenSpec.upto (s : _root_.Go.ChangeSpec) : _root_.Go.OpenSpec := { _root_.Go.OpenSpec.ofChange s with cond := some uptoSmall }

/-- 'leavenlaw07.PrecOrder', WHERE WHAT IT READS IS OF BULK AT MOST 1048576: true; the input reads as it did. -/
def precOrderUptoRow : OpenClaim := { program := "ytecgdmiigdfgdaa", sum := "a88256599587f0c9ace0c59e0e10e820efba151081e74e11ec4bbe7632ebee93", func := "leaven/leavenlaw07.PrecOrder", spec := "precOrder", unfollowed := true, recurses := true, apart := false, narrowed := true }
def PrecOrderUptoSaid : Prop := precOrderUptoRow.holds Try.pinned (OpenSpec.upto precOrderSpec)

/-- 'leavenlaw07.PrecMeets', WHERE WHAT IT READS IS OF BULK AT MOST 1048576: true; the input reads as it did. -/
def precMeetsUptoRow : OpenClaim := { program := "ytecgdmiigdfgdaa", sum := "a88256599587f0c9ace0c59e0e10e820efba151081e74e11ec4bbe7632ebee93", func := "leaven/leavenlaw07.PrecMeets", spec := "precMeets", unfollowed := true, recurses := true, apart := false, narrowed := true }
def PrecMeetsUptoSaid : Prop := precMeetsUptoRow.holds Try.pinned (OpenSpec.upto precMeetsSpec)

/-- 'leavenlaw07.PrecThree', WHERE WHAT IT READS IS OF BULK AT MOST 1048576: true; the input reads as it did. -/
def precThreeUptoRow : OpenClaim := { program := "ytecgdmiigdfgdaa", sum := "a88256599587f0c9ace0c59e0e10e820efba151081e74e11ec4bbe7632ebee93", func := "leaven/leavenlaw07.PrecThree", spec := "precThree", unfollowed := true, recurses := true, apart := false, narrowed := true }
def PrecThreeUptoSaid : Prop := precThreeUptoRow.holds Try.pinned (OpenSpec.upto precThreeSpec)

/-- 'leavenlaw07.PrecInside', WHERE WHAT IT READS IS OF BULK AT MOST 1048576: true; the input reads as it did. -/
def precInsideUptoRow : OpenClaim := { program := "ytecgdmiigdfgdaa", sum := "a88256599587f0c9ace0c59e0e10e820efba151081e74e11ec4bbe7632ebee93", func := "leaven/leavenlaw07.PrecInside", spec := "precInside", unfollowed := true, recurses := true, apart := false, narrowed := true }
def PrecInsideUptoSaid : Prop := precInsideUptoRow.holds Try.pinned (OpenSpec.upto precInsideSpec)

/-- 'leavenlaw19.ValueMay', WHERE WHAT IT READS IS OF BULK AT MOST 1048576: true; the input reads as it did. -/
def valueMayUptoRow : OpenClaim := { program := "ytecgdmiigdfgdaa", sum := "a88256599587f0c9ace0c59e0e10e820efba151081e74e11ec4bbe7632ebee93", func := "leaven/leavenlaw19.ValueMay", spec := "valueMay", unfollowed := true, recurses := true, apart := false, narrowed := true }
def ValueMayUptoSaid : Prop := valueMayUptoRow.holds Try.pinned (OpenSpec.upto valueMaySpec)

/-- 'leavenlaw19.ValueKeeps', WHERE WHAT IT READS IS OF BULK AT MOST 1048576: true; the input reads as it did. -/
def valueKeepsUptoRow : OpenClaim := { program := "ytecgdmiigdfgdaa", sum := "a88256599587f0c9ace0c59e0e10e820efba151081e74e11ec4bbe7632ebee93", func := "leaven/leavenlaw19.ValueKeeps", spec := "valueKeeps", unfollowed := true, recurses := true, apart := false, narrowed := true }
def ValueKeepsUptoSaid : Prop := valueKeepsUptoRow.holds Try.pinned (OpenSpec.upto valueKeepsSpec)

/-- 'leavenlaw19.ValueLess', WHERE WHAT IT READS IS OF BULK AT MOST 1048576: true; the input reads as it did. -/
def valueLessUptoRow : OpenClaim := { program := "ytecgdmiigdfgdaa", sum := "a88256599587f0c9ace0c59e0e10e820efba151081e74e11ec4bbe7632ebee93", func := "leaven/leavenlaw19.ValueLess", spec := "valueLess", unfollowed := true, recurses := true, apart := false, narrowed := true }
def ValueLessUptoSaid : Prop := valueLessUptoRow.holds Try.pinned (OpenSpec.upto valueLessSpec)

/-- 'leavenlaw19.ValueWay', WHERE WHAT IT READS IS OF BULK AT MOST 1048576: true; the input reads as it did. -/
def valueWayUptoRow : OpenClaim := { program := "ytecgdmiigdfgdaa", sum := "a88256599587f0c9ace0c59e0e10e820efba151081e74e11ec4bbe7632ebee93", func := "leaven/leavenlaw19.ValueWay", spec := "valueWay", unfollowed := true, recurses := true, apart := false, narrowed := true }
def ValueWayUptoSaid : Prop := valueWayUptoRow.holds Try.pinned (OpenSpec.upto valueWaySpec)

/-- 'leavenlaw19.ValueFits', WHERE WHAT IT READS IS OF BULK AT MOST 1048576: true; the input reads as it did. -/
def valueFitsUptoRow : OpenClaim := { program := "ytecgdmiigdfgdaa", sum := "a88256599587f0c9ace0c59e0e10e820efba151081e74e11ec4bbe7632ebee93", func := "leaven/leavenlaw19.ValueFits", spec := "valueFits", unfollowed := true, recurses := true, apart := false, narrowed := true }
def ValueFitsUptoSaid : Prop := valueFitsUptoRow.holds Try.pinned (OpenSpec.upto valueFitsSpec)

/-- 'leavenlaw19.ValueBack', WHERE WHAT IT READS IS OF BULK AT MOST 1048576: true; the input reads as it did. -/
def valueBackUptoRow : OpenClaim := { program := "ytecgdmiigdfgdaa", sum := "a88256599587f0c9ace0c59e0e10e820efba151081e74e11ec4bbe7632ebee93", func := "leaven/leavenlaw19.ValueBack", spec := "valueBack", unfollowed := true, recurses := true, apart := false, narrowed := true }
def ValueBackUptoSaid : Prop := valueBackUptoRow.holds Try.pinned (OpenSpec.upto valueBackSpec)

/-- 'leavenlaw19.ValuePlain', WHERE WHAT IT READS IS OF BULK AT MOST 1048576: true; the input reads as it did. -/
def valuePlainUptoRow : OpenClaim := { program := "ytecgdmiigdfgdaa", sum := "a88256599587f0c9ace0c59e0e10e820efba151081e74e11ec4bbe7632ebee93", func := "leaven/leavenlaw19.ValuePlain", spec := "valuePlain", unfollowed := true, recurses := true, apart := false, narrowed := true }
def ValuePlainUptoSaid : Prop := valuePlainUptoRow.holds Try.pinned (OpenSpec.upto valuePlainSpec)

end Rows
end Go.Proofs.Ytecgdmiigdfgdaa
