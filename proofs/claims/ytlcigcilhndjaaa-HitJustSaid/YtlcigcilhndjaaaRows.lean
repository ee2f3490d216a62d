/-
  No cell of these rows narrows 'for every input' (looked for: loops, veiled, ifaces, maps, wideKeys, modest, calm, conditions, laid).
  DERIVED. THE GIVEN ROWS OF THIS SEAT. 7 by the template 'for every input the law returns true; each argument reads behind the call as it read before'; 0 by the template 'total and deterministic' (their statements: YtlcigcilhndjaaaTotals.lean).
  GIVEN WITH THE SEED: the statements are not yours to turn. If you find one false, say at which input.
  Laid BY PROGRAM, IN A SANDBOX (cutbox-rows.mjs): the forced cells as the released guide's own fill.sh prints them over the translation 482fc3482160a61a… (all of the seat's roots in one cut). By AI agents, Wed Nov 11 2026. No macro, syntax, notation, axiom, sorry.
-/
import Derived.Test.YtlcigcilhndjaaaChecked
import GoSem.Claim
import GoSem.ClaimJoined
import GoSem.ClaimMapViews
import Derived.JoinedTies
import Derived.KernelRfl
namespace Go.Proofs.Ytlcigcilhndjaaa
/- THE CELL 'sum', in the pinned program and in every row, IS THE sha256 OF THE DUMP (.gsa) THAT YtlcigcilhndjaaaProg.lean LOADS. Nothing in Lean hashes anything: it is a label: what it is worth is what the hold of that sum in a sandbox is worth. -/
noncomputable def Try.pinned : Pinned := { name := "ytlcigcilhndjaaa", sum := "482fc3482160a61a1e9b5be3a2b3f2f4d63ada8e3b14118744583662d20213bf", checked := Try.checked }
namespace Rows
def none {H : Type} : Left H := { results := [], args := [] }

/-- 'leavenlaw16.HitAll': WHATEVER THE INPUT: true; the input reads as it did. -/
def hitAllSpec : ChangeSpec := { name := "hitAll", fn := fun _ => fun
  | [d1, d2] => { results := [.lit (.bool true)], args := [d1, d2] }
  | _ => none }
def hitAllRow : OpenClaim := { program := "ytlcigcilhndjaaa", sum := "482fc3482160a61a1e9b5be3a2b3f2f4d63ada8e3b14118744583662d20213bf", func := "leaven/leavenlaw16.HitAll", spec := "hitAll", inPlace := ["slices.overlaps[int]"], unfollowed := true, recurses := true, apart := false }
def HitAllSaid : Prop := hitAllRow.holds Try.pinned (OpenSpec.ofChange hitAllSpec)

/-- ITS FALSE NEIGHBOUR: 'it returns false'. Refute it at one input. -/
def hitAllWrong : ChangeSpec := { name := "hitAll", fn := fun _ => fun
  | [d1, d2] => { results := [.lit (.bool false)], args := [d1, d2] }
  | _ => none }
def HitAllWrongFalsely : Prop := hitAllRow.holds Try.pinned (OpenSpec.ofChange hitAllWrong)

/-- 'leavenlaw16.HitJust': WHATEVER THE INPUT: true; the input reads as it did. -/
def hitJustSpec : ChangeSpec := { name := "hitJust", fn := fun _ => fun
  | [d1, d2] => { results := [.lit (.bool true)], args := [d1, d2] }
  | _ => none }
def hitJustRow : OpenClaim := { program := "ytlcigcilhndjaaa", sum := "482fc3482160a61a1e9b5be3a2b3f2f4d63ada8e3b14118744583662d20213bf", func := "leaven/leavenlaw16.HitJust", spec := "hitJust", inPlace := ["slices.overlaps[int]"], unfollowed := true, recurses := true, apart := false }
def HitJustSaid : Prop := hitJustRow.holds Try.pinned (OpenSpec.ofChange hitJustSpec)

/-- ITS FALSE NEIGHBOUR: 'it returns false'. Refute it at one input. -/
def hitJustWrong : ChangeSpec := { name := "hitJust", fn := fun _ => fun
  | [d1, d2] => { results := [.lit (.bool false)], args := [d1, d2] }
  | _ => none }
def HitJustWrongFalsely : Prop := hitJustRow.holds Try.pinned (OpenSpec.ofChange hitJustWrong)

/-- 'leavenlaw16.HitMore': WHATEVER THE INPUT: true; the input reads as it did. -/
def hitMoreSpec : ChangeSpec := { name := "hitMore", fn := fun _ => fun
  | [d1, d2] => { results := [.lit (.bool true)], args := [d1, d2] }
  | _ => none }
def hitMoreRow : OpenClaim := { program := "ytlcigcilhndjaaa", sum := "482fc3482160a61a1e9b5be3a2b3f2f4d63ada8e3b14118744583662d20213bf", func := "leaven/leavenlaw16.HitMore", spec := "hitMore", inPlace := ["slices.overlaps[int]"], unfollowed := true, recurses := true, apart := false }
def HitMoreSaid : Prop := hitMoreRow.holds Try.pinned (OpenSpec.ofChange hitMoreSpec)

/-- ITS FALSE NEIGHBOUR: 'it returns false'. Refute it at one input. -/
def hitMoreWrong : ChangeSpec := { name := "hitMore", fn := fun _ => fun
  | [d1, d2] => { results := [.lit (.bool false)], args := [d1, d2] }
  | _ => none }
def HitMoreWrongFalsely : Prop := hitMoreRow.holds Try.pinned (OpenSpec.ofChange hitMoreWrong)

/-- 'leavenlaw16.HitLeast': WHATEVER THE INPUT: true; the input reads as it did. -/
def hitLeastSpec : ChangeSpec := { name := "hitLeast", fn := fun _ => fun
  | [d1, d2] => { results := [.lit (.bool true)], args := [d1, d2] }
  | _ => none }
def hitLeastRow : OpenClaim := { program := "ytlcigcilhndjaaa", sum := "482fc3482160a61a1e9b5be3a2b3f2f4d63ada8e3b14118744583662d20213bf", func := "leaven/leavenlaw16.HitLeast", spec := "hitLeast", inPlace := ["slices.overlaps[int]"], unfollowed := true, recurses := true, apart := false }
def HitLeastSaid : Prop := hitLeastRow.holds Try.pinned (OpenSpec.ofChange hitLeastSpec)

/-- ITS FALSE NEIGHBOUR: 'it returns false'. Refute it at one input. -/
def hitLeastWrong : ChangeSpec := { name := "hitLeast", fn := fun _ => fun
  | [d1, d2] => { results := [.lit (.bool false)], args := [d1, d2] }
  | _ => none }
def HitLeastWrongFalsely : Prop := hitLeastRow.holds Try.pinned (OpenSpec.ofChange hitLeastWrong)

/-- 'leavenlaw16.HitTells': WHATEVER THE INPUT: true; the input reads as it did. -/
def hitTellsSpec : ChangeSpec := { name := "hitTells", fn := fun _ => fun
  | [d1, d2, d3] => { results := [.lit (.bool true)], args := [d1, d2, d3] }
  | _ => none }
def hitTellsRow : OpenClaim := { program := "ytlcigcilhndjaaa", sum := "482fc3482160a61a1e9b5be3a2b3f2f4d63ada8e3b14118744583662d20213bf", func := "leaven/leavenlaw16.HitTells", spec := "hitTells", inPlace := ["slices.overlaps[int]"], unfollowed := true, recurses := true, apart := false }
def HitTellsSaid : Prop := hitTellsRow.holds Try.pinned (OpenSpec.ofChange hitTellsSpec)

/-- ITS FALSE NEIGHBOUR: 'it returns false'. Refute it at one input. -/
def hitTellsWrong : ChangeSpec := { name := "hitTells", fn := fun _ => fun
  | [d1, d2, d3] => { results := [.lit (.bool false)], args := [d1, d2, d3] }
  | _ => none }
def HitTellsWrongFalsely : Prop := hitTellsRow.holds Try.pinned (OpenSpec.ofChange hitTellsWrong)

/-- 'leavenlaw16.HitTwice': WHATEVER THE INPUT: true; the input reads as it did. -/
def hitTwiceSpec : ChangeSpec := { name := "hitTwice", fn := fun _ => fun
  | [d] => { results := [.lit (.bool true)], args := [d] }
  | _ => none }
def hitTwiceRow : OpenClaim := { program := "ytlcigcilhndjaaa", sum := "482fc3482160a61a1e9b5be3a2b3f2f4d63ada8e3b14118744583662d20213bf", func := "leaven/leavenlaw16.HitTwice", spec := "hitTwice", inPlace := ["slices.overlaps[int]"], unfollowed := true, recurses := true, apart := false }
def HitTwiceSaid : Prop := hitTwiceRow.holds Try.pinned (OpenSpec.ofChange hitTwiceSpec)

/-- ITS FALSE NEIGHBOUR: 'it returns false'. Refute it at one input. -/
def hitTwiceWrong : ChangeSpec := { name := "hitTwice", fn := fun _ => fun
  | [d] => { results := [.lit (.bool false)], args := [d] }
  | _ => none }
def HitTwiceWrongFalsely : Prop := hitTwiceRow.holds Try.pinned (OpenSpec.ofChange hitTwiceWrong)

/-- 'leavenlaw16.HitMissing': WHATEVER THE INPUT: true; the input reads as it did. -/
def hitMissingSpec : ChangeSpec := { name := "hitMissing", fn := fun _ => fun
  | [d1, d2, d3] => { results := [.lit (.bool true)], args := [d1, d2, d3] }
  | _ => none }
def hitMissingRow : OpenClaim := { program := "ytlcigcilhndjaaa", sum := "482fc3482160a61a1e9b5be3a2b3f2f4d63ada8e3b14118744583662d20213bf", func := "leaven/leavenlaw16.HitMissing", spec := "hitMissing", inPlace := ["slices.overlaps[int]"], unfollowed := true, recurses := true, apart := false }
def HitMissingSaid : Prop := hitMissingRow.holds Try.pinned (OpenSpec.ofChange hitMissingSpec)

/-- ITS FALSE NEIGHBOUR: 'it returns false'. Refute it at one input. -/
def hitMissingWrong : ChangeSpec := { name := "hitMissing", fn := fun _ => fun
  | [d1, d2, d3] => { results := [.lit (.bool false)], args := [d1, d2, d3] }
  | _ => none }
def HitMissingWrongFalsely : Prop := hitMissingRow.holds Try.pinned (OpenSpec.ofChange hitMissingWrong)

/- THE SECOND FORM. 'bulk': how many values and letters a reading holds, each counted each time it is reached (what is shared counts as often as it is met; a slice's spare places count too). A statement '..UptoSaid' is the law's where the arguments, and the package variables that the reading takes, are together of bulk at most 1048576: NARROWER than '..Said'. Prove '..Said' where nothing that the law and all that it calls make is longer than what came in: it says more and counts as full. Else prove '..UptoSaid'. A law counts once. -/
mutual
def uptoBulk {H : Type} : DataW H → Nat
  | .lit (.string bytes) => bytes.length + 1
  | .lit _ => 1
  | .nil => 1
  | .ptr d => uptoBulk d + 1
  | .slice elems spare => uptoBulkAll elems + uptoBulkAll spare + 1
  | .agg parts => uptoBulkAll parts + 1
  | .iface _ d => uptoBulk d + 1
  | .map entries => uptoBulkEntries entries + 1
  | .held _ => 1
def uptoBulkAll {H : Type} : List (DataW H) → Nat
  | [] => 0
  | d :: r => uptoBulk d + uptoBulkAll r
def uptoBulkEntries {H : Type} : List (Lit × DataW H) → Nat
  | [] => 0
  | x :: r => uptoBulkEntry x + uptoBulkEntries r
def uptoBulkEntry {H : Type} : Lit × DataW H → Nat
  | (.string bytes, d) => bytes.length + uptoBulk d + 1
  | (_, d) => uptoBulk d + 1
 end
def uptoSmall : (H : Type) → List (DataW H) → Bool := fun _ ds => decide (uptoBulkAll ds ≤ 1048576)
def OpenSpec.upto (s : _root_.Go.ChangeSpec) : _root_.Go.OpenSpec := { _root_.Go.OpenSpec.ofChange s with cond := some uptoSmall }

/-- 'leavenlaw16.HitAll', WHERE WHAT IT READS IS OF BULK AT MOST 1048576: true; the input reads as it did. -/
def hitAllUptoRow : OpenClaim := { program := "ytlcigcilhndjaaa", sum := "482fc3482160a61a1e9b5be3a2b3f2f4d63ada8e3b14118744583662d20213bf", func := "leaven/leavenlaw16.HitAll", spec := "hitAll", inPlace := ["slices.overlaps[int]"], unfollowed := true, recurses := true, apart := false, narrowed := true }
def HitAllUptoSaid : Prop := hitAllUptoRow.holds Try.pinned (OpenSpec.upto hitAllSpec)

/-- 'leavenlaw16.HitJust', WHERE WHAT IT READS IS OF BULK AT MOST 1048576: true; the input reads as it did. -/
def hitJustUptoRow : OpenClaim := { program := "ytlcigcilhndjaaa", sum := "482fc3482160a61a1e9b5be3a2b3f2f4d63ada8e3b14118744583662d20213bf", func := "leaven/leavenlaw16.HitJust", spec := "hitJust", inPlace := ["slices.overlaps[int]"], unfollowed := true, recurses := true, apart := false, narrowed := true }
def HitJustUptoSaid : Prop := hitJustUptoRow.holds Try.pinned (OpenSpec.upto hitJustSpec)

/-- 'leavenlaw16.HitMore', WHERE WHAT IT READS IS OF BULK AT MOST 1048576: true; the input reads as it did. -/
def hitMoreUptoRow : OpenClaim := { program := "ytlcigcilhndjaaa", sum := "482fc3482160a61a1e9b5be3a2b3f2f4d63ada8e3b14118744583662d20213bf", func := "leaven/leavenlaw16.HitMore", spec := "hitMore", inPlace := ["slices.overlaps[int]"], unfollowed := true, recurses := true, apart := false, narrowed := true }
def HitMoreUptoSaid : Prop := hitMoreUptoRow.holds Try.pinned (OpenSpec.upto hitMoreSpec)

/-- 'leavenlaw16.HitLeast', WHERE WHAT IT READS IS OF BULK AT MOST 1048576: true; the input reads as it did. -/
def hitLeastUptoRow : OpenClaim := { program := "ytlcigcilhndjaaa", sum := "482fc3482160a61a1e9b5be3a2b3f2f4d63ada8e3b14118744583662d20213bf", func := "leaven/leavenlaw16.HitLeast", spec := "hitLeast", inPlace := ["slices.overlaps[int]"], unfollowed := true, recurses := true, apart := false, narrowed := true }
def HitLeastUptoSaid : Prop := hitLeastUptoRow.holds Try.pinned (OpenSpec.upto hitLeastSpec)

/-- 'leavenlaw16.HitTells', WHERE WHAT IT READS IS OF BULK AT MOST 1048576: true; the input reads as it did. -/
def hitTellsUptoRow : OpenClaim := { program := "ytlcigcilhndjaaa", sum := "482fc3482160a61a1e9b5be3a2b3f2f4d63ada8e3b14118744583662d20213bf", func := "leaven/leavenlaw16.HitTells", spec := "hitTells", inPlace := ["slices.overlaps[int]"], unfollowed := true, recurses := true, apart := false, narrowed := true }
def HitTellsUptoSaid : Prop := hitTellsUptoRow.holds Try.pinned (OpenSpec.upto hitTellsSpec)

/-- 'leavenlaw16.HitTwice', WHERE WHAT IT READS IS OF BULK AT MOST 1048576: true; the input reads as it did. -/
def hitTwiceUptoRow : OpenClaim := { program := "ytlcigcilhndjaaa", sum := "482fc3482160a61a1e9b5be3a2b3f2f4d63ada8e3b14118744583662d20213bf", func := "leaven/leavenlaw16.HitTwice", spec := "hitTwice", inPlace := ["slices.overlaps[int]"], unfollowed := true, recurses := true, apart := false, narrowed := true }
def HitTwiceUptoSaid : Prop := hitTwiceUptoRow.holds Try.pinned (OpenSpec.upto hitTwiceSpec)

/-- 'leavenlaw16.HitMissing', WHERE WHAT IT READS IS OF BULK AT MOST 1048576: true; the input reads as it did. -/
def hitMissingUptoRow : OpenClaim := { program := "ytlcigcilhndjaaa", sum := "482fc3482160a61a1e9b5be3a2b3f2f4d63ada8e3b14118744583662d20213bf", func := "leaven/leavenlaw16.HitMissing", spec := "hitMissing", inPlace := ["slices.overlaps[int]"], unfollowed := true, recurses := true, apart := false, narrowed := true }
def HitMissingUptoSaid : Prop := hitMissingUptoRow.holds Try.pinned (OpenSpec.upto hitMissingSpec)

end Rows
end Go.Proofs.Ytlcigcilhndjaaa
