/-
  No cell of these rows narrows 'for every input' (looked for: loops, veiled, ifaces, maps, wideKeys, modest, calm, conditions, laid).
  DERIVED. THE GIVEN ROWS OF THIS SEAT. 5 by the template 'for every input the law returns true; each argument reads behind the call as it read before'; 0 by the template 'total and deterministic' (their statements: YtedilngdbmfhaaaTotals.lean).
  GIVEN WITH THE SEED: the statements are not yours to turn. If you find one false, say at which input.
  Laid BY PROGRAM, IN A SANDBOX (cutbox-rows.mjs): the forced cells as the released guide's own fill.sh prints them over the translation a31cdf0e0fad3f80… (all of the seat's roots in one cut). By AI agents, Wed Nov 11 2026. No macro, syntax, notation, axiom, sorry.
-/
import Derived.Test.YtedilngdbmfhaaaChecked
import GoSem.Claim
import GoSem.ClaimJoined
import GoSem.ClaimMapViews
import Derived.JoinedTies
import Derived.KernelRfl
namespace Go.Proofs.Ytedilngdbmfhaaa
/- THE CELL 'sum', in the pinned program and in every row, IS THE sha256 OF THE DUMP (.gsa) THAT YtedilngdbmfhaaaProg.lean LOADS. Nothing in Lean hashes anything: it is a label: what it is worth is what the hold of that sum in a sandbox is worth. -/
noncomputable def Try.pinned : Pinned := { name := "ytedilngdbmfhaaa", sum := "a31cdf0e0fad3f8006e7e1d9d98fa29363f7f6e87ec2cd45d3c14de9dcfc8796", checked := Try.checked }
namespace Rows
def none {H : Type} : Left H := { results := [], args := [] }

/-- 'burinlaw02.RangesTells': WHATEVER THE INPUT: true; the input reads as it did. -/
def rangesTellsSpec : ChangeSpec := { name := "rangesTells", fn := fun _ => fun
  | [d1, d2] => { results := [.lit (.bool true)], args := [d1, d2] }
  | _ => none }
def rangesTellsRow : OpenClaim := { program := "ytedilngdbmfhaaa", sum := "a31cdf0e0fad3f8006e7e1d9d98fa29363f7f6e87ec2cd45d3c14de9dcfc8796", func := "burin/burinlaw02.RangesTells", spec := "rangesTells", unfollowed := true, recurses := true, apart := false }
def RangesTellsSaid : Prop := rangesTellsRow.holds Try.pinned (OpenSpec.ofChange rangesTellsSpec)

/-- ITS FALSE NEIGHBOUR: 'it returns false'. Refute it at one input. -/
def rangesTellsWrong : ChangeSpec := { name := "rangesTells", fn := fun _ => fun
  | [d1, d2] => { results := [.lit (.bool false)], args := [d1, d2] }
  | _ => none }
def RangesTellsWrongFalsely : Prop := rangesTellsRow.holds Try.pinned (OpenSpec.ofChange rangesTellsWrong)

/-- 'burinlaw02.RangesMakes': WHATEVER THE INPUT: true; the input reads as it did. -/
def rangesMakesSpec : ChangeSpec := { name := "rangesMakes", fn := fun _ => fun
  | [d1, d2] => { results := [.lit (.bool true)], args := [d1, d2] }
  | _ => none }
def rangesMakesRow : OpenClaim := { program := "ytedilngdbmfhaaa", sum := "a31cdf0e0fad3f8006e7e1d9d98fa29363f7f6e87ec2cd45d3c14de9dcfc8796", func := "burin/burinlaw02.RangesMakes", spec := "rangesMakes", unfollowed := true, recurses := true, apart := false }
def RangesMakesSaid : Prop := rangesMakesRow.holds Try.pinned (OpenSpec.ofChange rangesMakesSpec)

/-- ITS FALSE NEIGHBOUR: 'it returns false'. Refute it at one input. -/
def rangesMakesWrong : ChangeSpec := { name := "rangesMakes", fn := fun _ => fun
  | [d1, d2] => { results := [.lit (.bool false)], args := [d1, d2] }
  | _ => none }
def RangesMakesWrongFalsely : Prop := rangesMakesRow.holds Try.pinned (OpenSpec.ofChange rangesMakesWrong)

/-- 'burinlaw02.RangesPoints': WHATEVER THE INPUT: true; the input reads as it did. -/
def rangesPointsSpec : ChangeSpec := { name := "rangesPoints", fn := fun _ => fun
  | [d1, d2, d3] => { results := [.lit (.bool true)], args := [d1, d2, d3] }
  | _ => none }
def rangesPointsRow : OpenClaim := { program := "ytedilngdbmfhaaa", sum := "a31cdf0e0fad3f8006e7e1d9d98fa29363f7f6e87ec2cd45d3c14de9dcfc8796", func := "burin/burinlaw02.RangesPoints", spec := "rangesPoints", unfollowed := true, recurses := true, apart := false }
def RangesPointsSaid : Prop := rangesPointsRow.holds Try.pinned (OpenSpec.ofChange rangesPointsSpec)

/-- ITS FALSE NEIGHBOUR: 'it returns false'. Refute it at one input. -/
def rangesPointsWrong : ChangeSpec := { name := "rangesPoints", fn := fun _ => fun
  | [d1, d2, d3] => { results := [.lit (.bool false)], args := [d1, d2, d3] }
  | _ => none }
def RangesPointsWrongFalsely : Prop := rangesPointsRow.holds Try.pinned (OpenSpec.ofChange rangesPointsWrong)

/-- 'burinlaw02.RangesSets': WHATEVER THE INPUT: true; the input reads as it did. -/
def rangesSetsSpec : ChangeSpec := { name := "rangesSets", fn := fun _ => fun
  | [d1, d2] => { results := [.lit (.bool true)], args := [d1, d2] }
  | _ => none }
def rangesSetsRow : OpenClaim := { program := "ytedilngdbmfhaaa", sum := "a31cdf0e0fad3f8006e7e1d9d98fa29363f7f6e87ec2cd45d3c14de9dcfc8796", func := "burin/burinlaw02.RangesSets", spec := "rangesSets", unfollowed := true, recurses := true, apart := false }
def RangesSetsSaid : Prop := rangesSetsRow.holds Try.pinned (OpenSpec.ofChange rangesSetsSpec)

/-- ITS FALSE NEIGHBOUR: 'it returns false'. Refute it at one input. -/
def rangesSetsWrong : ChangeSpec := { name := "rangesSets", fn := fun _ => fun
  | [d1, d2] => { results := [.lit (.bool false)], args := [d1, d2] }
  | _ => none }
def RangesSetsWrongFalsely : Prop := rangesSetsRow.holds Try.pinned (OpenSpec.ofChange rangesSetsWrong)

/-- 'burinlaw02.RangesRight': WHATEVER THE INPUT: true; the input reads as it did. -/
def rangesRightSpec : ChangeSpec := { name := "rangesRight", fn := fun _ => fun
  | [d1, d2] => { results := [.lit (.bool true)], args := [d1, d2] }
  | _ => none }
def rangesRightRow : OpenClaim := { program := "ytedilngdbmfhaaa", sum := "a31cdf0e0fad3f8006e7e1d9d98fa29363f7f6e87ec2cd45d3c14de9dcfc8796", func := "burin/burinlaw02.RangesRight", spec := "rangesRight", unfollowed := true, recurses := true, apart := false }
def RangesRightSaid : Prop := rangesRightRow.holds Try.pinned (OpenSpec.ofChange rangesRightSpec)

/-- ITS FALSE NEIGHBOUR: 'it returns false'. Refute it at one input. -/
def rangesRightWrong : ChangeSpec := { name := "rangesRight", fn := fun _ => fun
  | [d1, d2] => { results := [.lit (.bool false)], args := [d1, d2] }
  | _ => none }
def RangesRightWrongFalsely : Prop := rangesRightRow.holds Try.pinned (OpenSpec.ofChange rangesRightWrong)

/- THE SECOND FORM. 'bulk': how many values and letters a reading holds, each counted each time it is reached (what is shared counts as often as it is met; a slice's spare places count too). A statement '..UptoSaid' is the law's where the arguments, and the package variables that the reading takes, are together of bulk at most 1048576: NARROWER than '..Said'. Prove '..Said' where nothing that the law and all that it calls make is longer than what came in: it says more and counts as full. Else prove '..UptoSaid'. A law counts once. -/
mutual
def uptoBulk {H : Type} : DataW H → Nat
  | .lit (.string bytes) => bytes.length + 1
  | .lit _ => 1
  | .nil => 1
  | .ptr d => uptoBulk d + 1
  | .slice elems spare => uptoBulkAll elems + uptoBulkAll spare + 1
  | .agg parts => uptoBulkAll parts + 1
  | .iface _ d => uptoBulk d + 1
  | .map entries => uptoBulkEntries entries + 1
  | .held _ => 1
def uptoBulkAll {H : Type} : List (DataW H) → Nat
  | [] => 0
  | d :: r => uptoBulk d + uptoBulkAll r
def uptoBulkEntries {H : Type} : List (Lit × DataW H) → Nat
  | [] => 0
  | x :: r => uptoBulkEntry x + uptoBulkEntries r
def uptoBulkEntry {H : Type} : Lit × DataW H → Nat
  | (.string bytes, d) => bytes.length + uptoBulk d + 1
  | (_, d) => uptoBulk d + 1
 end
def uptoSmall : (H : Type) → List (DataW H) → Bool := fun _ ds => decide (uptoBulkAll ds ≤ 1048576)
def OpenSpec.upto (s : _root_.Go.ChangeSpec) : _root_.Go.OpenSpec := { _root_.Go.OpenSpec.ofChange s with cond := some uptoSmall }

/-- 'burinlaw02.RangesTells', WHERE WHAT IT READS IS OF BULK AT MOST 1048576: true; the input reads as it did. -/
def rangesTellsUptoRow : OpenClaim := { program := "ytedilngdbmfhaaa", sum := "a31cdf0e0fad3f8006e7e1d9d98fa29363f7f6e87ec2cd45d3c14de9dcfc8796", func := "burin/burinlaw02.RangesTells", spec := "rangesTells", unfollowed := true, recurses := true, apart := false, narrowed := true }
def RangesTellsUptoSaid : Prop := rangesTellsUptoRow.holds Try.pinned (OpenSpec.upto rangesTellsSpec)

/-- 'burinlaw02.RangesMakes', WHERE WHAT IT READS IS OF BULK AT MOST 1048576: true; the input reads as it did. -/
def rangesMakesUptoRow : OpenClaim := { program := "ytedilngdbmfhaaa", sum := "a31cdf0e0fad3f8006e7e1d9d98fa29363f7f6e87ec2cd45d3c14de9dcfc8796", func := "burin/burinlaw02.RangesMakes", spec := "rangesMakes", unfollowed := true, recurses := true, apart := false, narrowed := true }
def RangesMakesUptoSaid : Prop := rangesMakesUptoRow.holds Try.pinned (OpenSpec.upto rangesMakesSpec)

/-- 'burinlaw02.RangesPoints', WHERE WHAT IT READS IS OF BULK AT MOST 1048576: true; the input reads as it did. -/
def rangesPointsUptoRow : OpenClaim := { program := "ytedilngdbmfhaaa", sum := "a31cdf0e0fad3f8006e7e1d9d98fa29363f7f6e87ec2cd45d3c14de9dcfc8796", func := "burin/burinlaw02.RangesPoints", spec := "rangesPoints", unfollowed := true, recurses := true, apart := false, narrowed := true }
def RangesPointsUptoSaid : Prop := rangesPointsUptoRow.holds Try.pinned (OpenSpec.upto rangesPointsSpec)

/-- 'burinlaw02.RangesSets', WHERE WHAT IT READS IS OF BULK AT MOST 1048576: true; the input reads as it did. -/
def rangesSetsUptoRow : OpenClaim := { program := "ytedilngdbmfhaaa", sum := "a31cdf0e0fad3f8006e7e1d9d98fa29363f7f6e87ec2cd45d3c14de9dcfc8796", func := "burin/burinlaw02.RangesSets", spec := "rangesSets", unfollowed := true, recurses := true, apart := false, narrowed := true }
def RangesSetsUptoSaid : Prop := rangesSetsUptoRow.holds Try.pinned (OpenSpec.upto rangesSetsSpec)

/-- 'burinlaw02.RangesRight', WHERE WHAT IT READS IS OF BULK AT MOST 1048576: true; the input reads as it did. -/
def rangesRightUptoRow : OpenClaim := { program := "ytedilngdbmfhaaa", sum := "a31cdf0e0fad3f8006e7e1d9d98fa29363f7f6e87ec2cd45d3c14de9dcfc8796", func := "burin/burinlaw02.RangesRight", spec := "rangesRight", unfollowed := true, recurses := true, apart := false, narrowed := true }
def RangesRightUptoSaid : Prop := rangesRightUptoRow.holds Try.pinned (OpenSpec.upto rangesRightSpec)

end Rows
end Go.Proofs.Ytedilngdbmfhaaa
