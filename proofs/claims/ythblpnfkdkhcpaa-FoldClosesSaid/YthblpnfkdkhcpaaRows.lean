/-
  No cell of these rows narrows 'for every input' (looked for: loops, veiled, ifaces, maps, wideKeys, modest, calm, conditions, laid).
  DERIVED. THE GIVEN ROWS OF THIS SEAT. 5 by the template 'for every input the law returns true; each argument reads behind the call as it read before'; 0 by the template 'total and deterministic' (their statements: YthblpnfkdkhcpaaTotals.lean).
  GIVEN WITH THE SEED: the statements are not yours to turn. If you find one false, say at which input.
  Laid BY PROGRAM, IN A SANDBOX (cutbox-rows.mjs): the forced cells as the released guide's own fill.sh prints them over the translation 046a207c0b56c46e… (all of the seat's roots in one cut). By AI agents, Wed Nov 11 2026. No macro, syntax, notation, axiom, sorry.
-/
import Derived.Test.YthblpnfkdkhcpaaChecked
import GoSem.Claim
import GoSem.ClaimJoined
import GoSem.ClaimMapViews
import Derived.JoinedTies
import Derived.KernelRfl
namespace Go.Proofs.Ythblpnfkdkhcpaa
/- THE CELL 'sum', in the pinned program and in every row, IS THE sha256 OF THE DUMP (.gsa) THAT YthblpnfkdkhcpaaProg.lean LOADS. Nothing in Lean hashes anything: it is a label: what it is worth is what the hold of that sum in a sandbox is worth. -/
noncomputable def Try.pinned : Pinned := { name := "ythblpnfkdkhcpaa", sum := "046a207c0b56c46ea7ad50fdc041a88454bb843fc5043357f3b1788581f3791c", checked := Try.checked }
namespace Rows
def none {H : Type} : Left H := { results := [], args := [] }

/-- 'burinlaw03.FoldRounds': WHATEVER THE INPUT: true; the input reads as it did. -/
def foldRoundsSpec : ChangeSpec := { name := "foldRounds", fn := fun _ => fun
  | [d] => { results := [.lit (.bool true)], args := [d] }
  | _ => none }
def foldRoundsRow : OpenClaim := { program := "ythblpnfkdkhcpaa", sum := "046a207c0b56c46ea7ad50fdc041a88454bb843fc5043357f3b1788581f3791c", func := "burin/burinlaw03.FoldRounds", spec := "foldRounds", recurses := true, apart := false }
def FoldRoundsSaid : Prop := foldRoundsRow.holds Try.pinned (OpenSpec.ofChange foldRoundsSpec)

/-- ITS FALSE NEIGHBOUR: 'it returns false'. Refute it at one input. -/
def foldRoundsWrong : ChangeSpec := { name := "foldRounds", fn := fun _ => fun
  | [d] => { results := [.lit (.bool false)], args := [d] }
  | _ => none }
def FoldRoundsWrongFalsely : Prop := foldRoundsRow.holds Try.pinned (OpenSpec.ofChange foldRoundsWrong)

/-- 'burinlaw03.FoldTells': WHATEVER THE INPUT: true; the input reads as it did. -/
def foldTellsSpec : ChangeSpec := { name := "foldTells", fn := fun _ => fun
  | [d1, d2] => { results := [.lit (.bool true)], args := [d1, d2] }
  | _ => none }
def foldTellsRow : OpenClaim := { program := "ythblpnfkdkhcpaa", sum := "046a207c0b56c46ea7ad50fdc041a88454bb843fc5043357f3b1788581f3791c", func := "burin/burinlaw03.FoldTells", spec := "foldTells", recurses := true, apart := false }
def FoldTellsSaid : Prop := foldTellsRow.holds Try.pinned (OpenSpec.ofChange foldTellsSpec)

/-- ITS FALSE NEIGHBOUR: 'it returns false'. Refute it at one input. -/
def foldTellsWrong : ChangeSpec := { name := "foldTells", fn := fun _ => fun
  | [d1, d2] => { results := [.lit (.bool false)], args := [d1, d2] }
  | _ => none }
def FoldTellsWrongFalsely : Prop := foldTellsRow.holds Try.pinned (OpenSpec.ofChange foldTellsWrong)

/-- 'burinlaw03.FoldParts': WHATEVER THE INPUT: true; the input reads as it did. -/
def foldPartsSpec : ChangeSpec := { name := "foldParts", fn := fun _ => fun
  | [d1, d2] => { results := [.lit (.bool true)], args := [d1, d2] }
  | _ => none }
def foldPartsRow : OpenClaim := { program := "ythblpnfkdkhcpaa", sum := "046a207c0b56c46ea7ad50fdc041a88454bb843fc5043357f3b1788581f3791c", func := "burin/burinlaw03.FoldParts", spec := "foldParts", recurses := true, apart := false }
def FoldPartsSaid : Prop := foldPartsRow.holds Try.pinned (OpenSpec.ofChange foldPartsSpec)

/-- ITS FALSE NEIGHBOUR: 'it returns false'. Refute it at one input. -/
def foldPartsWrong : ChangeSpec := { name := "foldParts", fn := fun _ => fun
  | [d1, d2] => { results := [.lit (.bool false)], args := [d1, d2] }
  | _ => none }
def FoldPartsWrongFalsely : Prop := foldPartsRow.holds Try.pinned (OpenSpec.ofChange foldPartsWrong)

/-- 'burinlaw03.FoldCloses': WHATEVER THE INPUT: true; the input reads as it did. -/
def foldClosesSpec : ChangeSpec := { name := "foldCloses", fn := fun _ => fun
  | [d] => { results := [.lit (.bool true)], args := [d] }
  | _ => none }
def foldClosesRow : OpenClaim := { program := "ythblpnfkdkhcpaa", sum := "046a207c0b56c46ea7ad50fdc041a88454bb843fc5043357f3b1788581f3791c", func := "burin/burinlaw03.FoldCloses", spec := "foldCloses", unfollowed := true, recurses := true, apart := false }
def FoldClosesSaid : Prop := foldClosesRow.holds Try.pinned (OpenSpec.ofChange foldClosesSpec)

/-- ITS FALSE NEIGHBOUR: 'it returns false'. Refute it at one input. -/
def foldClosesWrong : ChangeSpec := { name := "foldCloses", fn := fun _ => fun
  | [d] => { results := [.lit (.bool false)], args := [d] }
  | _ => none }
def FoldClosesWrongFalsely : Prop := foldClosesRow.holds Try.pinned (OpenSpec.ofChange foldClosesWrong)

/-- 'burinlaw03.FoldClosed': WHATEVER THE INPUT: true; the input reads as it did. -/
def foldClosedSpec : ChangeSpec := { name := "foldClosed", fn := fun _ => fun
  | [d1, d2, d3] => { results := [.lit (.bool true)], args := [d1, d2, d3] }
  | _ => none }
def foldClosedRow : OpenClaim := { program := "ythblpnfkdkhcpaa", sum := "046a207c0b56c46ea7ad50fdc041a88454bb843fc5043357f3b1788581f3791c", func := "burin/burinlaw03.FoldClosed", spec := "foldClosed", unfollowed := true, recurses := true, apart := false }
def FoldClosedSaid : Prop := foldClosedRow.holds Try.pinned (OpenSpec.ofChange foldClosedSpec)

/-- ITS FALSE NEIGHBOUR: 'it returns false'. Refute it at one input. -/
def foldClosedWrong : ChangeSpec := { name := "foldClosed", fn := fun _ => fun
  | [d1, d2, d3] => { results := [.lit (.bool false)], args := [d1, d2, d3] }
  | _ => none }
def FoldClosedWrongFalsely : Prop := foldClosedRow.holds Try.pinned (OpenSpec.ofChange foldClosedWrong)

/- THE SECOND FORM. 'bulk': how many values and letters a reading holds, each counted each time it is reached (what is shared counts as often as it is met; a slice's spare places count too). A statement '..UptoSaid' is the law's where the arguments, and the package variables that the reading takes, are together of bulk at most 1048576: NARROWER than '..Said'. Prove '..Said' where nothing that the law and all that it calls make is longer than what came in: it says more and counts as full. Else prove '..UptoSaid'. A law counts once. -/
mutual
def uptoBulk {H : Type} : DataW H → Nat
  | .lit (.string bytes) => bytes.length + 1
  | .lit _ => 1
  | .nil => 1
  | .ptr d => uptoBulk d + 1
  | .slice elems spare => uptoBulkAll elems + uptoBulkAll spare + 1
  | .agg parts => uptoBulkAll parts + 1
  | .iface _ d => uptoBulk d + 1
  | .map entries => uptoBulkEntries entries + 1
  | .held _ => 1
def uptoBulkAll {H : Type} : List (DataW H) → Nat
  | [] => 0
  | d :: r => uptoBulk d + uptoBulkAll r
def uptoBulkEntries {H : Type} : List (Lit × DataW H) → Nat
  | [] => 0
  | x :: r => uptoBulkEntry x + uptoBulkEntries r
def uptoBulkEntry {H : Type} : Lit × DataW H → Nat
  | (.string bytes, d) => bytes.length + uptoBulk d + 1
  | (_, d) => uptoBulk d + 1
 end
def uptoSmall : (H : Type) → List (DataW H) → Bool := fun _ ds => decide (uptoBulkAll ds ≤ 1048576)
def OpenSpec.upto (s : _root_.Go.ChangeSpec) : _root_.Go.OpenSpec := { _root_.Go.OpenSpec.ofChange s with cond := some uptoSmall }

/-- 'burinlaw03.FoldRounds', WHERE WHAT IT READS IS OF BULK AT MOST 1048576: true; the input reads as it did. -/
def foldRoundsUptoRow : OpenClaim := { program := "ythblpnfkdkhcpaa", sum := "046a207c0b56c46ea7ad50fdc041a88454bb843fc5043357f3b1788581f3791c", func := "burin/burinlaw03.FoldRounds", spec := "foldRounds", recurses := true, apart := false, narrowed := true }
def FoldRoundsUptoSaid : Prop := foldRoundsUptoRow.holds Try.pinned (OpenSpec.upto foldRoundsSpec)

/-- 'burinlaw03.FoldTells', WHERE WHAT IT READS IS OF BULK AT MOST 1048576: true; the input reads as it did. -/
def foldTellsUptoRow : OpenClaim := { program := "ythblpnfkdkhcpaa", sum := "046a207c0b56c46ea7ad50fdc041a88454bb843fc5043357f3b1788581f3791c", func := "burin/burinlaw03.FoldTells", spec := "foldTells", recurses := true, apart := false, narrowed := true }
def FoldTellsUptoSaid : Prop := foldTellsUptoRow.holds Try.pinned (OpenSpec.upto foldTellsSpec)

/-- 'burinlaw03.FoldParts', WHERE WHAT IT READS IS OF BULK AT MOST 1048576: true; the input reads as it did. -/
def foldPartsUptoRow : OpenClaim := { program := "ythblpnfkdkhcpaa", sum := "046a207c0b56c46ea7ad50fdc041a88454bb843fc5043357f3b1788581f3791c", func := "burin/burinlaw03.FoldParts", spec := "foldParts", recurses := true, apart := false, narrowed := true }
def FoldPartsUptoSaid : Prop := foldPartsUptoRow.holds Try.pinned (OpenSpec.upto foldPartsSpec)

/-- 'burinlaw03.FoldCloses', WHERE WHAT IT READS IS OF BULK AT MOST 1048576: true; the input reads as it did. -/
def foldClosesUptoRow : OpenClaim := { program := "ythblpnfkdkhcpaa", sum := "046a207c0b56c46ea7ad50fdc041a88454bb843fc5043357f3b1788581f3791c", func := "burin/burinlaw03.FoldCloses", spec := "foldCloses", unfollowed := true, recurses := true, apart := false, narrowed := true }
def FoldClosesUptoSaid : Prop := foldClosesUptoRow.holds Try.pinned (OpenSpec.upto foldClosesSpec)

/-- 'burinlaw03.FoldClosed', WHERE WHAT IT READS IS OF BULK AT MOST 1048576: true; the input reads as it did. -/
def foldClosedUptoRow : OpenClaim := { program := "ythblpnfkdkhcpaa", sum := "046a207c0b56c46ea7ad50fdc041a88454bb843fc5043357f3b1788581f3791c", func := "burin/burinlaw03.FoldClosed", spec := "foldClosed", unfollowed := true, recurses := true, apart := false, narrowed := true }
def FoldClosedUptoSaid : Prop := foldClosedUptoRow.holds Try.pinned (OpenSpec.upto foldClosedSpec)

end Rows
end Go.Proofs.Ythblpnfkdkhcpaa
