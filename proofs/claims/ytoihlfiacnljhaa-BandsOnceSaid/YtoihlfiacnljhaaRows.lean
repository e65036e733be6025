/-
  No cell of these rows narrows 'for every input' (looked for: loops, veiled, ifaces, maps, wideKeys, modest, calm, conditions, laid).
  DERIVED. THE GIVEN ROWS OF THIS SEAT. 5 by the template 'for every input the law returns true; each argument reads behind the call as it read before'; 0 by the template 'total and deterministic' (their statements: YtoihlfiacnljhaaTotals.lean).
  GIVEN WITH THE SEED: the statements are not yours to turn. If you find one false, say at which input.
  Laid BY PROGRAM, IN A SANDBOX (cutbox-rows.mjs): the forced cells as the released guide's own fill.sh prints them over the translation cfc6cb7e31bcf685… (all of the seat's roots in one cut). By AI agents, Wed Nov 11 2026. No macro, syntax, notation, axiom, sorry.
-/
import Derived.Test.YtoihlfiacnljhaaChecked
import GoSem.Claim
import GoSem.ClaimJoined
import GoSem.ClaimMapViews
import Derived.JoinedTies
import Derived.KernelRfl
namespace Go.Proofs.Ytoihlfiacnljhaa
/- THE CELL 'sum', in the pinned program and in every row, IS THE sha256 OF THE DUMP (.gsa) THAT YtoihlfiacnljhaaProg.lean LOADS. Nothing in Lean hashes anything: it is a label: what it is worth is what the hold of that sum in a sandbox is worth. -/
noncomputable def Try.pinned : Pinned := { name := "ytoihlfiacnljhaa", sum := "cfc6cb7e31bcf6859a0251aef33ef5c25faff38a143e2a03bf2c243105f33815", checked := Try.checked }
namespace Rows
def none {H : Type} : Left H := { results := [], args := [] }

/-- 'burinlaw05.BandsTakes': WHATEVER THE INPUT: true; the input reads as it did. -/
def bandsTakesSpec : ChangeSpec := { name := "bandsTakes", fn := fun _ => fun
  | [d1, d2] => { results := [.lit (.bool true)], args := [d1, d2] }
  | _ => none }
def bandsTakesRow : OpenClaim := { program := "ytoihlfiacnljhaa", sum := "cfc6cb7e31bcf6859a0251aef33ef5c25faff38a143e2a03bf2c243105f33815", func := "burin/burinlaw05.BandsTakes", spec := "bandsTakes", unfollowed := true, recurses := true, apart := false }
def BandsTakesSaid : Prop := bandsTakesRow.holds Try.pinned (OpenSpec.ofChange bandsTakesSpec)

/-- ITS FALSE NEIGHBOUR: 'it returns false'. Refute it at one input. -/
def bandsTakesWrong : ChangeSpec := { name := "bandsTakes", fn := fun _ => fun
  | [d1, d2] => { results := [.lit (.bool false)], args := [d1, d2] }
  | _ => none }
def BandsTakesWrongFalsely : Prop := bandsTakesRow.holds Try.pinned (OpenSpec.ofChange bandsTakesWrong)

/-- 'burinlaw05.BandsSplits': WHATEVER THE INPUT: true; the input reads as it did. -/
def bandsSplitsSpec : ChangeSpec := { name := "bandsSplits", fn := fun _ => fun
  | [d1, d2, d3] => { results := [.lit (.bool true)], args := [d1, d2, d3] }
  | _ => none }
def bandsSplitsRow : OpenClaim := { program := "ytoihlfiacnljhaa", sum := "cfc6cb7e31bcf6859a0251aef33ef5c25faff38a143e2a03bf2c243105f33815", func := "burin/burinlaw05.BandsSplits", spec := "bandsSplits", unfollowed := true, recurses := true, apart := false }
def BandsSplitsSaid : Prop := bandsSplitsRow.holds Try.pinned (OpenSpec.ofChange bandsSplitsSpec)

/-- ITS FALSE NEIGHBOUR: 'it returns false'. Refute it at one input. -/
def bandsSplitsWrong : ChangeSpec := { name := "bandsSplits", fn := fun _ => fun
  | [d1, d2, d3] => { results := [.lit (.bool false)], args := [d1, d2, d3] }
  | _ => none }
def BandsSplitsWrongFalsely : Prop := bandsSplitsRow.holds Try.pinned (OpenSpec.ofChange bandsSplitsWrong)

/-- 'burinlaw05.BandsTurned': WHATEVER THE INPUT: true; the input reads as it did. -/
def bandsTurnedSpec : ChangeSpec := { name := "bandsTurned", fn := fun _ => fun
  | [d1, d2] => { results := [.lit (.bool true)], args := [d1, d2] }
  | _ => none }
def bandsTurnedRow : OpenClaim := { program := "ytoihlfiacnljhaa", sum := "cfc6cb7e31bcf6859a0251aef33ef5c25faff38a143e2a03bf2c243105f33815", func := "burin/burinlaw05.BandsTurned", spec := "bandsTurned", unfollowed := true, recurses := true, apart := false }
def BandsTurnedSaid : Prop := bandsTurnedRow.holds Try.pinned (OpenSpec.ofChange bandsTurnedSpec)

/-- ITS FALSE NEIGHBOUR: 'it returns false'. Refute it at one input. -/
def bandsTurnedWrong : ChangeSpec := { name := "bandsTurned", fn := fun _ => fun
  | [d1, d2] => { results := [.lit (.bool false)], args := [d1, d2] }
  | _ => none }
def BandsTurnedWrongFalsely : Prop := bandsTurnedRow.holds Try.pinned (OpenSpec.ofChange bandsTurnedWrong)

/-- 'burinlaw05.BandsOnce': WHATEVER THE INPUT: true; the input reads as it did. -/
def bandsOnceSpec : ChangeSpec := { name := "bandsOnce", fn := fun _ => fun
  | [d1, d2] => { results := [.lit (.bool true)], args := [d1, d2] }
  | _ => none }
def bandsOnceRow : OpenClaim := { program := "ytoihlfiacnljhaa", sum := "cfc6cb7e31bcf6859a0251aef33ef5c25faff38a143e2a03bf2c243105f33815", func := "burin/burinlaw05.BandsOnce", spec := "bandsOnce", unfollowed := true, recurses := true, apart := false }
def BandsOnceSaid : Prop := bandsOnceRow.holds Try.pinned (OpenSpec.ofChange bandsOnceSpec)

/-- ITS FALSE NEIGHBOUR: 'it returns false'. Refute it at one input. -/
def bandsOnceWrong : ChangeSpec := { name := "bandsOnce", fn := fun _ => fun
  | [d1, d2] => { results := [.lit (.bool false)], args := [d1, d2] }
  | _ => none }
def BandsOnceWrongFalsely : Prop := bandsOnceRow.holds Try.pinned (OpenSpec.ofChange bandsOnceWrong)

/-- 'burinlaw05.BandsRunes': WHATEVER THE INPUT: true; the input reads as it did. -/
def bandsRunesSpec : ChangeSpec := { name := "bandsRunes", fn := fun _ => fun
  | [d1, d2, d3] => { results := [.lit (.bool true)], args := [d1, d2, d3] }
  | _ => none }
def bandsRunesRow : OpenClaim := { program := "ytoihlfiacnljhaa", sum := "cfc6cb7e31bcf6859a0251aef33ef5c25faff38a143e2a03bf2c243105f33815", func := "burin/burinlaw05.BandsRunes", spec := "bandsRunes", unfollowed := true, recurses := true, apart := false }
def BandsRunesSaid : Prop := bandsRunesRow.holds Try.pinned (OpenSpec.ofChange bandsRunesSpec)

/-- ITS FALSE NEIGHBOUR: 'it returns false'. Refute it at one input. -/
def bandsRunesWrong : ChangeSpec := { name := "bandsRunes", fn := fun _ => fun
  | [d1, d2, d3] => { results := [.lit (.bool false)], args := [d1, d2, d3] }
  | _ => none }
def BandsRunesWrongFalsely : Prop := bandsRunesRow.holds Try.pinned (OpenSpec.ofChange bandsRunesWrong)

/- THE SECOND FORM. 'bulk': how many values and letters a reading holds, each counted each time it is reached (what is shared counts as often as it is met; a slice's spare places count too). A statement '..UptoSaid' is the law's where the arguments, and the package variables that the reading takes, are together of bulk at most 1048576: NARROWER than '..Said'. Prove '..Said' where nothing that the law and all that it calls make is longer than what came in: it says more and counts as full. Else prove '..UptoSaid'. A law counts once. -/
mutual
def uptoBulk {H : Type} : DataW H → Nat
  | .lit (.string bytes) => bytes.length + 1
  | .lit _ => 1
  | .nil => 1
  | .ptr d => uptoBulk d + 1
  | .slice elems spare => uptoBulkAll elems + uptoBulkAll spare + 1
  | .agg parts => uptoBulkAll parts + 1
  | .iface _ d => uptoBulk d + 1
  | .map entries => uptoBulkEntries entries + 1
  | .held _ => 1
def uptoBulkAll {H : Type} : List (DataW H) → Nat
  | [] => 0
  | d :: r => uptoBulk d + uptoBulkAll r
def uptoBulkEntries {H : Type} : List (Lit × DataW H) → Nat
  | [] => 0
  | x :: r => uptoBulkEntry x + uptoBulkEntries r
def uptoBulkEntry {H : Type} : Lit × DataW H → Nat
  | (.string bytes, d) => bytes.length + uptoBulk d + 1
  | (_, d) => uptoBulk d + 1
 end
def uptoSmall : (H : Type) → List (DataW H) → Bool := fun _ ds => decide (uptoBulkAll ds ≤ 1048576)
def OpenSpec.upto (s : _root_.Go.ChangeSpec) : _root_.Go.OpenSpec := { _root_.Go.OpenSpec.ofChange s with cond := some uptoSmall }

/-- 'burinlaw05.BandsTakes', WHERE WHAT IT READS IS OF BULK AT MOST 1048576: true; the input reads as it did. -/
def bandsTakesUptoRow : OpenClaim := { program := "ytoihlfiacnljhaa", sum := "cfc6cb7e31bcf6859a0251aef33ef5c25faff38a143e2a03bf2c243105f33815", func := "burin/burinlaw05.BandsTakes", spec := "bandsTakes", unfollowed := true, recurses := true, apart := false, narrowed := true }
def BandsTakesUptoSaid : Prop := bandsTakesUptoRow.holds Try.pinned (OpenSpec.upto bandsTakesSpec)

/-- 'burinlaw05.BandsSplits', WHERE WHAT IT READS IS OF BULK AT MOST 1048576: true; the input reads as it did. -/
def bandsSplitsUptoRow : OpenClaim := { program := "ytoihlfiacnljhaa", sum := "cfc6cb7e31bcf6859a0251aef33ef5c25faff38a143e2a03bf2c243105f33815", func := "burin/burinlaw05.BandsSplits", spec := "bandsSplits", unfollowed := true, recurses := true, apart := false, narrowed := true }
def BandsSplitsUptoSaid : Prop := bandsSplitsUptoRow.holds Try.pinned (OpenSpec.upto bandsSplitsSpec)

/-- 'burinlaw05.BandsTurned', WHERE WHAT IT READS IS OF BULK AT MOST 1048576: true; the input reads as it did. -/
def bandsTurnedUptoRow : OpenClaim := { program := "ytoihlfiacnljhaa", sum := "cfc6cb7e31bcf6859a0251aef33ef5c25faff38a143e2a03bf2c243105f33815", func := "burin/burinlaw05.BandsTurned", spec := "bandsTurned", unfollowed := true, recurses := true, apart := false, narrowed := true }
def BandsTurnedUptoSaid : Prop := bandsTurnedUptoRow.holds Try.pinned (OpenSpec.upto bandsTurnedSpec)

/-- 'burinlaw05.BandsOnce', WHERE WHAT IT READS IS OF BULK AT MOST 1048576: true; the input reads as it did. -/
def bandsOnceUptoRow : OpenClaim := { program := "ytoihlfiacnljhaa", sum := "cfc6cb7e31bcf6859a0251aef33ef5c25faff38a143e2a03bf2c243105f33815", func := "burin/burinlaw05.BandsOnce", spec := "bandsOnce", unfollowed := true, recurses := true, apart := false, narrowed := true }
def BandsOnceUptoSaid : Prop := bandsOnceUptoRow.holds Try.pinned (OpenSpec.upto bandsOnceSpec)

/-- 'burinlaw05.BandsRunes', WHERE WHAT IT READS IS OF BULK AT MOST 1048576: true; the input reads as it did. -/
def bandsRunesUptoRow : OpenClaim := { program := "ytoihlfiacnljhaa", sum := "cfc6cb7e31bcf6859a0251aef33ef5c25faff38a143e2a03bf2c243105f33815", func := "burin/burinlaw05.BandsRunes", spec := "bandsRunes", unfollowed := true, recurses := true, apart := false, narrowed := true }
def BandsRunesUptoSaid : Prop := bandsRunesUptoRow.holds Try.pinned (OpenSpec.upto bandsRunesSpec)

end Rows
end Go.Proofs.Ytoihlfiacnljhaa
