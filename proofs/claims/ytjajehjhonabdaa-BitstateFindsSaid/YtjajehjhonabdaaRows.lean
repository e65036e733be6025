/-
  No cell of these rows narrows 'for every input' (looked for: loops, veiled, ifaces, maps, wideKeys, modest, calm, conditions, laid).
  DERIVED. THE GIVEN ROWS OF THIS SEAT. 3 by the template 'for every input the law returns true; each argument reads behind the call as it read before'; 0 by the template 'total and deterministic' (their statements: YtjajehjhonabdaaTotals.lean).
  GIVEN WITH THE SEED: the statements are not yours to turn. If you find one false, say at which input.
  Laid BY PROGRAM, IN A SANDBOX (cutbox-rows.mjs): the forced cells as the released guide's own fill.sh prints them over the translation 71222db014dc1261… (all of the seat's roots in one cut). By AI agents, Wed Nov 11 2026. No macro, syntax, notation, axiom, sorry.
-/
import Derived.Test.YtjajehjhonabdaaChecked
import GoSem.Claim
import GoSem.ClaimJoined
import GoSem.ClaimMapViews
import Derived.JoinedTies
import Derived.KernelRfl
namespace Go.Proofs.Ytjajehjhonabdaa
/- THE CELL 'sum', in the pinned program and in every row, IS THE sha256 OF THE DUMP (.gsa) THAT YtjajehjhonabdaaProg.lean LOADS. Nothing in Lean hashes anything: it is a label: what it is worth is what the hold of that sum in a sandbox is worth. -/
noncomputable def Try.pinned : Pinned := { name := "ytjajehjhonabdaa", sum := "71222db014dc126107f7ef95cce77a5eead43c2cd66bb52657b85d178b1b9380", checked := Try.checked }
namespace Rows
def none {H : Type} : Left H := { results := [], args := [] }

/-- 'burinlaw21.BitstateFinds': WHATEVER THE INPUT: true; the input reads as it did. -/
def bitstateFindsSpec : ChangeSpec := { name := "bitstateFinds", fn := fun _ => fun
  | [d1, d2, d3] => { results := [.lit (.bool true)], args := [d1, d2, d3] }
  | _ => none }
def bitstateFindsRow : OpenClaim := { program := "ytjajehjhonabdaa", sum := "71222db014dc126107f7ef95cce77a5eead43c2cd66bb52657b85d178b1b9380", func := "burin/burinlaw21.BitstateFinds", spec := "bitstateFinds", inPlace := ["internal/bytealg.IndexByteString"], unfollowed := true, recurses := true, apart := false }
def BitstateFindsSaid : Prop := bitstateFindsRow.holds Try.pinned (OpenSpec.ofChange bitstateFindsSpec)

/-- ITS FALSE NEIGHBOUR: 'it returns false'. Refute it at one input. -/
def bitstateFindsWrong : ChangeSpec := { name := "bitstateFinds", fn := fun _ => fun
  | [d1, d2, d3] => { results := [.lit (.bool false)], args := [d1, d2, d3] }
  | _ => none }
def BitstateFindsWrongFalsely : Prop := bitstateFindsRow.holds Try.pinned (OpenSpec.ofChange bitstateFindsWrong)

/-- 'burinlaw21.BitstateAgrees': WHATEVER THE INPUT: true; the input reads as it did. -/
def bitstateAgreesSpec : ChangeSpec := { name := "bitstateAgrees", fn := fun _ => fun
  | [d1, d2] => { results := [.lit (.bool true)], args := [d1, d2] }
  | _ => none }
def bitstateAgreesRow : OpenClaim := { program := "ytjajehjhonabdaa", sum := "71222db014dc126107f7ef95cce77a5eead43c2cd66bb52657b85d178b1b9380", func := "burin/burinlaw21.BitstateAgrees", spec := "bitstateAgrees", inPlace := ["internal/bytealg.IndexByteString"], unfollowed := true, recurses := true, apart := false }
def BitstateAgreesSaid : Prop := bitstateAgreesRow.holds Try.pinned (OpenSpec.ofChange bitstateAgreesSpec)

/-- ITS FALSE NEIGHBOUR: 'it returns false'. Refute it at one input. -/
def bitstateAgreesWrong : ChangeSpec := { name := "bitstateAgrees", fn := fun _ => fun
  | [d1, d2] => { results := [.lit (.bool false)], args := [d1, d2] }
  | _ => none }
def BitstateAgreesWrongFalsely : Prop := bitstateAgreesRow.holds Try.pinned (OpenSpec.ofChange bitstateAgreesWrong)

/-- 'burinlaw21.BitstateRefuses': WHATEVER THE INPUT: true; the input reads as it did. -/
def bitstateRefusesSpec : ChangeSpec := { name := "bitstateRefuses", fn := fun _ => fun
  | [d1, d2, d3] => { results := [.lit (.bool true)], args := [d1, d2, d3] }
  | _ => none }
def bitstateRefusesRow : OpenClaim := { program := "ytjajehjhonabdaa", sum := "71222db014dc126107f7ef95cce77a5eead43c2cd66bb52657b85d178b1b9380", func := "burin/burinlaw21.BitstateRefuses", spec := "bitstateRefuses", inPlace := ["internal/bytealg.IndexByteString", "internal/abi.NoEscape", "internal/bytealg.MakeNoZero"], unfollowed := true, recurses := true, apart := false }
def BitstateRefusesSaid : Prop := bitstateRefusesRow.holds Try.pinned (OpenSpec.ofChange bitstateRefusesSpec)

/-- ITS FALSE NEIGHBOUR: 'it returns false'. Refute it at one input. -/
def bitstateRefusesWrong : ChangeSpec := { name := "bitstateRefuses", fn := fun _ => fun
  | [d1, d2, d3] => { results := [.lit (.bool false)], args := [d1, d2, d3] }
  | _ => none }
def BitstateRefusesWrongFalsely : Prop := bitstateRefusesRow.holds Try.pinned (OpenSpec.ofChange bitstateRefusesWrong)

/- THE SECOND FORM. 'bulk': how many values and letters a reading holds, each counted each time it is reached (what is shared counts as often as it is met; a slice's spare places count too). A statement '..UptoSaid' is the law's where the arguments, and the package variables that the reading takes, are together of bulk at most 1048576: NARROWER than '..Said'. Prove '..Said' where nothing that the law and all that it calls make is longer than what came in: it says more and counts as full. Else prove '..UptoSaid'. A law counts once. -/
mutual
def uptoBulk {H : Type} : DataW H → Nat
  | .lit (.string bytes) => bytes.length + 1
  | .lit _ => 1
  | .nil => 1
  | .ptr d => uptoBulk d + 1
  | .slice elems spare => uptoBulkAll elems + uptoBulkAll spare + 1
  | .agg parts => uptoBulkAll parts + 1
  | .iface _ d => uptoBulk d + 1
  | .map entries => uptoBulkEntries entries + 1
  | .held _ => 1
def uptoBulkAll {H : Type} : List (DataW H) → Nat
  | [] => 0
  | d :: r => uptoBulk d + uptoBulkAll r
def uptoBulkEntries {H : Type} : List (Lit × DataW H) → Nat
  | [] => 0
  | x :: r => uptoBulkEntry x + uptoBulkEntries r
def uptoBulkEntry {H : Type} : Lit × DataW H → Nat
  | (.string bytes, d) => bytes.length + uptoBulk d + 1
  | (_, d) => uptoBulk d + 1
 end
def uptoSmall : (H : Type) → List (DataW H) → Bool := fun _ ds => decide (uptoBulkAll ds ≤ 1048576)
def OpenSpec.upto (s : _root_.Go.ChangeSpec) : _root_.Go.OpenSpec := { _root_.Go.OpenSpec.ofChange s with cond := some uptoSmall }

/-- 'burinlaw21.BitstateFinds', WHERE WHAT IT READS IS OF BULK AT MOST 1048576: true; the input reads as it did. -/
def bitstateFindsUptoRow : OpenClaim := { program := "ytjajehjhonabdaa", sum := "71222db014dc126107f7ef95cce77a5eead43c2cd66bb52657b85d178b1b9380", func := "burin/burinlaw21.BitstateFinds", spec := "bitstateFinds", inPlace := ["internal/bytealg.IndexByteString"], unfollowed := true, recurses := true, apart := false, narrowed := true }
def BitstateFindsUptoSaid : Prop := bitstateFindsUptoRow.holds Try.pinned (OpenSpec.upto bitstateFindsSpec)

/-- 'burinlaw21.BitstateAgrees', WHERE WHAT IT READS IS OF BULK AT MOST 1048576: true; the input reads as it did. -/
def bitstateAgreesUptoRow : OpenClaim := { program := "ytjajehjhonabdaa", sum := "71222db014dc126107f7ef95cce77a5eead43c2cd66bb52657b85d178b1b9380", func := "burin/burinlaw21.BitstateAgrees", spec := "bitstateAgrees", inPlace := ["internal/bytealg.IndexByteString"], unfollowed := true, recurses := true, apart := false, narrowed := true }
def BitstateAgreesUptoSaid : Prop := bitstateAgreesUptoRow.holds Try.pinned (OpenSpec.upto bitstateAgreesSpec)

/-- 'burinlaw21.BitstateRefuses', WHERE WHAT IT READS IS OF BULK AT MOST 1048576: true; the input reads as it did. -/
def bitstateRefusesUptoRow : OpenClaim := { program := "ytjajehjhonabdaa", sum := "71222db014dc126107f7ef95cce77a5eead43c2cd66bb52657b85d178b1b9380", func := "burin/burinlaw21.BitstateRefuses", spec := "bitstateRefuses", inPlace := ["internal/bytealg.IndexByteString", "internal/abi.NoEscape", "internal/bytealg.MakeNoZero"], unfollowed := true, recurses := true, apart := false, narrowed := true }
def BitstateRefusesUptoSaid : Prop := bitstateRefusesUptoRow.holds Try.pinned (OpenSpec.upto bitstateRefusesSpec)

end Rows
end Go.Proofs.Ytjajehjhonabdaa
