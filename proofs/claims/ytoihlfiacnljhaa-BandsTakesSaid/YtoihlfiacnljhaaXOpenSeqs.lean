import Derived.Test.YtoihlfiacnljhaaXOpenKd
import Derived.Test.YtoihlfiacnljhaaXBandsPartPure
namespace Go.Proofs.YtoihlfiacnljhaaX
open Go.RowKit Go.Proofs.YtoihlfiacnljhaaW.PrintWords
open Go.ChangeShapes Go.WideShapes Go.Deep
set_option linter.unusedVariables false
variable {H : Type} {enc : TypeId × Value → H} {W : World} {base : Nat} {spare : Nat → Bool} {held : Bool}
theorem opens_rg : Opens enc Try.prog W base spare held 41 kRg (fun x => (Lit.int .i64 x.1).wf = true ∧ (Lit.int .i64 x.2).wf = true) :=
  Opens.struct Try.underlying41 (by kernel_rfl) (OpensF.cons rfl (by kernel_rfl) rfl (Opens.int Try.underlying3) (OpensF.one rfl (by kernel_rfl) (Opens.int Try.underlying3)))
theorem open_seqs {a : Option Addr} {len cap : Nat} {d : DataW H} {ps : List MemPlace} (h : DataW.Trod enc Try.prog W base spare held 22 (.slice a len cap) d ps) :
    ∃ zs : List (List (Int × Int)), zs.length = len ∧ len ≤ cap ∧ Kd.C kSeqs W a len zs ∧ (zs.length ≤ maxLen ∧ ∀ q ∈ zs, q.length ≤ maxLen ∧ ∀ x ∈ q, (Lit.int .i64 x.1).wf = true ∧ (Lit.int .i64 x.2).wf = true) :=
  Opens.list (Opens.slice 29 Try.underlying22 (by kernel_rfl) (Opens.slice 41 Try.underlying29 (by kernel_rfl) opens_rg)) h
end Go.Proofs.YtoihlfiacnljhaaX
