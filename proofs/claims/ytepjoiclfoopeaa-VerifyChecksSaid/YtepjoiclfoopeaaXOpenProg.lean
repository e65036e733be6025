import Derived.Test.YtepjoiclfoopeaaXOpenKd
import Derived.Test.YtepjoiclfoopeaaXIndexInst
namespace Go.Proofs.YtepjoiclfoopeaaX
open Go.RowKit Go.Proofs.YtepjoiclfoopeaaW.PrintWords
open Go.ChangeShapes Go.WideShapes Go.Deep
set_option linter.unusedVariables false
variable {H : Type} {enc : TypeId × Value → H} {W : World} {base : Nat} {spare : Nat → Bool} {held : Bool}
abbrev wfI (n : Int) : Prop := (Lit.int .i64 n).wf = true
def wf5 (x : I5) : Prop := wfI x.1 ∧ wfI x.2.1 ∧ wfI x.2.2.1 ∧ wfI x.2.2.2.1 ∧ wfI x.2.2.2.2
set_option maxRecDepth 100000 in
theorem opens_inst : Opens enc Try.prog W base spare held 33 kIn wf5 :=
  Opens.struct Try.underlying33 (by kernel_rfl) (OpensF.cons rfl (by kernel_rfl) rfl (Opens.int Try.underlying3) (OpensF.cons rfl (by kernel_rfl) rfl (Opens.int Try.underlying3) (OpensF.cons rfl (by kernel_rfl) rfl (Opens.int Try.underlying3) (OpensF.cons rfl (by kernel_rfl) rfl (Opens.int Try.underlying3) (OpensF.one rfl (by kernel_rfl) (Opens.int Try.underlying3))))))
def kProg : Kd (List I5 × (Int × Int)) := Kd.pair (Kd.slice 22 kIn) (Kd.pair (Kd.int .i64) (Kd.int .i64))
set_option maxRecDepth 100000 in
theorem opens_prog : Opens enc Try.prog W base spare held 24 kProg (fun x => (x.1.length ≤ maxLen ∧ ∀ y ∈ x.1, wf5 y) ∧ wfI x.2.1 ∧ wfI x.2.2) :=
  Opens.struct Try.underlying24 (by kernel_rfl) (OpensF.cons rfl (by kernel_rfl) rfl (Opens.slice 22 Try.underlying22 (by kernel_rfl) opens_inst) (OpensF.cons rfl (by kernel_rfl) rfl (Opens.int Try.underlying3) (OpensF.one rfl (by kernel_rfl) (Opens.int Try.underlying3))))
/-- A program that came in. -/
theorem open_prog {cs : Array Value} {d : DataW H} {ps : List MemPlace} (h : DataW.Trod enc Try.prog W base spare held 24 (.agg cs) d ps) :
    ∃ (zs : List I5) (A : Option Addr) (c : Nat) (a b : Int), cs = #[.slice A zs.length c, .int .i64 a, .int .i64 b] ∧ zs.length ≤ c ∧ Kd.C kIn W A zs.length zs ∧ (zs.length ≤ maxLen ∧ ∀ y ∈ zs, wf5 y) ∧ wfI a ∧ wfI b := by
  obtain ⟨fuel, hf⟩ := h
  obtain ⟨⟨zs, a, b⟩, hK, hG⟩ := opens_prog _ _ _ hf
  obtain ⟨c1, c2, e, ⟨A, c, rfl, hl, hC⟩, c3, c4, rfl, h3, h4⟩ := hK
  have e3 : c3 = [.int .i64 a] := h3
  have e4 : c4 = [.int .i64 b] := h4
  subst e3 e4
  simp [Value.cells] at e
  exact ⟨zs, A, c, a, b, Array.ext' e, hl, hC, hG⟩
end Go.Proofs.YtepjoiclfoopeaaX
