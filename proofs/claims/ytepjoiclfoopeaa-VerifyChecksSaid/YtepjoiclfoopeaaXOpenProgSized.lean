import Derived.Test.YtepjoiclfoopeaaXOpenProg
import Derived.SizedLaws
import Derived.Deep.Strs
namespace Go.Proofs.YtepjoiclfoopeaaX
open Go.RowKit Go.Proofs.YtepjoiclfoopeaaW.PrintWords
open Go.ChangeShapes Go.WideShapes Go.Deep
set_option linter.unusedVariables false
variable {H : Type} {enc : TypeId × Value → H} {W : World} {base : Nat} {spare : Nat → Bool} {held : Bool}
/-- A program that came in is no larger than memory. -/
theorem sized_prog {A : Option Addr} {len c : Nat} {a b : Value} {d : DataW H} {ps : List MemPlace} (h : DataW.Trod enc Try.prog W base spare held 24 (.agg #[.slice A len c, a, b]) d ps) (hw : ∀ n ∈ d.weights Try.prog 24, n ≤ reachBytes) : len * 40 ≤ 140737488351232 := by
  obtain ⟨fuel, hf⟩ := h
  obtain ⟨y0, y1, y2, n, hx, hl, h0, _⟩ := trod_struct3 Try.underlying24 hf
  have e0 : (List.drop 0 (Value.agg #[.slice A len c, a, b]).cells.toList).take (Try.prog.cellsOf 22) = [.slice A len c] := by
    rw [show Try.prog.cellsOf 22 = 1 by kernel_rfl]
    rfl
  have h0' : DataW.trod enc Try.prog W base spare held n 22 [.slice A len c] = some y0 := by
    rw [← e0]
    exact h0
  rcases DataW.trod_slice Try.underlying22 h0' with ⟨e, _⟩ | ⟨ad, len', cap', elems, rest, n', _, e, hx0, _, _, _, he, _⟩
  · simp at e
    rw [e.2.1]
    omega
  · simp at e
    obtain ⟨_, rfl, _⟩ := e
    have e1 : d = .agg [y0.1, y1.1, y2.1] := congrArg Prod.fst hx
    subst e1
    rw [hx0] at hw
    have := hw ((elems.length + rest.length) * Try.prog.bytesOf 33) (by simp [DataW.weights, DataW.weightsEach, Try.underlying24, Try.underlying22])
    rw [show Try.prog.bytesOf 33 = 40 by kernel_rfl] at this
    unfold reachBytes at this
    omega
end Go.Proofs.YtepjoiclfoopeaaX
