import Derived.Test.YtoihlfiacnljhaaXSortA
import Derived.Shelf.SlicesQ.Reverse
import Derived.Test.YtoihlfiacnljhaaXShelf
namespace Go.Proofs.YtoihlfiacnljhaaX
open Go.RowKit Go.Proofs.YtoihlfiacnljhaaW.PrintWords Go.Proofs.YtoihlfiacnljhaaW.PrintLast Go.Proofs.YtoihlfiacnljhaaW.PrintMore Go.Sort
set_option linter.unusedVariables false
theorem reverse_calls {α : Type} {d : Kd α} (of : α → Int × Int) (back : Int × Int → α) (hbo : ∀ x, back (of x) = x) (hf : Fixed d (fun x => encRg (of x))) (P0_ : Nat → Prop) (u9000_ : Value) (l0 : List α) (w0 w : World) (hB : RowKit.Below w0.heap.size w0 w) (ho0 : Kd.R d 41 w w0.heap.size P0_ u9000_ l0) (hs : l0.length < 4611686018427387904) :
    Calls Try.prog 27 #[u9000_] w fun e w' => e = .returned (.tuple #[]) ∧ Kd.R d 41 w' w0.heap.size (fun k_ => (P0_ k_ ∨ w.heap.size ≤ k_)) u9000_ l0.reverse ∧ RowKit.Below w0.heap.size w0 w' ∧ Kept w w' (fun k_ => P0_ k_) := by
  have hR := (fixed_R hf).1 ho0
  rcases own_cases hR.2 with ⟨rfl, h0⟩ | ⟨g, cap, rfl⟩
  · obtain rfl := List.length_eq_zero_iff.1 h0
    exact (AnyQ.slices_Reverse_empty Try.lay_reverseRange none 0 w).mono fun e w' ⟨he, hw⟩ => by
      subst hw
      exact ⟨he, row_none hB ho0⟩
  · have hb := own_block_lt hR.2
    have hfl : ∀ l : List (Int × Int), (flatK encRg 2 l.toArray).toList = l.flatMap encRg := fun l => by rw [flatK_list encRg 2 (fun _ => rfl)]
    have hH : HoldsK encRg 2 w g 0 (l0.map of).toArray := holds_of_own (enc := id) (flatK encRg 2 (l0.map of).toArray) hR.2 (by rw [List.map_id, hfl, List.flatMap_map])
    have hcon := AnyQ.slices_Reverse Try.lay_reverseRange 2 Try.isAgg41 Try.sizeOf41 encRg (fun _ => rfl) (fun x v hv => by simp [encRg] at hv; rcases hv with rfl | rfl <;> rfl) g 0 cap (l0.map of).toArray w hH (by simp; omega)
    change Calls Try.prog 27 _ _ _ at hcon
    rw [show (l0.map of).toArray.size = l0.length by simp] at hcon
    refine hcon.mono fun e w' ⟨he, n, hw⟩ => ?_
    subst hw
    refine ⟨he, ?_⟩
    have h := row_put (ys := l0.reverse) (m := n) (os := #[]) (enc' := id) hf (flatK encRg 2 (l0.map of).toArray.reverse) hB ho0 (by simp) (by
      rw [List.map_id, flatK_list encRg 2 (fun _ => rfl)]
      rw [Array.toList_reverse]
      show ((l0.map of).reverse).flatMap encRg = _
      rw [← List.map_reverse, List.flatMap_map])
    rw [grow_empty] at h
    exact h
end Go.Proofs.YtoihlfiacnljhaaX
