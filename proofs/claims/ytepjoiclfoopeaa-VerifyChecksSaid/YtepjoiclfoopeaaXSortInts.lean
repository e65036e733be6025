import Derived.Test.YtepjoiclfoopeaaXSort
import Derived.Test.YtepjoiclfoopeaaXShelf
namespace Go.Proofs.YtepjoiclfoopeaaX
open Go.RowKit Go.Sort Go.Proofs.YtepjoiclfoopeaaW.PrintWords
/-- slices.Sort at []int, over a row of the call's own. -/
theorem sortInts_calls (P0_ : Nat → Prop) (u9000_ : Value) (l0 : List Int) (w0 w : World) (hB : Below w0.heap.size w0 w) (ho0 : Kd.R (Kd.int .i64) 3 w w0.heap.size P0_ u9000_ l0) (hs : l0.length < 4611686018427387904) :
    Calls Try.prog 34 #[u9000_] w fun e w' => e = .returned (.tuple #[]) ∧ Kd.R (Kd.int .i64) 3 w' w0.heap.size (fun k_ => (P0_ k_ ∨ w.heap.size ≤ k_)) u9000_ (l0.mergeSort fun x y => decide (x ≤ y)) ∧ Below w0.heap.size w0 w' ∧ Kept w w' (fun k_ => P0_ k_) := by
  have hR := (fixed_R (fixed_int .i64)).1 ho0
  rcases own_cases hR.2 with ⟨rfl, h0⟩ | ⟨g, cap, rfl⟩
  · obtain rfl := List.length_eq_zero_iff.1 h0
    exact (AnyM.slices_Sort_int_none Try.lay_sortInt none 0 w).mono fun e w' ⟨he, hw⟩ => by
      subst hw
      exact ⟨he, by rw [List.mergeSort_nil]; exact row_none hB ho0⟩
  · have hb := own_block_lt hR.2
    have hm : ∀ l : List Int, l.flatMap (fun x => [Value.int .i64 x]) = l.map (Value.int .i64) := fun l => by induction l <;> simp_all
    refine (AnyM.slices_Sort_int Try.lay_sortInt g 0 cap l0 w (holds_of_own _ hR.2 (by rw [hm])) hb.1 hs).mono fun e w' ⟨he, n, os, hw⟩ => ?_
    subst hw
    exact ⟨he, row_put (fixed_int .i64) _ hB ho0 (List.length_mergeSort _) (by rw [hm])⟩
end Go.Proofs.YtepjoiclfoopeaaX
