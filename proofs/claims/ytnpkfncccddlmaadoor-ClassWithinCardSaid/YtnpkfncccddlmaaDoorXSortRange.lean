import Derived.Test.YtnpkfncccddlmaaDoorXSort
import Derived.Test.YtnpkfncccddlmaaDoorXShelf
import Derived.Below
import Derived.WalkKit
import Derived.KernelRfl
namespace Go.Proofs.YtnpkfncccddlmaaDoorX
open Go.RowKit Go.Sort Go.Lib Go.Proofs.YtnpkfncccddlmaaDoorW.PrintWords
abbrev Rg := Int × Int
def encRg (x : Int × Int) : List Value := [.int .i64 x.1, .int .i64 x.2]
def cmpLo (x y : Int × Int) : Int := Lib.compareInt x.1 y.1
theorem ltLo (x y : Int × Int) : ltOf cmpLo x y = decide (x.1 < y.1) := by
  unfold ltOf cmpLo Lib.compareInt
  by_cases h1 : x.1 < y.1
  · simp [h1]
  · by_cases h2 : y.1 < x.1 <;> simp [h1, h2]
theorem swoLo : SWO (ltOf cmpLo) where
  irrefl x := by rw [ltLo]; simp
  trans x y z h1 h2 := by rw [ltLo] at *; simp at *; omega
  ntrans x y z h1 h2 := by rw [ltLo] at *; simp at *; omega
set_option maxHeartbeats 1000000 in
/-- ranges.Norm's closure: 'cmp.Compare(a.Lo, b.Lo)': in whatever world: two blocks are laid. -/
theorem closure_lo (x y : Int × Int) (W : World) : Calls Tryd.prog 62 #[.agg #[.int .i64 x.1, .int .i64 x.2], .agg #[.int .i64 y.1, .int .i64 y.2]] W fun e w' => e = .returned (.int .i64 (cmpLo x y)) ∧ ∃ q os', w' = grow (W.drewN q) os' := by
  have hcon := fun W' => AnyG.cmp_Compare_int Tryd.lay_cmpInt x.1 y.1 W'
  change ∀ W', Calls Tryd.prog 63 _ _ _ at hcon
  unfold cmpLo
  generalize Lib.compareInt x.1 y.1 = r at hcon ⊢
  go_enter Tryd.func62, Tryd.ntmps62
  go_wp2_with (go_at_call 63; refine (hcon _).mono ?_; rintro e w' ⟨rfl, rfl⟩)
  go_ret
  exact ⟨rfl, 0, _, by rw [alloc_eq_grow, alloc_eq_grow, grow_grow]; rfl⟩
theorem cmpLays_lo (blk off size : Nat) (w : World) : CmpLays Tryd.prog 62 #[] encRg 2 cmpLo blk off size w :=
  fun _ _ _ _ x y => closure_lo x y _
/-- What the library's sort makes of a list, by Lo. -/
def sortLo (l : List (Int × Int)) : List (Int × Int) := (Sort.pdq (ltOf cmpLo) l.toArray 0 l.length (Lib.bitLen l.length) true true).toList
theorem sortLo_perm (l : List (Int × Int)) : (sortLo l).Perm l := by
  have h := (pdq_sorts (ltOf cmpLo) swoLo l.toArray 0 l.length (Lib.bitLen l.length) true true (Nat.zero_le _) (by simp) (Or.inl rfl)).1
  obtain ⟨h1, _, h3⟩ := h
  unfold sortLo
  generalize Sort.pdq (ltOf cmpLo) l.toArray 0 l.length (Lib.bitLen l.length) true true = d at h1 h3 ⊢
  have e1 : d.extract 0 l.length = d := by rw [show l.length = d.size by rw [h1]; simp]; simp
  have e2 : l.toArray.extract 0 l.length = l.toArray := by simp
  rw [e1, e2] at h3
  simpa using h3
theorem sortLo_sorted (l : List (Int × Int)) : (sortLo l).Pairwise (fun x y => x.1 ≤ y.1) := by
  have h := (pdq_sorts (ltOf cmpLo) swoLo l.toArray 0 l.length (Lib.bitLen l.length) true true (Nat.zero_le _) (by simp) (Or.inl rfl))
  obtain ⟨⟨h1, _, _⟩, h2⟩ := h
  unfold sortLo
  generalize Sort.pdq (ltOf cmpLo) l.toArray 0 l.length (Lib.bitLen l.length) true true = d at h1 h2 ⊢
  rw [List.pairwise_iff_getElem]
  intro i j hi hj hij
  have hj' : j < d.size := by simpa using hj
  have hi' : i < d.size := by omega
  have := h2 i j (Nat.zero_le _) hij (by simpa [h1] using hj')
  rw [ltLo, getElem!_pos d j hj', getElem!_pos d i hi'] at this
  simp at this ⊢
  omega
/-- slices.SortFunc of ranges by Lo, over a row of the call's own. -/
theorem sortRange_calls {α : Type} {d : Kd α} (of : α → Int × Int) (back : Int × Int → α) (hbo : ∀ x, of (back x) = x) (hf : Fixed d (fun x => encRg (of x))) (P0_ : Nat → Prop) (u9000_ : Value) (l0 : List α) (w0 w : World) (hB : RowKit.Below w0.heap.size w0 w) (ho0 : Kd.R d 42 w w0.heap.size P0_ u9000_ l0) (hs : l0.length < 4611686018427387904) :
    Calls Tryd.prog 61 #[u9000_, .func (.func 62) #[] #[]] w fun e w' => e = .returned (.tuple #[]) ∧ Kd.R d 42 w' w0.heap.size (fun k_ => (P0_ k_ ∨ w.heap.size ≤ k_)) u9000_ ((sortLo (l0.map of)).map back) ∧ RowKit.Below w0.heap.size w0 w' ∧ Kept w w' (fun k_ => P0_ k_) := by
  have hR := (fixed_R hf).1 ho0
  rcases own_cases hR.2 with ⟨rfl, h0⟩ | ⟨g, cap, rfl⟩
  · obtain rfl := List.length_eq_zero_iff.1 h0
    have e : (sortLo (([] : List α).map of)).map back = [] := by
      have := (sortLo_perm []).length_eq
      simp at this
      simp [this]
    rw [e]
    exact (AnyF.slices_SortFunc_none { Tryd.lay_sortFuncRange with } none 0 (.func (.func 62) #[] #[]) w).mono fun e w' ⟨he, hw⟩ => by
      subst hw
      exact ⟨he, row_none hB ho0⟩
  · have hb := own_block_lt hR.2
    have eg : ∀ args w, (callFunc 62 args).run Tryd.prog w = .ok (.enter 62 args) w := enters_of Tryd.func62 (by kernel_rfl) rfl
    have hfl : ∀ l : List (Int × Int), (flatK encRg 2 l.toArray).toList = l.flatMap encRg := fun l => by rw [flatK_list encRg 2 (fun _ => rfl)]
    have hH : HoldsK encRg 2 w g 0 (l0.map of).toArray := holds_of_own (enc := id) (flatK encRg 2 (l0.map of).toArray) hR.2 (by rw [List.map_id, hfl, List.flatMap_map])
    have hcon := AnyQ.slices_SortFunc_eq Tryd.lay_sortFuncRange 2 Tryd.isAgg42 Tryd.sizeOf42 encRg (fun _ => rfl) (fun x v hv => by simp [encRg] at hv; rcases hv with rfl | rfl <;> rfl) cmpLo swoLo 62 #[] g 0 cap (l0.map of).toArray w eg (cmpLays_lo g 0 _ w) hH hb.1 (by simpa using hs)
    change Calls Tryd.prog 61 _ _ _ at hcon
    rw [show (l0.map of).toArray.size = l0.length by simp] at hcon
    refine hcon.mono fun e w' ⟨he, n, os, hw⟩ => ?_
    subst hw
    have hlen : (sortLo (l0.map of)).length = l0.length := by rw [(sortLo_perm _).length_eq]; simp
    refine ⟨he, row_put (enc' := id) hf _ hB ho0 (by simpa using hlen) ?_⟩
    rw [List.map_id, flatK_list encRg 2 (fun _ => rfl), List.flatMap_map]
    simp only [hbo]
    unfold sortLo
    simp
end Go.Proofs.YtnpkfncccddlmaaDoorX
