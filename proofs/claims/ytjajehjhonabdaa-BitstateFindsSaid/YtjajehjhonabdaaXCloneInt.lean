import Derived.Test.YtjajehjhonabdaaXVerA
import Derived.Test.YtjajehjhonabdaaXSort
import Derived.Test.YtjajehjhonabdaaXShelf
import Derived.Deep.SlicePairs
import Derived.Deep.WholeRow
namespace Go.Proofs.YtjajehjhonabdaaX
open Go.RowKit Go.Proofs.YtjajehjhonabdaaW.PrintWords Go.Proofs.YtjajehjhonabdaaW.PrintLast Go.Proofs.YtjajehjhonabdaaW.PrintMore
set_option linter.unusedVariables false
set_option linter.unusedSimpArgs false
theorem kI_fixed : Fixed kI encInt where
  len _ := rfl
  out h := h
  make _ _ _ x := rfl
theorem flat_Int {w : World} {A : Option Addr} {l : List (Int)} (h : Kd.C kI w A l.length l) (hp : 0 < l.length) :
    ∃ b off, A = some ⟨b, off, none⟩ ∧ b < w.heap.size ∧ ∀ j u, (l.flatMap encInt)[j]? = some u → w.cell? ⟨b, off + j, none⟩ = some u := by
  obtain ⟨ad, rfl, hc⟩ := h.2.2 hp
  obtain ⟨b, off, spot⟩ := ad
  obtain ⟨c0, _, hK0, hcell0⟩ := hc 0 l[0] (List.getElem?_eq_getElem hp)
  obtain rfl := kI_K hK0
  rw [kI_sz] at hcell0
  have h0 := hcell0 0 _ rfl
  have hs : spot = none := by
    rw [show 0 * 1 + 0 = 0 from rfl] at h0
    simp only [Addr.add, if_true, World.cell?] at h0
    cases spot with
    | none => rfl
    | some q =>
      revert h0
      split
      · simp
      · simp
  subst hs
  have hadd : ∀ n, (⟨b, off, none⟩ : Addr).add n = ⟨b, off + n, none⟩ := fun n => by unfold Addr.add; split <;> simp_all
  refine ⟨b, off, rfl, ?_, fun j u hj => ?_⟩
  · have := World.block_lt_of_cell? w _ h0
    rwa [hadd] at this
  · have hlen := flat_len (enc := encInt) 1 (fun _ => rfl) l
    have hjl : j < l.length * 1 := by
      rw [← hlen]
      exact (List.getElem?_eq_some_iff.1 hj).1
    have hr := (reps_of_flat (R := fun p c => c = encInt p) (k := 1) (enc := encInt) (fun _ => rfl) (fun _ => rfl) l).2 (j / 1) _ (List.getElem?_eq_getElem (by omega))
    have hu : (encInt (l[j / 1]'(by omega)))[j % 1]? = some u := by
      rw [← hr, List.getElem?_take, if_pos (by omega), List.getElem?_drop, show j / 1 * 1 + j % 1 = j by omega]
      exact hj
    obtain ⟨c, _, hK, hcell⟩ := hc (j / 1) _ (List.getElem?_eq_getElem (by omega))
    obtain rfl := kI_K hK
    rw [kI_sz] at hcell
    have := hcell (j % 1) u hu
    rw [hadd, show j / 1 * 1 + j % 1 = j by omega] at this
    exact this
theorem info_cInt : (Try.prog.info? 3).map (fun i => (i.zero, i.size, i.bytes)) = some (some (.int .i64 0), 1, 8) := by kernel_rfl
def CloneIntPost (w : World) (l : List (Int)) (e : Ending) (w' : World) : Prop := ∃ v0_ : Value, e = .returned v0_ ∧ Kd.R kI 3 w' w.heap.size (fun _ => True) v0_ l ∧ Below w.heap.size w w'
end Go.Proofs.YtjajehjhonabdaaX
