import Derived.Test.YtoihlfiacnljhaaXSortA
import Derived.Deep.SlicePairs
import Derived.WalkKit
import Derived.ProofKit
import Derived.OpenShut
import Derived.SizedLaws
import Derived.KernelRfl
namespace Go.Proofs.YtoihlfiacnljhaaX
open Go.RowKit Go.Proofs.YtoihlfiacnljhaaW.PrintWords Go.Proofs.YtoihlfiacnljhaaW.PrintLast Go.Proofs.YtoihlfiacnljhaaW.PrintMore
open Go.ChangeShapes Go.WideShapes Go.Deep
set_option linter.unusedVariables false
set_option linter.unusedSimpArgs false
theorem wf_i64 {x : Int} (h : (Lit.int .i64 x).wf = true) : -9223372036854775808 ≤ x ∧ x ≤ 9223372036854775807 := by
  simp [Lit.wf, IntKind.min, IntKind.max, IntKind.signed, IntKind.bits] at h
  omega
/-- A list of ranges that came in. -/
theorem open_rg {H : Type} {enc : TypeId × Value → H} {W : World} {base : Nat} {spare : Nat → Bool} {held : Bool} {a : Option Addr} {len cap : Nat} {d : DataW H} {ps : List MemPlace} (h : DataW.Trod enc Try.prog W base spare held 29 (.slice a len cap) d ps) :
    ∃ zs : List (Int × Int), zs.length = len ∧ len ≤ cap ∧ Kd.C kRg W a len zs ∧ ∀ x ∈ zs, -9223372036854775808 ≤ x.1 ∧ x.1 ≤ 9223372036854775807 ∧ -9223372036854775808 ≤ x.2 ∧ x.2 ≤ 9223372036854775807 := by
  obtain ⟨fuel, hf⟩ := h
  rcases open_slice_pairs Try.underlying29 Try.underlying41 (by kernel_rfl) (by kernel_rfl) (by kernel_rfl) (by kernel_rfl) (by kernel_rfl) hf with ⟨hcs, _⟩ | ⟨x, l, c, m, n, V0, V1, D0, D1, P0, P1, hcs, _, hl, hm, hmm, _, hx⟩
  · simp [Value.cells] at hcs
    obtain ⟨rfl, rfl, rfl⟩ := hcs
    exact ⟨[], rfl, Nat.le_refl _, ⟨rfl, by omega, fun h => absurd h (by omega)⟩, fun x h => by cases h⟩
  · simp [Value.cells] at hcs
    obtain ⟨rfl, rfl, rfl⟩ := hcs
    have hlm : len ≤ m := by rw [hmm]; split <;> omega
    have hq : ∀ i, i < len → ∃ q : Int × Int, W.cell? (x.add (i * 2)) = some (.int .i64 q.1) ∧ W.cell? (x.add (i * 2 + 1)) = some (.int .i64 q.2) ∧ (Lit.int .i64 q.1).wf = true ∧ (Lit.int .i64 q.2).wf = true := by
      intro i hi
      obtain ⟨h0, h1, t0, t1⟩ := hx i (by omega)
      obtain ⟨n0, e0, _, w0⟩ := DataW.trod_int (Try.underlying3) t0
      obtain ⟨n1, e1, _, w1⟩ := DataW.trod_int (Try.underlying3) t1
      simp only [List.cons.injEq, and_true] at e0 e1
      rw [e0] at h0
      rw [e1] at h1
      exact ⟨(n0, n1), h0, h1, w0, w1⟩
    obtain ⟨q, hq⟩ := choose_lt hq
    refine ⟨(List.range len).map q, by simp, hl, ⟨by simp, by unfold maxLen at hm; omega, fun _ => ⟨x, rfl, ?_⟩⟩, ?_⟩
    · intro j p hj
      rw [List.getElem?_map, Option.map_eq_some_iff] at hj
      obtain ⟨j', hj, rfl⟩ := hj
      obtain ⟨hlt, hj⟩ := List.getElem?_eq_some_iff.1 hj
      simp at hj hlt
      subst hj
      obtain ⟨h0, h1, _, _⟩ := hq j hlt
      refine ⟨encRg (q j), rfl, kRg_mkK _ _, ?_⟩
      intro i u hi
      rw [kRg_sz]
      match i with
      | 0 => rw [show encRg (q j) = [.int .i64 (q j).1, .int .i64 (q j).2] from rfl] at hi; simp at hi; subst hi; exact h0
      | 1 => rw [show encRg (q j) = [.int .i64 (q j).1, .int .i64 (q j).2] from rfl] at hi; simp at hi; subst hi; exact h1
      | i + 2 => rw [show encRg (q j) = [.int .i64 (q j).1, .int .i64 (q j).2] from rfl] at hi; simp at hi
    · intro y hy
      obtain ⟨j, hj, rfl⟩ := List.mem_map.1 hy
      obtain ⟨_, _, w0, w1⟩ := hq j (List.mem_range.1 hj)
      have b0 := wf_i64 w0
      have b1 := wf_i64 w1
      exact ⟨b0.1, b0.2, b1.1, b1.2⟩
end Go.Proofs.YtoihlfiacnljhaaX
