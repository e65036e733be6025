import Derived.Test.YtnpkfncccddlmaaDoorXRg
import Derived.Test.YtnpkfncccddlmaaDoorXRangesHas
import Derived.Test.YtnpkfncccddlmaaDoorWKept
import Derived.Test.YtnpkfncccddlmaaDoorWZeros
import Derived.Deep.LoopGhost
import Derived.Deep.QuietTactic
import Derived.BigQuiet
import Derived.OwnWalk
import Derived.Outline
import Derived.Deep.WholeRow
namespace Go.Proofs.YtnpkfncccddlmaaDoorX
open Go.RowKit Go.Proofs.YtnpkfncccddlmaaDoorW.PrintWords Go.Proofs.YtnpkfncccddlmaaDoorW.PrintLast Go.Proofs.YtnpkfncccddlmaaDoorW.PrintMore
set_option linter.unusedVariables false
set_option linter.unusedSimpArgs false
theorem info_rg : (Tryd.prog.info? 42).map (fun i => (i.zero, i.size, i.bytes)) = some (some (.agg #[(.int .i64 0), (.int .i64 0)]), 2, 16) := by kernel_rfl
theorem C_at {w : World} {A : Option Addr} {l : List (Int × Int)} (h : Kd.C kRg w A l.length l) {i : Nat} (hi : i < l.length) :
    ∃ b off, A = some ⟨b, off, none⟩ ∧ w.cell? ⟨b, off + i * 2, none⟩ = some (.int .i64 l[i].1) ∧ w.cell? ⟨b, off + i * 2 + 1, none⟩ = some (.int .i64 l[i].2) := by
  obtain ⟨b, off, rfl, _, _, hc⟩ := row_cells (of := fun x : Int × Int => x) (fun h => kRg_K h) kRg_sz h (by omega)
  have e : (l.map fun x : Int × Int => x) = l := by simp
  rw [e] at hc
  refine ⟨b, off, rfl, ?_, ?_⟩
  · have := hc i hi 0 _ rfl
    rw [getElem!_pos l i hi] at this
    exact this
  · have := hc i hi 1 _ rfl
    rw [getElem!_pos l i hi] at this
    exact this
def NormAt (nf : List (Int × Int) → List (Int × Int)) (P : List (Int × Int) → Prop) : Prop :=
  ∀ (A : Option Addr) (c : Nat) (l : List (Int × Int)) (w : World), P l → Kd.C kRg w A l.length l → l.length ≤ c →
    Calls Tryd.prog 36 #[.slice A l.length c] w fun e w' => ∃ v0_ : Value, e = .returned v0_ ∧ Kd.R kRg 42 w' w.heap.size (fun _ => True) v0_ (nf l) ∧ Below w.heap.size w w'
def BothPost (w : World) (l : List (Int × Int)) (e : Ending) (w' : World) : Prop := ∃ v0_ : Value, e = .returned v0_ ∧ Kd.R kRg 42 w' w.heap.size (fun _ => True) v0_ l ∧ Below w.heap.size w w'
theorem zeroCells_size (m : Nat) : (Builtin.zeroCells #[Value.int .i64 0, .int .i64 0] m).size = m * 2 := by
  have := (Kd.reps_zeros (R := fun (_ : Unit) _ => True) (z := .agg #[Value.int .i64 0, .int .i64 0]) (size := 2) (z0 := ()) rfl (by decide) trivial m).1
  rw [Array.length_toList, List.length_replicate] at this
  exact this
end Go.Proofs.YtnpkfncccddlmaaDoorX
