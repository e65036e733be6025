import Derived.Test.YtoihlfiacnljhaaXBandsCut
import Derived.Test.YtoihlfiacnljhaaXRangesBase
import Derived.ScopeJumps
import Derived.WalkMore
import Derived.StillTailTactics
import Derived.Laws.StructEq
import Derived.Laws.Cover2
import Derived.Deep.RegionLaw
namespace Go.Proofs.YtoihlfiacnljhaaX
open Go.RowKit Go.Proofs.YtoihlfiacnljhaaW.PrintWords Go.Proofs.YtoihlfiacnljhaaW.PrintLast Go.Proofs.YtoihlfiacnljhaaW.PrintMore
set_option linter.unusedVariables false
set_option linter.unusedSimpArgs false
theorem idx_str {L : List Int} (k : Nat) (hk : k < L.length) (h : ∀ x ∈ L, 0 ≤ x ∧ x ≤ 255) (w : World) : (Instr.index 9 (.string (strOfNums L)) (.int .i64 k)).run Try.prog w = .ok (.int .u8 L[k]) w := by
  have hx := h L[k] (List.getElem_mem hk)
  rw [run_index_string _ _ _ _ _ Try.underlying9, dif_pos ⟨by omega, by rw [strOfNums_size]; omega⟩]
  have e : ((strOfNums L)[((k : Int)).toNat]'(by rw [strOfNums_size]; omega)) = UInt8.ofNat L[k].toNat := by
    show (strOfNums L).data[((k : Int)).toNat]'_ = _
    simp [strOfNums]
  rw [e]
  congr 2
  rw [UInt8.toNat_ofNat']
  omega
theorem eq_ends (a b c d : Int) (w : World) : (Op.equalIn 10000 61 (.agg #[.int .i64 a, .int .i64 b]) (.agg #[.int .i64 c, .int .i64 d])).run Try.prog w = .ok (a == c && b == d) w := by
  have u3 := Try.underlying3
  have a3 := Try.isAgg3
  have z3 := Try.sizeOf3
  rw [show (10000 : Nat) = 9999 + 1 from rfl, Op.equalIn]
  simp only [Sem.run_bind, run_underlying Try.underlying61, Result.andThen_ok]
  simp only [Std.Legacy.Range.forIn_eq_forIn_range', Std.Legacy.Range.size, Nat.sub_zero, Nat.add_sub_cancel, Nat.div_one, List.range'_succ, List.range'_zero, List.forIn_cons, List.forIn_nil]
  go_simp
  by_cases h1 : a = c <;> by_cases h2 : b = d <;> simp [h1, h2]
def kSeqs : Kd (List (Int × Int)) := Kd.slice 41 kRg
theorem wrap_in {x : Int} (h0 : -9223372036854775808 ≤ x) (h1 : x ≤ 9223372036854775807) : wrap64 x = x := by
  unfold wrap64
  omega
theorem build_rg (a b : Int) (w : World) : (Instr.build 41 #[(0, .int .i64 a), (1, .int .i64 b)]).run Try.prog w = .ok (.agg #[.int .i64 a, .int .i64 b]) w := run_build w 41 _ _ (by kernel_rfl)
theorem info_seq : (Try.prog.info? 29).map (fun i => (i.zero, i.size, i.bytes)) = some (some (.slice none 0 0), 1, 24) := by kernel_rfl
/-- What stands behind calls that put sequences behind others (v0 at w): v at w'. -/
structure SeqsAt (base : Nat) (w : World) (v0 : Value) (w' : World) (v : Value) (ls : List (List (Int × Int))) : Prop where
  row : Kd.S kSeqs 29 w' base (fun _ => True) v ls
  below : Below base w w'
  keep : ∀ k, k < w.heap.size → some k ≠ v0.ownBlock → w'.heap[k]? = w.heap[k]?
  at_ : v.ownBlock = v0.ownBlock ∨ ∃ b, v.ownBlock = some b ∧ w.heap.size ≤ b
theorem SeqsAt.refl {base : Nat} {w : World} {v : Value} {ls : List (List (Int × Int))} (h : Kd.S kSeqs 29 w base (fun _ => True) v ls) : SeqsAt base w v w v ls := ⟨h, Below.refl _ _, fun _ _ _ => rfl, .inl rfl⟩
theorem SeqsAt.step {base : Nat} {w w1 w2 : World} {v0 v : Value} {ls : List (List (Int × Int))} (h : SeqsAt base w v0 w1 v ls) (hb : Below w1.heap.size w1 w2) (hw : base ≤ w.heap.size) : SeqsAt base w v0 w2 v ls :=
  ⟨Kd.S_below h.row hb, h.below.trans (hb.mono (Nat.le_trans hw h.below.size)), fun k hk hne => (hb.block k (Nat.lt_of_lt_of_le hk h.below.size)).trans (h.keep k hk hne), h.at_⟩
theorem SeqsAt.trans {base : Nat} {w w1 w2 : World} {v0 v1 v2 : Value} {l1 l2 : List (List (Int × Int))} (h : SeqsAt base w v0 w1 v1 l1) (h2 : SeqsAt base w1 v1 w2 v2 l2) : SeqsAt base w v0 w2 v2 l2 := by
  refine ⟨h2.row, h.below.trans h2.below, fun k hk hne => (h2.keep k (Nat.lt_of_lt_of_le hk h.below.size) ?_).trans (h.keep k hk hne), ?_⟩
  · rcases h.at_ with e | ⟨b, e, hb⟩
    · rw [e]; exact hne
    · rw [e]; intro e2; injection e2 with e2; omega
  · rcases h2.at_ with e | ⟨b, e, hb⟩
    · rw [e]; exact h.at_
    · exact .inr ⟨b, e, Nat.le_trans h.below.size hb⟩
theorem SeqsAt.grown {base : Nat} {w w1 w2 : World} {v0 v1 v2 : Value} {l1 l2 : List (List (Int × Int))} (h : SeqsAt base w v0 w1 v1 l1) (hr : Kd.S kSeqs 29 w2 base (fun _ => True) v2 l2) (hb : Below base w1 w2) (hg : w1.grownBy w2 v1.ownBlock) (hat : v2.ownBlock = v1.ownBlock ∨ ∃ b, v2.ownBlock = some b ∧ w1.heap.size ≤ b) : SeqsAt base w v0 w2 v2 l2 :=
  h.trans ⟨hr, hb, fun k hk hne => hg.block k hk hne, hat⟩
def SeqsPost (base : Nat) (w : World) (v0 : Value) (ls : List (List (Int × Int))) (e : Ending) (w' : World) : Prop := ∃ v : Value, e = .returned v ∧ SeqsAt base w v0 w' v ls
end Go.Proofs.YtoihlfiacnljhaaX
