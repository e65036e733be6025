import Derived.Test.YtjajehjhonabdaaProg
import Derived.Test.YtjajehjhonabdaaWMore
import Derived.Test.YtjajehjhonabdaaWKept
import Derived.Carry
import Derived.WalkSpells
import Derived.Outline
import Derived.OwnWalk
import Derived.Deep.LoopGhost
import Derived.Deep.QuietTactic
import Derived.BigQuiet
import Derived.KernelRfl
import Derived.WalkKit
import Derived.RowKit3
import Derived.Laws.BitsLemmas
import Derived.Test.YtjajehjhonabdaaXShelf
namespace Go.Proofs.YtjajehjhonabdaaX
open Go.RowKit Go.Proofs.YtjajehjhonabdaaW.PrintWords Go.Proofs.YtjajehjhonabdaaW.PrintLast Go.Proofs.YtjajehjhonabdaaW.PrintMore
set_option linter.unusedVariables false
set_option linter.unusedSimpArgs false
/-! Pairs that are marked: a table of bits. -/
/-- Bit k of a row of words. -/
def bitOf (ws : List Nat) (k : Nat) : Bool := (ws.getD (k / 64) 0).testBit (k % 64)
def wordCells (ws : List Nat) : Array Value := (ws.map fun (x : Nat) => Value.int .u64 (x : Int)).toArray
/-- A table of marks, where it lies. -/
def MarksI (W : World) (gm gw rows cols : Nat) (S : List Nat) : Prop := ∃ ws : List Nat, W.heap[gm]? = some (.cells #[.int .i64 rows, .int .i64 cols, .slice (some ⟨gw, 0, none⟩) ws.length ws.length] 99 (0, 0)) ∧ W.heap[gw]? = some (.cells (wordCells ws) 124 (0, 0)) ∧ gm ≠ gw ∧ rows * cols ≤ 64 * ws.length ∧ (∀ x ∈ ws, x < 2 ^ 64) ∧ ∀ k, k < rows * cols → (bitOf ws k = true ↔ k ∈ S)
theorem MarksI.keep {W W' : World} {gm gw rows cols : Nat} {S : List Nat} (h : MarksI W gm gw rows cols S) (h1 : W'.heap[gm]? = W.heap[gm]?) (h2 : W'.heap[gw]? = W.heap[gw]?) : MarksI W' gm gw rows cols S := by
  obtain ⟨ws, a, b, c⟩ := h
  exact ⟨ws, h1.trans a, h2.trans b, c⟩
theorem and_bit {x j : Nat} (hx : x < 2 ^ 64) (hj : j < 64) : (Go.bits .and .u64 (x : Int) ((2 ^ j : Nat) : Int) != 0) = x.testBit j := by
  have h2 : (2 : Nat) ^ j < 2 ^ 64 := Nat.pow_lt_pow_right (by decide) hj
  rw [(bits_nat .u64 64 (by decide) (fun n h0 h1 => by simp [IntKind.wrap, IntKind.bits, IntKind.signed]; omega) x (2 ^ j) hx h2).1]
  have e : x &&& 2 ^ j = if x.testBit j = true then 2 ^ j else 0 := by
    apply Nat.eq_of_testBit_eq
    intro i
    rw [Nat.testBit_and, Nat.testBit_two_pow]
    by_cases g : j = i
    · subst g
      by_cases b : x.testBit j = true
      · rw [if_pos b, b, Nat.testBit_two_pow]; simp
      · rw [if_neg b, Bool.eq_false_iff.2 b]; simp
    · rw [decide_eq_false g, Bool.and_false]
      split
      · rw [Nat.testBit_two_pow, decide_eq_false g]
      · simp
  rw [e]
  have hpos : 0 < 2 ^ j := Nat.pow_pos (by decide)
  generalize (2 : Nat) ^ j = p at hpos
  cases x.testBit j with
  | true => simp; omega
  | false => simp
theorem or_bit {x j : Nat} (hx : x < 2 ^ 64) (hj : j < 64) : Go.bits .or .u64 (x : Int) ((2 ^ j : Nat) : Int) = ((x ||| 2 ^ j : Nat) : Int) :=
  (bits_nat .u64 64 (by decide) (fun n h0 h1 => by simp [IntKind.wrap, IntKind.bits, IntKind.signed]; omega) x (2 ^ j) hx (Nat.pow_lt_pow_right (by decide) hj)).2
theorem bit_set {ws : List Nat} {k : Nat} (hk : k / 64 < ws.length) (k' : Nat) : bitOf (ws.set (k / 64) (ws[k / 64] ||| 2 ^ (k % 64))) k' = (bitOf ws k' || decide (k' = k)) := by
  unfold bitOf
  by_cases e : k' / 64 = k / 64
  · rw [List.getD_eq_getElem?_getD, List.getD_eq_getElem?_getD, e, List.getElem?_set_self hk, List.getElem?_eq_getElem hk, Option.getD_some, Option.getD_some, Nat.testBit_or, Nat.testBit_two_pow]
    congr 1
    rw [Bool.eq_iff_iff, decide_eq_true_eq, decide_eq_true_eq]
    omega
  · rw [List.getD_eq_getElem?_getD, List.getD_eq_getElem?_getD, List.getElem?_set_ne (fun h => e h.symm), decide_eq_false (fun h => e (by rw [h])), Bool.or_false]
theorem bit_at {W : World} {gm rows cols : Nat} {sv : Value} (h : W.heap[gm]? = some (.cells #[.int .i64 rows, .int .i64 cols, sv] 99 (0, 0))) {r c : Nat} (hr : r < rows) (hc : c < cols) (hm : rows * cols ≤ 262144) :
    Calls Try.prog 83 #[.pointer (some ⟨gm, 0, none⟩), .int .i64 r, .int .i64 c] W fun e w' => e = .returned (.tuple #[.int .i64 ((r * cols + c) / 64 : Nat), .int .u64 ((2 ^ ((r * cols + c) % 64) : Nat) : Int), .bool true]) ∧ W = w' := by
  have e0 := (blk_cell h 0).trans rfl
  have e1 := (blk_cell h 1).trans rfl
  have hk : r * cols + c < rows * cols := by
    have : (r + 1) * cols ≤ rows * cols := Nat.mul_le_mul_right cols hr
    rw [Nat.add_mul, Nat.one_mul] at this
    omega
  have h0 : ((r : Int) < 0) = False := eq_false (by omega)
  have h1 : ((c : Int) < 0) = False := eq_false (by omega)
  have h2 : ((rows : Int) ≤ (r : Int)) = False := eq_false (by omega)
  have h3 : ((cols : Int) ≤ (c : Int)) = False := eq_false (by omega)
  have hp : ((r : Int) * (cols : Int)) = ((r * cols : Nat) : Int) := by simp
  have m1 : IntKind.i64.wrap ((r : Int) * (cols : Int)) = ((r * cols : Nat) : Int) := by rw [hp, IntKind.wrap_i64]; omega
  have m2 : IntKind.i64.wrap (((r * cols : Nat) : Int) + (c : Int)) = ((r * cols + c : Nat) : Int) := by rw [IntKind.wrap_i64]; omega
  generalize hkk : r * cols + c = k at hk m2 ⊢
  generalize r * cols = rc at m1 m2
  have hk2 : k < 262144 := by omega
  have q1 : Int.tdiv (k : Int) 64 = ((k / 64 : Nat) : Int) := by rw [Int.tdiv_eq_ediv_of_nonneg (by omega)]; omega
  have q2 : Int.tmod (k : Int) 64 = ((k % 64 : Nat) : Int) := by rw [Int.tmod_eq_emod_of_nonneg (by omega)]; omega
  have hm64 : k % 64 < 64 := Nat.mod_lt _ (by decide)
  have hq64 : k / 64 < 262144 := by omega
  clear h hkk hp hk hr hc hm
  generalize k / 64 = q at q1 hq64 ⊢
  generalize k % 64 = j at q2 hm64 ⊢
  have m3 : IntKind.i64.wrap (q : Int) = (q : Int) := by rw [IntKind.wrap_i64]; omega
  have m4 : IntKind.i64.wrap (j : Int) = (j : Int) := by rw [IntKind.wrap_i64]; omega
  have m5 : IntKind.u64.wrap (j : Int) = (j : Int) := by simp [IntKind.wrap, IntKind.bits, IntKind.signed]; omega
  have j0 : (0 : Int) ≤ (j : Int) := by omega
  have j1 : (j : Int) ≤ 64 := by omega
  have jt : (j : Int).toNat = j := Int.toNat_natCast j
  have hpw : (2 : Nat) ^ j < 2 ^ 64 := Nat.pow_lt_pow_right (by decide) hm64
  have m6 : IntKind.u64.wrap (1 * 2 ^ (j : Int).toNat) = ((2 ^ j : Nat) : Int) := by
    rw [jt, Int.one_mul, show (2 : Int) ^ j = ((2 ^ j : Nat) : Int) by simp]
    simp only [IntKind.wrap, IntKind.bits, IntKind.signed]
    generalize (2 : Nat) ^ j = p at hpw
    simp
    omega
  have m7 : IntKind.u64.wrap (2 ^ j) = ((2 ^ j : Nat) : Int) := by rw [Int.one_mul, jt] at m6; exact m6
  generalize (2 : Nat) ^ j = p at m7 ⊢
  clear hpw m6 jt hk2 hm64 hq64
  go_enter Try.func83, Try.ntmps83
  go_wp2
  go_ret3
  exact ⟨rfl, rfl⟩
theorem word_cell {W : World} {gw : Nat} {ws : List Nat} (h : W.heap[gw]? = some (.cells (wordCells ws) 124 (0, 0))) {q : Nat} (hq : q < ws.length) : W.cell? ⟨gw, q, none⟩ = some (.int .u64 (ws[q] : Int)) := by
  refine (blk_cell h q).trans ?_
  unfold wordCells
  simp [hq]
theorem set_words {W : World} {gw : Nat} {ws : List Nat} (h : W.heap[gw]? = some (.cells (wordCells ws) 124 (0, 0))) {q x : Nat} (hq : q < ws.length) : (W.setCell ⟨gw, q, none⟩ (.int .u64 (x : Int))).heap[gw]? = some (.cells (wordCells (ws.set q x)) 124 (0, 0)) := by
  simp only [World.setCell, Array.getElem?_modify, if_true, h, Option.map_some, Option.isSome_none, Bool.false_eq_true, if_false]
  unfold wordCells
  rw [List.setIfInBounds_toArray, List.map_set]
theorem mark_at {W : World} {gm gw rows cols : Nat} {S : List Nat} (h : MarksI W gm gw rows cols S) {r c : Nat} (hr : r < rows) (hc : c < cols) (hm : rows * cols ≤ 262144) :
    Calls Try.prog 67 #[.pointer (some ⟨gm, 0, none⟩), .int .i64 r, .int .i64 c] W fun e w' => (r * cols + c ∈ S ∧ e = .returned (.bool false) ∧ W = w') ∨ (r * cols + c ∉ S ∧ e = .returned (.bool true) ∧ MarksI w' gm gw rows cols ((r * cols + c) :: S) ∧ ∃ v, w' = W.setCell ⟨gw, (r * cols + c) / 64, none⟩ v) := by
  obtain ⟨ws, h1, h2, hne, hl, hx, hS⟩ := h
  have hk : r * cols + c < rows * cols := by
    have : (r + 1) * cols ≤ rows * cols := Nat.mul_le_mul_right cols hr
    rw [Nat.add_mul, Nat.one_mul] at this
    omega
  have HB := Aside0.mk (bit_at h1 hr hc hm)
  have hq : (r * cols + c) / 64 < ws.length := by omega
  obtain ⟨x, hxe⟩ : ∃ x, ws[(r * cols + c) / 64] = x := ⟨_, rfl⟩
  have hx64 : x < 2 ^ 64 := hxe ▸ hx _ (List.getElem_mem hq)
  have hj : (r * cols + c) % 64 < 64 := Nat.mod_lt _ (by decide)
  have hbs := bit_set hq
  rw [hxe] at hbs
  have HK := Aside0.mk (show MarksI (W.setCell ⟨gw, (r * cols + c) / 64, none⟩ (.int .u64 ((x ||| 2 ^ ((r * cols + c) % 64) : Nat) : Int))) gm gw rows cols ((r * cols + c) :: S) from by
    refine ⟨ws.set ((r * cols + c) / 64) (x ||| 2 ^ ((r * cols + c) % 64)), ?_, set_words h2 hq, hne, by rw [List.length_set]; exact hl, fun y hy => ?_, fun k' hk' => ?_⟩
    · rw [List.length_set, Below.heap_setCell _ _ _ _ hne]; exact h1
    · rcases List.mem_or_eq_of_mem_set hy with h3 | h3
      · exact hx y h3
      · rw [h3]
        exact Nat.or_lt_two_pow hx64 (Nat.pow_lt_pow_right (by decide) hj)
    · rw [hbs, Bool.or_eq_true, decide_eq_true_eq, hS k' hk', List.mem_cons]
      exact or_comm)
  have hbit := hS _ hk
  unfold bitOf at hbit
  have hw := word_cell h2 hq
  have qf := blk_frozen h2 ((r * cols + c) / 64)
  rw [hxe] at hw
  have e2 := (blk_cell h1 2).trans rfl
  rw [List.getD_eq_getElem?_getD, List.getElem?_eq_getElem hq, Option.getD_some, hxe] at hbit
  have ha := and_bit hx64 hj
  have ho := or_bit hx64 hj
  clear hbs h1 h2 hl hx hS hxe hr hc hm hk
  generalize r * cols + c = k at *
  generalize k / 64 = q at *
  generalize k % 64 = j at *
  generalize (2 : Nat) ^ j = p at *
  generalize ws.length = nw at *
  have hlt : (q : Int) < (nw : Int) := by omega
  clear hx64 hj
  go_enter Try.func67, Try.ntmps67
  go_wp2_with fail
  refine HB.out.mono ?_
  rintro e w' ⟨rfl, rfl⟩
  by_cases hb : x.testBit j = true
  · rw [hb] at ha
    go_wp2
    go_ret
    exact .inl ⟨hbit.1 hb, rfl, rfl⟩
  · rw [Bool.eq_false_iff.2 hb] at ha
    go_wp2
    go_ret
    exact .inr ⟨fun hh => hb (hbit.2 hh), rfl, HK.out, _, rfl⟩
end Go.Proofs.YtjajehjhonabdaaX

namespace Go.Proofs.YtjajehjhonabdaaX
open Go.RowKit Go.Proofs.YtjajehjhonabdaaW.PrintWords Go.Proofs.YtjajehjhonabdaaW.PrintLast Go.Proofs.YtjajehjhonabdaaW.PrintMore
set_option linter.unusedVariables false
set_option linter.unusedSimpArgs false
/-! What is so at a place of a text. -/
def wordB (c : Int) : Bool := decide ((48 ≤ c ∧ c ≤ 57) ∨ (65 ≤ c ∧ c ≤ 90) ∨ c = 95 ∨ (97 ≤ c ∧ c ≤ 122))
def wordsL : List UInt8 := [48, 49, 50, 51, 52, 53, 54, 55, 56, 57, 65, 66, 67, 68, 69, 70, 71, 72, 73, 74, 75, 76, 77, 78, 79, 80, 81, 82, 83, 84, 85, 86, 87, 88, 89, 90, 95, 97, 98, 99, 100, 101, 102, 103, 104, 105, 106, 107, 108, 109, 110, 111, 112, 113, 114, 115, 116, 117, 118, 119, 120, 121, 122]
theorem words_tab : (List.range 128).all (fun n => decide (0 ≤ Lib.indexByte wordsL n.toUInt8) == wordB (n : Int)) = true := by decide +kernel
theorem word_at (c : Int) (h0 : -1 ≤ c) (h1 : c ≤ 255) (w : World) : Calls Try.prog 86 #[.int .i64 c] w fun e w' => e = .returned (.bool (wordB c)) ∧ w = w' := by
  by_cases g0 : 0 < c
  · by_cases g1 : c < 128
    · have ht := List.all_eq_true.1 words_tab c.toNat (List.mem_range.2 (by omega))
      rw [beq_iff_eq, show ((c.toNat : Nat) : Int) = c by omega] at ht
      have hu : IntKind.u8.wrap c = c := by rw [IntKind.wrap_u8]; omega
      have HI := Aside0.mk (Go.Proofs.Any.strings_IndexByte Try.lay_idxByte (⟨⟨wordsL⟩⟩ : ByteArray) c w)
      change Aside0 (Calls Try.prog 90 #[.string ⟨⟨wordsL⟩⟩, .int .u8 c] w _) at HI
      rw [show (⟨⟨wordsL⟩⟩ : ByteArray).data.toList = wordsL from rfl] at HI
      rw [← ht]
      generalize Lib.indexByte wordsL c.toNat.toUInt8 = r at HI ⊢
      clear ht
      go_enter Try.func86, Try.ntmps86
      go_wp2_with fail
      refine HI.out.mono ?_
      rintro e w' ⟨rfl, rfl⟩
      go_wp2
      go_ret
      exact ⟨rfl, rfl⟩
    · have hf : wordB c = false := by unfold wordB; rw [decide_eq_false_iff_not]; omega
      rw [hf]
      clear hf
      go_enter Try.func86, Try.ntmps86
      go_wp2
      go_ret
      exact ⟨rfl, rfl⟩
  · have hf : wordB c = false := by unfold wordB; rw [decide_eq_false_iff_not]; omega
    rw [hf]
    clear hf
    go_enter Try.func86, Try.ntmps86
    go_wp2
    go_ret
    exact ⟨rfl, rfl⟩
theorem byteOf_at (c : Int) (h0 : -1 ≤ c) (h1 : c ≤ 255) (w : World) : Calls Try.prog 85 #[.int .i64 c] w fun e w' => e = .returned (.int .i64 c) ∧ w = w' := by
  by_cases g : c = -1
  · subst g
    go_enter Try.func85, Try.ntmps85
    go_wp2
    go_ret
    exact ⟨rfl, rfl⟩
  · have h2 : 0 ≤ c := by omega
    go_enter Try.func85, Try.ntmps85
    go_wp2
    go_ret
    exact ⟨rfl, rfl⟩
theorem asked_at (w : World) : Calls Try.prog 87 #[] w fun e w' => e = .returned (.agg #[.int .i64 10, .int .i64 20, .int .i64 8, .int .i64 16]) ∧ Below w.heap.size w w' := by
  have HB := Aside0.mk (fun o => (Below.refl _ w).alloc (Nat.le_refl _) o)
  go_enter Try.func87, Try.ntmps87
  go_wp2
  exact bodyPost_ret (v := .agg #[.int .i64 10, .int .i64 20, .int .i64 8, .int .i64 16]) (by simp [results, Try.results87, go_sem]) rfl ⟨rfl, HB.out _⟩
def orIf (b : Bool) (x y : Int) : Int := if b = true then Go.bits .or .i64 x y else x
/-- What is so between two bytes. -/
def betweenV (a b : Int) : Int := orIf (b == 10) (orIf (a == 10) (orIf (b == -1) (orIf (a == -1) (if (wordB a != wordB b) = true then 32 else 64) 10) 20) 8) 16
theorem idx_b0 (b0 b1 b2 b3 : Bool) (w : World) : (Instr.index 154 (.agg #[.bool b0, .bool b1, .bool b2, .bool b3]) (.int .i64 0)).run Try.prog w = .ok (.bool b0) w := by kernel_rfl
theorem idx_a0 (w : World) : (Instr.index 156 (.agg #[.int .i64 10, .int .i64 20, .int .i64 8, .int .i64 16]) (.int .i64 0)).run Try.prog w = .ok (.int .i64 10) w := by kernel_rfl
theorem idx_b1 (b0 b1 b2 b3 : Bool) (w : World) : (Instr.index 154 (.agg #[.bool b0, .bool b1, .bool b2, .bool b3]) (.int .i64 1)).run Try.prog w = .ok (.bool b1) w := by kernel_rfl
theorem idx_a1 (w : World) : (Instr.index 156 (.agg #[.int .i64 10, .int .i64 20, .int .i64 8, .int .i64 16]) (.int .i64 1)).run Try.prog w = .ok (.int .i64 20) w := by kernel_rfl
theorem idx_b2 (b0 b1 b2 b3 : Bool) (w : World) : (Instr.index 154 (.agg #[.bool b0, .bool b1, .bool b2, .bool b3]) (.int .i64 2)).run Try.prog w = .ok (.bool b2) w := by kernel_rfl
theorem idx_a2 (w : World) : (Instr.index 156 (.agg #[.int .i64 10, .int .i64 20, .int .i64 8, .int .i64 16]) (.int .i64 2)).run Try.prog w = .ok (.int .i64 8) w := by kernel_rfl
theorem idx_b3 (b0 b1 b2 b3 : Bool) (w : World) : (Instr.index 154 (.agg #[.bool b0, .bool b1, .bool b2, .bool b3]) (.int .i64 3)).run Try.prog w = .ok (.bool b3) w := by kernel_rfl
theorem idx_a3 (w : World) : (Instr.index 156 (.agg #[.int .i64 10, .int .i64 20, .int .i64 8, .int .i64 16]) (.int .i64 3)).run Try.prog w = .ok (.int .i64 16) w := by kernel_rfl
def orsL (o : Int) (b0 b1 b2 b3 : Bool) : List Int := [o, orIf b0 o 10, orIf b1 (orIf b0 o 10) 20, orIf b2 (orIf b1 (orIf b0 o 10) 20) 8, orIf b3 (orIf b2 (orIf b1 (orIf b0 o 10) 20) 8) 16]
set_option maxHeartbeats 4000000 in
set_option maxRecDepth 100000 in
theorem between_at (a b : Int) (ha0 : -1 ≤ a) (ha1 : a ≤ 255) (hb0 : -1 ≤ b) (hb1 : b ≤ 255) (w : World) : Calls Try.prog 73 #[.int .i64 a, .int .i64 b] w fun e w' => e = .returned (.int .i64 (betweenV a b)) ∧ Below w.heap.size w w' := by
  have HBA := Aside0.mk (fun w => byteOf_at a ha0 ha1 w)
  have HBB := Aside0.mk (fun w => byteOf_at b hb0 hb1 w)
  have HWA := Aside0.mk (fun w => word_at a ha0 ha1 w)
  have HWB := Aside0.mk (fun w => word_at b hb0 hb1 w)
  have HAS := Aside0.mk (fun w => asked_at w)
  have HB := Aside0.mk (Below.refl w.heap.size w)
  unfold betweenV
  generalize wordB a = wa at HWA ⊢
  generalize wordB b = wb at HWB ⊢
  obtain ⟨b0, h0⟩ : ∃ x, (a == -1) = x := ⟨_, rfl⟩
  obtain ⟨b1, h1⟩ : ∃ x, (b == -1) = x := ⟨_, rfl⟩
  obtain ⟨b2, h2⟩ : ∃ x, (a == 10) = x := ⟨_, rfl⟩
  obtain ⟨b3, h3⟩ : ∃ x, (b == 10) = x := ⟨_, rfl⟩
  rw [h0, h1, h2, h3]
  clear ha0 ha1 hb0 hb1
  obtain ⟨x, hx⟩ : ∃ x, (wa != wb) = x := ⟨_, rfl⟩
  rw [hx]
  have hx2 : (!(wa == wb)) = x := hx
  clear hx
  obtain ⟨o, ho⟩ : ∃ o : Int, (if x = true then 32 else 64) = o := ⟨_, rfl⟩
  rw [ho]
  obtain ⟨f, hf⟩ : ∃ f : Nat → Int, f = fun k => (orsL o b0 b1 b2 b3).getD k 0 := ⟨_, rfl⟩
  have e4 : orIf b3 (orIf b2 (orIf b1 (orIf b0 o 10) 20) 8) 16 = f 4 := by rw [hf]; rfl
  have HL := Aside0.mk (show f 0 = o ∧ f 1 = orIf b0 (f 0) 10 ∧ f 2 = orIf b1 (f 1) 20 ∧ f 3 = orIf b2 (f 2) 8 ∧ f 4 = orIf b3 (f 3) 16 from by rw [hf]; exact ⟨rfl, rfl, rfl, rfl, rfl⟩)
  rw [e4]
  clear hf e4
  go_enter Try.func73, Try.ntmps73
  go_wp2_with fail
  refine (HBA.out w).mono ?_
  rintro e w' ⟨rfl, rfl⟩
  go_wp2_with fail
  refine (HBB.out w).mono ?_
  rintro e w' ⟨rfl, rfl⟩
  go_wp2_with fail
  refine (HWA.out w).mono ?_
  rintro e w' ⟨rfl, rfl⟩
  go_wp2_with fail
  refine (HWB.out w).mono ?_
  rintro e w' ⟨rfl, rfl⟩
  cases x
  · simp only [Bool.false_eq_true, if_false, if_true] at ho
    subst ho
    go_wp2_with fail
    go_loopg [5, 26] 4 (fun g s5 s26 wr => ∃ k : Nat, k ≤ 4 ∧ 4 - k ≤ g ∧ s26 = .int .i64 k ∧ s5 = .int .i64 (f k) ∧ Aside0 (Below w.heap.size w wr))
    case atStart => exact ⟨0, by omega, by omega, rfl, by rw [HL.out.1], HB⟩
    case round =>
      clear HB
      obtain ⟨k, hk, hgh, rfl, rfl, HB⟩ := hrel
      rcases (show k = 0 ∨ k = 1 ∨ k = 2 ∨ k = 3 ∨ k = 4 by omega) with rfl | rfl | rfl | rfl | rfl
      · have hl := HL.out.2.1
        cases b0
        · have HV := Aside0.mk (show f 1 = f 0 by rw [hl]; rfl)
          clear hl
          have hi := idx_b0 false b1 b2 b3 wr
          go_wp2_with fail
          go_roundg (4 - 1)
          case measure => omega
          case rel => exact ⟨1, by omega, by omega, rfl, by rw [HV.out], HB⟩
        · have hv : Go.bits .or .i64 (f 0) 10 = f 1 := by rw [hl]; rfl
          clear hl
          have hi := idx_b0 true b1 b2 b3 wr
          go_wp2_with fail
          refine (HAS.out wr).mono ?_
          rintro e w2 ⟨rfl, hb⟩
          have HB2 := Aside0.mk (HB.out.trans (hb.mono HB.out.size))
          clear HB hb
          have hj := idx_a0 w2
          go_wp2_with fail
          go_roundg (4 - 1)
          case measure => omega
          case rel => exact ⟨1, by omega, by omega, rfl, by first | rfl | (rw [hv]), HB2⟩
      · have hl := HL.out.2.2.1
        cases b1
        · have HV := Aside0.mk (show f 2 = f 1 by rw [hl]; rfl)
          clear hl
          have hi := idx_b1 b0 false b2 b3 wr
          go_wp2_with fail
          go_roundg (4 - 2)
          case measure => omega
          case rel => exact ⟨2, by omega, by omega, rfl, by rw [HV.out], HB⟩
        · have hv : Go.bits .or .i64 (f 1) 20 = f 2 := by rw [hl]; rfl
          clear hl
          have hi := idx_b1 b0 true b2 b3 wr
          go_wp2_with fail
          refine (HAS.out wr).mono ?_
          rintro e w2 ⟨rfl, hb⟩
          have HB2 := Aside0.mk (HB.out.trans (hb.mono HB.out.size))
          clear HB hb
          have hj := idx_a1 w2
          go_wp2_with fail
          go_roundg (4 - 2)
          case measure => omega
          case rel => exact ⟨2, by omega, by omega, rfl, by first | rfl | (rw [hv]), HB2⟩
      · have hl := HL.out.2.2.2.1
        cases b2
        · have HV := Aside0.mk (show f 3 = f 2 by rw [hl]; rfl)
          clear hl
          have hi := idx_b2 b0 b1 false b3 wr
          go_wp2_with fail
          go_roundg (4 - 3)
          case measure => omega
          case rel => exact ⟨3, by omega, by omega, rfl, by rw [HV.out], HB⟩
        · have hv : Go.bits .or .i64 (f 2) 8 = f 3 := by rw [hl]; rfl
          clear hl
          have hi := idx_b2 b0 b1 true b3 wr
          go_wp2_with fail
          refine (HAS.out wr).mono ?_
          rintro e w2 ⟨rfl, hb⟩
          have HB2 := Aside0.mk (HB.out.trans (hb.mono HB.out.size))
          clear HB hb
          have hj := idx_a2 w2
          go_wp2_with fail
          go_roundg (4 - 3)
          case measure => omega
          case rel => exact ⟨3, by omega, by omega, rfl, by first | rfl | (rw [hv]), HB2⟩
      · have hl := HL.out.2.2.2.2
        cases b3
        · have HV := Aside0.mk (show f 4 = f 3 by rw [hl]; rfl)
          clear hl
          have hi := idx_b3 b0 b1 b2 false wr
          go_wp2_with fail
          go_roundg (4 - 4)
          case measure => omega
          case rel => exact ⟨4, by omega, by omega, rfl, by rw [HV.out], HB⟩
        · have hv : Go.bits .or .i64 (f 3) 16 = f 4 := by rw [hl]; rfl
          clear hl
          have hi := idx_b3 b0 b1 b2 true wr
          go_wp2_with fail
          refine (HAS.out wr).mono ?_
          rintro e w2 ⟨rfl, hb⟩
          have HB2 := Aside0.mk (HB.out.trans (hb.mono HB.out.size))
          clear HB hb
          have hj := idx_a3 w2
          go_wp2_with fail
          go_roundg (4 - 4)
          case measure => omega
          case rel => exact ⟨4, by omega, by omega, rfl, by first | rfl | (rw [hv]), HB2⟩
      · go_wp2_with fail
        go_ret
        exact ⟨rfl, HB.out⟩
  · simp only [Bool.false_eq_true, if_false, if_true] at ho
    subst ho
    go_wp2_with fail
    go_loopg [5, 26] 4 (fun g s5 s26 wr => ∃ k : Nat, k ≤ 4 ∧ 4 - k ≤ g ∧ s26 = .int .i64 k ∧ s5 = .int .i64 (f k) ∧ Aside0 (Below w.heap.size w wr))
    case atStart => exact ⟨0, by omega, by omega, rfl, by rw [HL.out.1], HB⟩
    case round =>
      clear HB
      obtain ⟨k, hk, hgh, rfl, rfl, HB⟩ := hrel
      rcases (show k = 0 ∨ k = 1 ∨ k = 2 ∨ k = 3 ∨ k = 4 by omega) with rfl | rfl | rfl | rfl | rfl
      · have hl := HL.out.2.1
        cases b0
        · have HV := Aside0.mk (show f 1 = f 0 by rw [hl]; rfl)
          clear hl
          have hi := idx_b0 false b1 b2 b3 wr
          go_wp2_with fail
          go_roundg (4 - 1)
          case measure => omega
          case rel => exact ⟨1, by omega, by omega, rfl, by rw [HV.out], HB⟩
        · have hv : Go.bits .or .i64 (f 0) 10 = f 1 := by rw [hl]; rfl
          clear hl
          have hi := idx_b0 true b1 b2 b3 wr
          go_wp2_with fail
          refine (HAS.out wr).mono ?_
          rintro e w2 ⟨rfl, hb⟩
          have HB2 := Aside0.mk (HB.out.trans (hb.mono HB.out.size))
          clear HB hb
          have hj := idx_a0 w2
          go_wp2_with fail
          go_roundg (4 - 1)
          case measure => omega
          case rel => exact ⟨1, by omega, by omega, rfl, by first | rfl | (rw [hv]), HB2⟩
      · have hl := HL.out.2.2.1
        cases b1
        · have HV := Aside0.mk (show f 2 = f 1 by rw [hl]; rfl)
          clear hl
          have hi := idx_b1 b0 false b2 b3 wr
          go_wp2_with fail
          go_roundg (4 - 2)
          case measure => omega
          case rel => exact ⟨2, by omega, by omega, rfl, by rw [HV.out], HB⟩
        · have hv : Go.bits .or .i64 (f 1) 20 = f 2 := by rw [hl]; rfl
          clear hl
          have hi := idx_b1 b0 true b2 b3 wr
          go_wp2_with fail
          refine (HAS.out wr).mono ?_
          rintro e w2 ⟨rfl, hb⟩
          have HB2 := Aside0.mk (HB.out.trans (hb.mono HB.out.size))
          clear HB hb
          have hj := idx_a1 w2
          go_wp2_with fail
          go_roundg (4 - 2)
          case measure => omega
          case rel => exact ⟨2, by omega, by omega, rfl, by first | rfl | (rw [hv]), HB2⟩
      · have hl := HL.out.2.2.2.1
        cases b2
        · have HV := Aside0.mk (show f 3 = f 2 by rw [hl]; rfl)
          clear hl
          have hi := idx_b2 b0 b1 false b3 wr
          go_wp2_with fail
          go_roundg (4 - 3)
          case measure => omega
          case rel => exact ⟨3, by omega, by omega, rfl, by rw [HV.out], HB⟩
        · have hv : Go.bits .or .i64 (f 2) 8 = f 3 := by rw [hl]; rfl
          clear hl
          have hi := idx_b2 b0 b1 true b3 wr
          go_wp2_with fail
          refine (HAS.out wr).mono ?_
          rintro e w2 ⟨rfl, hb⟩
          have HB2 := Aside0.mk (HB.out.trans (hb.mono HB.out.size))
          clear HB hb
          have hj := idx_a2 w2
          go_wp2_with fail
          go_roundg (4 - 3)
          case measure => omega
          case rel => exact ⟨3, by omega, by omega, rfl, by first | rfl | (rw [hv]), HB2⟩
      · have hl := HL.out.2.2.2.2
        cases b3
        · have HV := Aside0.mk (show f 4 = f 3 by rw [hl]; rfl)
          clear hl
          have hi := idx_b3 b0 b1 b2 false wr
          go_wp2_with fail
          go_roundg (4 - 4)
          case measure => omega
          case rel => exact ⟨4, by omega, by omega, rfl, by rw [HV.out], HB⟩
        · have hv : Go.bits .or .i64 (f 3) 16 = f 4 := by rw [hl]; rfl
          clear hl
          have hi := idx_b3 b0 b1 b2 true wr
          go_wp2_with fail
          refine (HAS.out wr).mono ?_
          rintro e w2 ⟨rfl, hb⟩
          have HB2 := Aside0.mk (HB.out.trans (hb.mono HB.out.size))
          clear HB hb
          have hj := idx_a3 w2
          go_wp2_with fail
          go_roundg (4 - 4)
          case measure => omega
          case rel => exact ⟨4, by omega, by omega, rfl, by first | rfl | (rw [hv]), HB2⟩
      · go_wp2_with fail
        go_ret
        exact ⟨rfl, HB.out⟩
end Go.Proofs.YtjajehjhonabdaaX

namespace Go.Proofs.YtjajehjhonabdaaX
open Go.RowKit Go.Proofs.YtjajehjhonabdaaW.PrintWords Go.Proofs.YtjajehjhonabdaaW.PrintLast Go.Proofs.YtjajehjhonabdaaW.PrintMore
set_option linter.unusedVariables false
set_option linter.unusedSimpArgs false
/-! edge.At, edge.Holds. -/
def aheadV (t : ByteArray) (a : Int) : Int := if 0 < a then bt t (a - 1) else -1
def behindV (t : ByteArray) (a : Int) : Int := if a < t.size then bt t a else -1
set_option maxHeartbeats 1000000 in
theorem at_at (t : ByteArray) (a : Int) (h0 : 0 ≤ a) (ha : a ≤ t.size) (hn : t.size ≤ 1000000) (w : World) : Calls Try.prog 45 #[.string t, .int .i64 a] w fun e w' => e = .returned (.int .i64 (betweenV (aheadV t a) (behindV t a))) ∧ Below w.heap.size w w' := by
  have HBW := Aside0.mk (between_at (aheadV t a) (behindV t a) (by unfold aheadV; have := bt_range t (a - 1); split <;> omega) (by unfold aheadV; have := bt_range t (a - 1); split <;> omega) (by unfold behindV; have := bt_range t a; split <;> omega) (by unfold behindV; have := bt_range t a; split <;> omega) w)
  have c0 : decide (a < 0) = false := decide_eq_false (by omega)
  have c1 : decide ((t.size : Int) < a) = false := decide_eq_false (by omega)
  obtain ⟨r, hr⟩ : ∃ r, betweenV (aheadV t a) (behindV t a) = r := ⟨_, rfl⟩
  rw [hr] at HBW ⊢
  clear hr
  unfold aheadV behindV at HBW
  by_cases g1 : 0 < a
  · rw [if_pos g1] at HBW
    have d1 : decide (0 < a) = true := decide_eq_true (by omega)
    obtain ⟨i, hi⟩ : ∃ i : Int, a - 1 = i := ⟨_, rfl⟩
    rw [hi] at HBW
    have hiw : IntKind.i64.wrap (a - 1) = i := by rw [IntKind.wrap_i64]; omega
    by_cases g2 : a < t.size
    · rw [if_pos g2] at HBW
      have d2 : decide (a < (t.size : Int)) = true := decide_eq_true (by omega)
      have p1 : (0 ≤ i) = True := eq_true (by omega)
      have q1 : (i < (t.size : Int)) = True := eq_true (by omega)
      have hx1 := bt_at t i
      have hw1 : wrap64 (bt t i) = bt t i := by unfold wrap64; have := bt_range t i; omega
      generalize bt t i = x at HBW hx1 hw1
      have p2 : (0 ≤ a) = True := eq_true (by omega)
      have q2 : (a < (t.size : Int)) = True := eq_true (by omega)
      have hx2 := bt_at t a
      have hw2 : wrap64 (bt t a) = bt t a := by unfold wrap64; have := bt_range t a; omega
      generalize bt t a = y at HBW hx2 hw2
      clear hi h0 ha hn g1 g2
      go_enter Try.func45, Try.ntmps45
      go_wp2_with fail
      refine HBW.out.mono ?_
      rintro e w' ⟨rfl, hb⟩
      go_wp2
      go_ret
      exact ⟨rfl, hb⟩
    · rw [if_neg g2] at HBW
      have d2 : decide (a < (t.size : Int)) = false := decide_eq_false (by omega)
      have p1 : (0 ≤ i) = True := eq_true (by omega)
      have q1 : (i < (t.size : Int)) = True := eq_true (by omega)
      have hx1 := bt_at t i
      have hw1 : wrap64 (bt t i) = bt t i := by unfold wrap64; have := bt_range t i; omega
      generalize bt t i = x at HBW hx1 hw1
      clear hi h0 ha hn g1 g2
      go_enter Try.func45, Try.ntmps45
      go_wp2_with fail
      refine HBW.out.mono ?_
      rintro e w' ⟨rfl, hb⟩
      go_wp2
      go_ret
      exact ⟨rfl, hb⟩
  · rw [if_neg g1] at HBW
    have d1 : decide (0 < a) = false := decide_eq_false (by omega)
    by_cases g2 : a < t.size
    · rw [if_pos g2] at HBW
      have d2 : decide (a < (t.size : Int)) = true := decide_eq_true (by omega)
      have p2 : (0 ≤ a) = True := eq_true (by omega)
      have q2 : (a < (t.size : Int)) = True := eq_true (by omega)
      have hx2 := bt_at t a
      have hw2 : wrap64 (bt t a) = bt t a := by unfold wrap64; have := bt_range t a; omega
      generalize bt t a = y at HBW hx2 hw2
      clear h0 ha hn g1 g2
      go_enter Try.func45, Try.ntmps45
      go_wp2_with fail
      refine HBW.out.mono ?_
      rintro e w' ⟨rfl, hb⟩
      go_wp2
      go_ret
      exact ⟨rfl, hb⟩
    · rw [if_neg g2] at HBW
      have d2 : decide (a < (t.size : Int)) = false := decide_eq_false (by omega)
      clear h0 ha hn g1 g2
      go_enter Try.func45, Try.ntmps45
      go_wp2_with fail
      refine HBW.out.mono ?_
      rintro e w' ⟨rfl, hb⟩
      go_wp2
      go_ret
      exact ⟨rfl, hb⟩
/-- Is a kind so at a place? -/
def holdsV (kind : Int) (t : ByteArray) (a : Int) : Bool := decide (Go.bits .and .i64 (betweenV (aheadV t a) (behindV t a) / 2 ^ kind.toNat) 1 = 1)
set_option maxHeartbeats 1000000 in
theorem holds_at (kind : Int) (hk0 : 1 ≤ kind) (hk1 : kind ≤ 6) (t : ByteArray) (a : Int) (h0 : 0 ≤ a) (ha : a ≤ t.size) (hn : t.size ≤ 1000000) (w : World) : Calls Try.prog 68 #[.int .i64 kind, .string t, .int .i64 a] w fun e w' => e = .returned (.bool (holdsV kind t a)) ∧ Below w.heap.size w w' := by
  have HA := Aside0.mk (at_at t a h0 ha hn w)
  unfold holdsV
  generalize betweenV (aheadV t a) (behindV t a) = v at HA ⊢
  have c0 : decide (1 ≤ kind) = true := decide_eq_true hk0
  have c1 : decide (kind ≤ 6) = true := decide_eq_true hk1
  have ku : IntKind.u64.wrap kind = kind := by simp [IntKind.wrap, IntKind.bits, IntKind.signed]; omega
  have hs : Op.shift .shr .i64 v .u64 kind = pure (.int .i64 (v / 2 ^ kind.toNat)) := shift_shr .i64 .u64 v kind (by omega) (by show kind ≤ 64; omega)
  generalize v / 2 ^ kind.toNat = q at hs ⊢
  generalize hq : Go.bits .and .i64 q 1 = b
  clear h0 ha hn hk0 hk1
  go_enter Try.func68, Try.ntmps68
  go_wp2_with fail
  refine HA.out.mono ?_
  rintro e w' ⟨rfl, hb⟩
  go_wp2
  go_ret
  exact ⟨rfl, hb⟩
end Go.Proofs.YtjajehjhonabdaaX
