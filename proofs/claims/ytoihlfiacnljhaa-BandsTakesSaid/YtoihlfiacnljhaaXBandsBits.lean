import Derived.Test.YtoihlfiacnljhaaProg
import Derived.Test.YtoihlfiacnljhaaWMore
import Derived.Test.YtoihlfiacnljhaaWKept
import Derived.Laws.BitsLemmas
import Derived.WalkKit
import Derived.WalkSpells
import Derived.Outline
import Derived.OwnWalk
import Derived.Deep.LoopGhost
import Derived.Deep.QuietTactic
import Derived.BigQuiet
import Derived.KernelRfl
import Derived.RowKit3
namespace Go.Proofs.YtoihlfiacnljhaaX
open Go.RowKit Go.Proofs.YtoihlfiacnljhaaW.PrintWords Go.Proofs.YtoihlfiacnljhaaW.PrintLast Go.Proofs.YtoihlfiacnljhaaW.PrintMore
set_option linter.unusedVariables false
set_option linter.unusedSimpArgs false
/-! Masks of low bits, over whole numbers. -/
theorem wraps_i64 (n : Int) (h₀ : 0 ≤ n) (h₁ : n < 2 ^ 62) : IntKind.i64.wrap n = n := by rw [IntKind.wrap_i64]; omega
theorem nat_or_low (a i : Nat) : a ||| (2 ^ i - 1) = a - a % 2 ^ i + (2 ^ i - 1) := by
  have hp : 0 < 2 ^ i := Nat.two_pow_pos i
  have h1 : a = 2 ^ i * (a / 2 ^ i) + a % 2 ^ i := (Nat.div_add_mod a (2 ^ i)).symm
  have h2 : a ||| (2 ^ i - 1) = 2 ^ i * (a / 2 ^ i) ||| (2 ^ i - 1) := by
    apply Nat.eq_of_testBit_eq
    intro j
    rw [Nat.testBit_or, Nat.testBit_or, Nat.testBit_two_pow_sub_one, Nat.testBit_two_pow_mul]
    by_cases hj : j < i
    · simp [hj]
    · simp [hj, Nat.testBit_div_two_pow, show i ≤ j by omega]
  rw [h2, ← Nat.two_pow_add_eq_or_of_lt (by omega) (a / 2 ^ i)]
  omega
theorem and_low (i : Nat) (hi : i ≤ 62) (x : Int) (h0 : 0 ≤ x) (h1 : x < 2 ^ 62) : bits .and .i64 x (2 ^ i - 1) = x % 2 ^ i := bits_mask .i64 62 (by decide) wraps_i64 i hi x h0 h1
theorem or_low (i : Nat) (hi : i ≤ 62) (x : Int) (h0 : 0 ≤ x) (h1 : x < 2 ^ 62) : bits .or .i64 x (2 ^ i - 1) = x - x % 2 ^ i + (2 ^ i - 1) := by
  obtain ⟨a, rfl⟩ := Int.eq_ofNat_of_zero_le h0
  have ha : a < 2 ^ 62 := by exact_mod_cast h1
  have hpos : 0 < 2 ^ i := Nat.two_pow_pos i
  have hm : 2 ^ i - 1 < 2 ^ 62 := Nat.lt_of_lt_of_le (Nat.sub_lt hpos (by decide)) (Nat.pow_le_pow_right (by decide) hi)
  have hc : ((2 : Int) ^ i - 1) = ((2 ^ i - 1 : Nat) : Int) := by
    rw [Int.natCast_sub hpos]; simp
  rw [hc, (bits_nat .i64 62 (by decide) wraps_i64 a _ ha hm).2, nat_or_low]
  have hle : a % 2 ^ i ≤ a := Nat.mod_le _ _
  rw [Int.natCast_add, Int.natCast_sub hle]
  simp
theorem andNot_low (i : Nat) (hi : i ≤ 62) (x : Int) (h0 : 0 ≤ x) (h1 : x < 2 ^ 62) : bits .andNot .i64 x (2 ^ i - 1) = x - x % 2 ^ i := by
  obtain ⟨a, rfl⟩ := Int.eq_ofNat_of_zero_le h0
  have ha : a < 2 ^ 62 := by exact_mod_cast h1
  have hpos : 0 < 2 ^ i := Nat.two_pow_pos i
  have hm : 2 ^ i - 1 < 2 ^ 62 := Nat.lt_of_lt_of_le (Nat.sub_lt hpos (by decide)) (Nat.pow_le_pow_right (by decide) hi)
  have hc : ((2 : Int) ^ i - 1) = ((2 ^ i - 1 : Nat) : Int) := by
    rw [Int.natCast_sub hpos]; simp
  have hle : a % 2 ^ i ≤ a := Nat.mod_le _ _
  have hn : (BitVec.ofNat 64 a &&& ~~~ BitVec.ofNat 64 (2 ^ i - 1)).toNat = a - a % 2 ^ i := by
    have h1 : a - a % 2 ^ i = 2 ^ i * (a / 2 ^ i) := by
      have := Nat.div_add_mod a (2 ^ i)
      omega
    rw [h1]
    apply Nat.eq_of_testBit_eq
    intro j
    rw [BitVec.testBit_toNat, BitVec.getLsbD_and, BitVec.getLsbD_not, BitVec.getLsbD_ofNat, BitVec.getLsbD_ofNat, Nat.testBit_two_pow_mul, Nat.testBit_two_pow_sub_one, Nat.testBit_div_two_pow]
    by_cases hj : j < 64
    · by_cases hji : i ≤ j
      · simp [hj, hji, show ¬ j < i by omega, show i + (j - i) = j by omega, show j - i + i = j by omega]
      · simp [hj, hji, show j < i by omega]
    · have : a.testBit j = false := Nat.testBit_lt_two_pow (Nat.lt_of_lt_of_le ha (Nat.pow_le_pow_right (by decide) (by omega)))
      by_cases hji : i ≤ j
      · simp [hj, hji, this, show i + (j - i) = j by omega, show j - i + i = j by omega]
      · simp [hj, hji]
  rw [hc]
  show IntKind.i64.wrap (((BitVec.ofInt 64 (a : Int)) &&& ~~~ (BitVec.ofInt 64 ((2 ^ i - 1 : Nat) : Int))).toNat : Int) = _
  rw [BitVec.ofInt_natCast, BitVec.ofInt_natCast, hn]
  rw [wraps_i64 _ (by omega) (by omega)]
  rw [Int.natCast_sub hle]
  simp
end Go.Proofs.YtoihlfiacnljhaaX
