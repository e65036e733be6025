import Derived.Test.YtoihlfiacnljhaaProg
import Derived.Test.YtoihlfiacnljhaaWMore
import Derived.Test.YtoihlfiacnljhaaWKept
import Derived.Laws.BitsLemmas
import Derived.WalkKit
import Derived.WalkSpells
import Derived.Outline
import Derived.OwnWalk
import Derived.Deep.LoopGhost
import Derived.Deep.QuietTactic
import Derived.BigQuiet
import Derived.KernelRfl
import Derived.RowKit3
import Derived.Deep.WholeRow
import Derived.RegionTactic
namespace Go.Proofs.YtoihlfiacnljhaaX
open Go.RowKit Go.Proofs.YtoihlfiacnljhaaW.PrintWords Go.Proofs.YtoihlfiacnljhaaW.PrintLast Go.Proofs.YtoihlfiacnljhaaW.PrintMore
set_option linter.unusedVariables false
set_option linter.unusedSimpArgs false
/-! Masks of low bits, over whole numbers. -/
theorem wraps_i64 (n : Int) (h₀ : 0 ≤ n) (h₁ : n < 2 ^ 62) : IntKind.i64.wrap n = n := by rw [IntKind.wrap_i64]; omega
theorem nat_or_low (a i : Nat) : a ||| (2 ^ i - 1) = a - a % 2 ^ i + (2 ^ i - 1) := by
  have hp : 0 < 2 ^ i := Nat.two_pow_pos i
  have h1 : a = 2 ^ i * (a / 2 ^ i) + a % 2 ^ i := (Nat.div_add_mod a (2 ^ i)).symm
  have h2 : a ||| (2 ^ i - 1) = 2 ^ i * (a / 2 ^ i) ||| (2 ^ i - 1) := by
    apply Nat.eq_of_testBit_eq
    intro j
    rw [Nat.testBit_or, Nat.testBit_or, Nat.testBit_two_pow_sub_one, Nat.testBit_two_pow_mul]
    by_cases hj : j < i
    · simp [hj]
    · simp [hj, Nat.testBit_div_two_pow, show i ≤ j by omega]
  rw [h2, ← Nat.two_pow_add_eq_or_of_lt (by omega) (a / 2 ^ i)]
  omega
theorem and_low (i : Nat) (hi : i ≤ 62) (x : Int) (h0 : 0 ≤ x) (h1 : x < 2 ^ 62) : bits .and .i64 x (2 ^ i - 1) = x % 2 ^ i := bits_mask .i64 62 (by decide) wraps_i64 i hi x h0 h1
theorem or_low (i : Nat) (hi : i ≤ 62) (x : Int) (h0 : 0 ≤ x) (h1 : x < 2 ^ 62) : bits .or .i64 x (2 ^ i - 1) = x - x % 2 ^ i + (2 ^ i - 1) := by
  obtain ⟨a, rfl⟩ := Int.eq_ofNat_of_zero_le h0
  have ha : a < 2 ^ 62 := by exact_mod_cast h1
  have hpos : 0 < 2 ^ i := Nat.two_pow_pos i
  have hm : 2 ^ i - 1 < 2 ^ 62 := Nat.lt_of_lt_of_le (Nat.sub_lt hpos (by decide)) (Nat.pow_le_pow_right (by decide) hi)
  have hc : ((2 : Int) ^ i - 1) = ((2 ^ i - 1 : Nat) : Int) := by
    rw [Int.natCast_sub hpos]; simp
  rw [hc, (bits_nat .i64 62 (by decide) wraps_i64 a _ ha hm).2, nat_or_low]
  have hle : a % 2 ^ i ≤ a := Nat.mod_le _ _
  rw [Int.natCast_add, Int.natCast_sub hle]
  simp
theorem andNot_low (i : Nat) (hi : i ≤ 62) (x : Int) (h0 : 0 ≤ x) (h1 : x < 2 ^ 62) : bits .andNot .i64 x (2 ^ i - 1) = x - x % 2 ^ i := by
  obtain ⟨a, rfl⟩ := Int.eq_ofNat_of_zero_le h0
  have ha : a < 2 ^ 62 := by exact_mod_cast h1
  have hpos : 0 < 2 ^ i := Nat.two_pow_pos i
  have hm : 2 ^ i - 1 < 2 ^ 62 := Nat.lt_of_lt_of_le (Nat.sub_lt hpos (by decide)) (Nat.pow_le_pow_right (by decide) hi)
  have hc : ((2 : Int) ^ i - 1) = ((2 ^ i - 1 : Nat) : Int) := by
    rw [Int.natCast_sub hpos]; simp
  have hle : a % 2 ^ i ≤ a := Nat.mod_le _ _
  have hn : (BitVec.ofNat 64 a &&& ~~~ BitVec.ofNat 64 (2 ^ i - 1)).toNat = a - a % 2 ^ i := by
    have h1 : a - a % 2 ^ i = 2 ^ i * (a / 2 ^ i) := by
      have := Nat.div_add_mod a (2 ^ i)
      omega
    rw [h1]
    apply Nat.eq_of_testBit_eq
    intro j
    rw [BitVec.testBit_toNat, BitVec.getLsbD_and, BitVec.getLsbD_not, BitVec.getLsbD_ofNat, BitVec.getLsbD_ofNat, Nat.testBit_two_pow_mul, Nat.testBit_two_pow_sub_one, Nat.testBit_div_two_pow]
    by_cases hj : j < 64
    · by_cases hji : i ≤ j
      · simp [hj, hji, show ¬ j < i by omega, show i + (j - i) = j by omega, show j - i + i = j by omega]
      · simp [hj, hji, show j < i by omega]
    · have : a.testBit j = false := Nat.testBit_lt_two_pow (Nat.lt_of_lt_of_le ha (Nat.pow_le_pow_right (by decide) (by omega)))
      by_cases hji : i ≤ j
      · simp [hj, hji, this, show i + (j - i) = j by omega, show j - i + i = j by omega]
      · simp [hj, hji]
  rw [hc]
  show IntKind.i64.wrap (((BitVec.ofInt 64 (a : Int)) &&& ~~~ (BitVec.ofInt 64 ((2 ^ i - 1 : Nat) : Int))).toNat : Int) = _
  rw [BitVec.ofInt_natCast, BitVec.ofInt_natCast, hn]
  rw [wraps_i64 _ (by omega) (by omega)]
  rw [Int.natCast_sub hle]
  simp
end Go.Proofs.YtoihlfiacnljhaaX

namespace Go.Proofs.YtoihlfiacnljhaaX
open Go.RowKit Go.Proofs.YtoihlfiacnljhaaW.PrintWords Go.Proofs.YtoihlfiacnljhaaW.PrintLast Go.Proofs.YtoihlfiacnljhaaW.PrintMore
set_option linter.unusedVariables false
set_option linter.unusedSimpArgs false
def widthF (r : Int) : Nat := if r < 0 ∨ r > 1114111 ∨ (55296 ≤ r ∧ r ≤ 57343) then 0 else if r ≤ 127 then 1 else if r ≤ 2047 then 2 else if r ≤ 65535 then 3 else 4
def leadV : Nat → Int
  | 2 => 192
  | 3 => 224
  | 4 => 240
  | _ => 0
set_option maxRecDepth 100000 in
theorem width_any (r : Int) (w : World) : Calls Try.prog 36 #[.int .i64 r] w fun e w' => e = .returned (.int .i64 (widthF r)) ∧ w' = w := by
  obtain ⟨v, hv⟩ : ∃ v, v = widthF r := ⟨_, rfl⟩
  have HV := Aside0.mk hv
  rw [← hv]
  clear hv
  by_cases h1 : r < 0
  · have e1 : v = 0 := by rw [HV.out]; unfold widthF; rw [if_pos (.inl h1)]
    subst e1
    have d1 : decide (r < 0) = true := decide_eq_true h1
    clear h1 HV
    go_enter Try.func36, Try.ntmps36
    go_wp2
    go_ret
    exact ⟨rfl, rfl⟩
  · have d1 : decide (r < 0) = false := decide_eq_false h1
    by_cases h2 : 1114111 < r
    · have e1 : v = 0 := by rw [HV.out]; unfold widthF; rw [if_pos (.inr (.inl h2))]
      subst e1
      have d2 : decide (1114111 < r) = true := decide_eq_true h2
      clear h1 h2 HV
      go_enter Try.func36, Try.ntmps36
      go_wp2
      go_ret
      exact ⟨rfl, rfl⟩
    · have d2 : decide (1114111 < r) = false := decide_eq_false h2
      by_cases h3 : 55296 ≤ r ∧ r ≤ 57343
      · have e1 : v = 0 := by rw [HV.out]; unfold widthF; rw [if_pos (.inr (.inr h3))]
        subst e1
        have d3 : decide (55296 ≤ r) = true := decide_eq_true h3.1
        have d4 : decide (r ≤ 57343) = true := decide_eq_true h3.2
        clear h1 h2 h3 HV
        go_enter Try.func36, Try.ntmps36
        go_wp2
        go_ret
        exact ⟨rfl, rfl⟩
      · have e0 : v = if r ≤ 127 then 1 else if r ≤ 2047 then 2 else if r ≤ 65535 then 3 else 4 := by rw [HV.out]; unfold widthF; rw [if_neg (by omega)]
        have HE := Aside0.mk e0
        have HX := Aside0.mk (And.intro h1 (And.intro h2 h3))
        clear h1 h2 e0 HV
        have hb : ∃ b1 b2 : Bool, decide (55296 ≤ r) = b1 ∧ decide (r ≤ 57343) = b2 ∧ (b1 && b2) = false := by
          refine ⟨_, _, rfl, rfl, ?_⟩
          by_cases x : 55296 ≤ r
          · rw [decide_eq_false (show ¬ r ≤ 57343 from fun y => h3 ⟨x, y⟩)]; simp
          · rw [decide_eq_false x]; rfl
        obtain ⟨b1, b2, d3, d4, hbb⟩ := hb
        clear h3
        by_cases k1 : r ≤ 127
        · have g1 : decide (r ≤ 127) = true := decide_eq_true k1
          have e1 := HE.out
          rw [if_pos k1] at e1
          subst e1
          clear k1 HE HX
          cases b1 <;> cases b2 <;> first | (exfalso; simp at hbb; done) | skip
          all_goals clear hbb
          all_goals go_enter Try.func36, Try.ntmps36
          all_goals go_wp2
          all_goals go_ret
          all_goals exact ⟨rfl, rfl⟩
        · have g1 : decide (r ≤ 127) = false := decide_eq_false k1
          by_cases k2 : r ≤ 2047
          · have g2 : decide (r ≤ 2047) = true := decide_eq_true k2
            have e1 := HE.out
            rw [if_neg k1, if_pos k2] at e1
            subst e1
            clear k1 k2 HE HX
            cases b1 <;> cases b2 <;> first | (exfalso; simp at hbb; done) | skip
            all_goals clear hbb
            all_goals go_enter Try.func36, Try.ntmps36
            all_goals go_wp2
            all_goals go_ret
            all_goals exact ⟨rfl, rfl⟩
          · have g2 : decide (r ≤ 2047) = false := decide_eq_false k2
            by_cases k3 : r ≤ 65535
            · have g3 : decide (r ≤ 65535) = true := decide_eq_true k3
              have e1 := HE.out
              rw [if_neg k1, if_neg k2, if_pos k3] at e1
              subst e1
              clear k1 k2 k3 HE HX
              cases b1 <;> cases b2 <;> first | (exfalso; simp at hbb; done) | skip
              all_goals clear hbb
              all_goals go_enter Try.func36, Try.ntmps36
              all_goals go_wp2
              all_goals go_ret
              all_goals exact ⟨rfl, rfl⟩
            · have g3 : decide (r ≤ 65535) = false := decide_eq_false k3
              have e1 := HE.out
              rw [if_neg k1, if_neg k2, if_neg k3] at e1
              subst e1
              clear k1 k2 k3 HE HX
              cases b1 <;> cases b2 <;> first | (exfalso; simp at hbb; done) | skip
              all_goals clear hbb
              all_goals go_enter Try.func36, Try.ntmps36
              all_goals go_wp2
              all_goals go_ret
              all_goals exact ⟨rfl, rfl⟩
theorem lead_any (n : Nat) (hn : 1 ≤ n ∧ n ≤ 4) (w : World) : Calls Try.prog 37 #[.int .i64 n] w fun e w' => e = .returned (.int .u8 (leadV n)) ∧ Below w.heap.size w w' := by
  have h := heap_alloc_last w (.cells #[.int .u8 0, .int .u8 0, .int .u8 192, .int .u8 224, .int .u8 240] 70)
  have c1 : (w.alloc (.cells #[.int .u8 0, .int .u8 0, .int .u8 192, .int .u8 224, .int .u8 240] 70)).cell? ⟨w.heap.size, n, none⟩ = some (.int .u8 (leadV n)) := by
    rw [blk_cell h n]
    have : n = 1 ∨ n = 2 ∨ n = 3 ∨ n = 4 := by omega
    rcases this with rfl | rfl | rfl | rfl <;> rfl
  have HB := Aside0.mk (show Below w.heap.size w (w.alloc (.cells #[.int .u8 0, .int .u8 0, .int .u8 192, .int .u8 224, .int .u8 240] 70)) from (Below.refl _ w).alloc (Nat.le_refl _) _)
  have hl : (n : Int) < 5 := by omega
  clear h hn
  go_enter Try.func37, Try.ntmps37
  go_wp2
  go_ret
  exact ⟨rfl, HB.out⟩
theorem ediv_step (r : Int) (h : 0 ≤ r) (k : Nat) : r / 64 ^ k / 64 = r / 64 ^ (k + 1) := by
  obtain ⟨a, rfl⟩ := Int.eq_ofNat_of_zero_le h
  rw [Int.pow_succ]
  exact_mod_cast Nat.div_div_eq_div_mul a (64 ^ k) 64
def u8s (L : List Int) : Array Value := (L.map (Value.int .u8)).toArray
theorem u8s_get (L : List Int) (i : Nat) (hi : i < L.length) : (u8s L)[i]? = some (.int .u8 L[i]) := by
  simp [u8s, hi]
theorem u8s_set (L : List Int) (i : Nat) (x : Int) : (u8s L).setIfInBounds i (.int .u8 x) = u8s (L.set i x) := by
  simp [u8s, List.map_set]
def EncPost (w : World) (s : ByteArray) (c : Int) (e : Ending) (w' : World) : Prop := e = .returned (.tuple #[.string s, .int .i64 c]) ∧ Below w.heap.size w w'
/-- The bytes of a rune of n bytes. -/
def encN (n : Nat) (r : Int) : List Int := (leadV n + r / 64 ^ (n - 1)) :: (List.range (n - 1)).map (fun i => 128 + r / 64 ^ (n - 2 - i) % 64)
theorem first_byte {n : Nat} {r q : Int} (hn : 1 ≤ n ∧ n ≤ 4) (hw : widthF r = n) (hr : 0 ≤ r ∧ r ≤ 1114111) (hq : q = r / 64 ^ (n - 1)) : (0 ≤ q ∧ q ≤ 127) ∧ bits .or .u8 (leadV n) q = leadV n + q := by
  unfold widthF at hw
  have hc : n = 1 ∨ n = 2 ∨ n = 3 ∨ n = 4 := by omega
  rcases hc with rfl | rfl | rfl | rfl
  · have e : q = r := by rw [hq]; simp
    have h1 : r ≤ 127 := by
      split at hw
      · omega
      · split at hw
        · assumption
        · split at hw
          · omega
          · split at hw <;> omega
    refine ⟨by omega, ?_⟩
    exact bits_join .u8 8 (by decide) wraps_u8 7 0 q (by decide) (by decide) (by decide) (by omega) (by omega) (by omega)
  · have e : q = r / 64 := by rw [hq]; rfl
    have h1 : r ≤ 2047 := by
      split at hw
      · omega
      · split at hw
        · omega
        · split at hw
          · assumption
          · split at hw <;> omega
    exact ⟨by omega, u8_or192 q (by omega) (by omega)⟩
  · have e : q = r / 4096 := by rw [hq]; rfl
    have h1 : r ≤ 65535 := by
      split at hw
      · omega
      · split at hw
        · omega
        · split at hw
          · omega
          · split at hw
            · assumption
            · omega
    exact ⟨by omega, u8_or224 q (by omega) (by omega)⟩
  · have e : q = r / 262144 := by rw [hq]; rfl
    exact ⟨by omega, u8_or240 q (by omega) (by omega)⟩
theorem enc_string {n : Nat} (hn : 1 ≤ n ∧ n ≤ 4) {W : World} {B : Nat} {L : List Int} (h : W.heap[B]? = some (.cells (u8s L) 54 (0, 0))) (hL : L.length = 4) :
    (convert 42 9 (.slice (some ⟨B, 0, none⟩) n 4)).run Try.prog W = .ok (.string (strOfNums (L.take n))) W := by
  refine Kd.C_string (xs := L.take n) Try.underlying42 Try.underlying5 Try.underlying9 ⟨by rw [List.length_take]; omega, by omega, fun _ => ⟨⟨B, 0, none⟩, rfl, ?_⟩⟩
  intro j p hj
  have hjn : j < n := by have := (List.getElem?_eq_some_iff.1 hj).1; rw [List.length_take] at this; omega
  refine ⟨[.int .u8 p], rfl, rfl, fun i u hi => ?_⟩
  rw [List.getElem?_take, if_pos hjn] at hj
  match i, hi with
  | 0, hi =>
    simp at hi
    subst hi
    have e : (⟨B, 0, none⟩ : Addr).add (j * (Kd.int .u8).sz + 0) = ⟨B, j, none⟩ := by
      rw [show (Kd.int .u8).sz = 1 from rfl, Nat.mul_one, Nat.add_zero]
      unfold Addr.add
      split <;> simp_all
    rw [e, blk_cell h j]
    simp [u8s, hj]
  | i + 1, hi => simp at hi
theorem enc_take {n : Nat} {r q : Int} {L : List Int} (hn : 1 ≤ n ∧ n ≤ 4) (hL : L.length = 4) (hq : q = r / 64 ^ (n - 1)) (hl : ∀ j, j < n - 1 → L[n - 1 - j]? = some (128 + r / 64 ^ j % 64)) : (L.set 0 (leadV n + q)).take n = encN n r := by
  apply List.ext_getElem?
  intro j
  rw [List.getElem?_take]
  unfold encN
  by_cases hj : j < n
  · rw [if_pos hj]
    cases j with
    | zero => rw [List.getElem?_set_self (by omega), hq]; rfl
    | succ j =>
      rw [List.getElem?_set_ne (by omega), List.getElem?_cons_succ, List.getElem?_map, List.getElem?_range (by omega)]
      have := hl (n - 2 - j) (by omega)
      rw [show n - 1 - (n - 2 - j) = j + 1 by omega] at this
      rw [this]
      rfl
  · rw [if_neg hj]
    cases j with
    | zero => omega
    | succ j =>
      rw [List.getElem?_cons_succ, List.getElem?_map, List.getElem?_eq_none (by simp; omega)]
      rfl
set_option maxHeartbeats 4000000 in
set_option maxRecDepth 100000 in
theorem encode_any (r : Int) (n : Nat) (hn : 1 ≤ n ∧ n ≤ 4) (hw : widthF r = n) (hr : 0 ≤ r ∧ r ≤ 1114111) (w : World) :
    Calls Try.prog 22 #[.int .i64 r] w (EncPost w (strOfNums (encN n r)) 0) := by
  have HWD := Aside0.mk (width_any r w)
  rw [hw] at HWD
  obtain ⟨s, hs⟩ : ∃ s, s = strOfNums (encN n r) := ⟨_, rfl⟩
  have HS := Aside0.mk hs
  rw [← hs]
  have HW := Aside0.mk hw
  have hn0 : ((n : Int) == 0) = false := by simp; omega
  clear hs hw
  go_enter Try.func22, Try.ntmps22
  go_wp2_with fail
  refine HWD.out.mono ?_
  rintro e w1 ⟨rfl, rfl⟩
  go_wp2_with fail
  have h := heap_alloc_last w1 (.cells #[.int .u8 0, .int .u8 0, .int .u8 0, .int .u8 0] 54)
  have HB0 := Aside0.mk (show Below w1.heap.size w1 (w1.alloc (.cells #[.int .u8 0, .int .u8 0, .int .u8 0, .int .u8 0] 54)) from (Below.refl _ w1).alloc (Nat.le_refl _) _)
  have HH0 := Aside0.mk (show (w1.alloc (.cells #[.int .u8 0, .int .u8 0, .int .u8 0, .int .u8 0] 54)).heap[w1.heap.size]? = some (.cells (u8s [0, 0, 0, 0]) 54 (0, 0)) from h)
  clear h
  generalize w1.alloc (.cells #[.int .u8 0, .int .u8 0, .int .u8 0, .int .u8 0] 54) = wq at HB0 HH0 ⊢
  go_loopg [0, 6] 4 (fun g s0 s6 wr => ∃ (k : Nat) (q : Int) (L : List Int), k ≤ n - 1 ∧ n - 1 - k ≤ g ∧ s0 = .int .i64 q ∧ s6 = .int .i64 ((n - 1 - k : Nat) : Int) ∧ L.length = 4 ∧ Aside0 (q = r / 64 ^ k) ∧ 0 ≤ q ∧ q ≤ 1114111 ∧ Aside0 (wr.heap[w1.heap.size]? = some (.cells (u8s L) 54 (0, 0))) ∧ Aside0 (∀ j, j < k → L[n - 1 - j]? = some (128 + r / 64 ^ j % 64)) ∧ Aside0 (Below w1.heap.size w1 wr))
  case atStart =>
    refine ⟨0, r, [0, 0, 0, 0], by omega, by omega, rfl, by rw [show (n : Int) - 1 = ((n - 1 - 0 : Nat) : Int) by omega], rfl, ⟨by simp⟩, hr.1, hr.2, HH0, ⟨fun j hj => by omega⟩, HB0⟩
  case round =>
    clear HB0 HH0
    obtain ⟨k, q, L, hk, hg, rfl, rfl, hL, HQ, hq0, hq1, HH, HL, HB⟩ := hrel
    by_cases hlt : k < n - 1
    · obtain ⟨i, hi⟩ : ∃ i, i = n - 1 - k := ⟨_, rfl⟩
      have HI := Aside0.mk hi
      rw [← hi]
      have hi4 : i < 4 := by omega
      have hi0 : 0 < i := by omega
      have HG := Aside0.mk (show k ≤ n - 1 ∧ n - 1 - k ≤ gk ∧ k < n - 1 from ⟨hk, hg, hlt⟩)
      clear hi hlt hk hg
      have m1 : bits .and .i64 q 63 = q % 64 := and_low 6 (by decide) q hq0 (by omega)
      have m2 : bits .or .i64 128 (q % 64) = 128 + q % 64 := by
        have := bits_join .i64 62 (by decide) wraps_i64 7 128 (q % 64) (by decide) (by decide) (by decide) (by omega) (by omega) (by omega)
        exact this
      have ci : wr.cell? ⟨w1.heap.size, i, none⟩ = some (.int .u8 (L[i]'(by omega))) := (blk_cell HH.out i).trans (u8s_get L i (by omega))
      have fi : wr.frozen? ⟨w1.heap.size, i, none⟩ = false := blk_frozen HH.out i
      generalize L[i]'(by omega) = old at ci
      go_wp2
      go_roundg (n - 1 - (k + 1))
      case measure => have := HG.out; omega
      case rel =>
        refine ⟨k + 1, q / 64, L.set i (128 + q % 64), by have := HG.out; omega, Nat.le_refl _, rfl, by rw [show (i : Int) - 1 = ((n - 1 - (k + 1) : Nat) : Int) by have := HI.out; omega], by rw [List.length_set]; exact hL, ⟨?_⟩, by omega, by omega, ⟨blk_put HH.out i _ (u8s_set L i _)⟩, ⟨fun j hj => ?_⟩, ⟨HB.out.setCell (p := ⟨w1.heap.size, i, none⟩) (Nat.le_refl _) _⟩⟩
        · rw [HQ.out]; exact ediv_step r hr.1 k
        · by_cases e : j = k
          · subst e
            rw [← HI.out, List.getElem?_set_self (by omega), HQ.out]
          · rw [List.getElem?_set_ne (by have := HI.out; have := HG.out; omega)]
            exact HL.out j (by omega)
    · have hk' : n - 1 - k = 0 := by omega
      rw [hk']
      have HK := Aside0.mk (show k = n - 1 by omega)
      clear hlt hk hg hk'
      have HLD := Aside0.mk (lead_any n hn wr)
      have hqb := first_byte hn HW.out hr (show q = r / 64 ^ (n - 1) by rw [HQ.out, HK.out])
      have hn4 : (n : Int) ≤ 4 := by omega
      have hn0' : (0 : Int) ≤ n := by omega
      go_wp2_with fail
      refine HLD.out.mono ?_
      rintro e w2 ⟨rfl, hb2⟩
      have hh2 := (hb2.block _ (blk_lt HH.out)).trans HH.out
      have hb3 := HB.out.trans (hb2.mono HB.out.size)
      have HB4 := Aside0.mk (hb3.setCell (p := ⟨w1.heap.size, 0, none⟩) (Nat.le_refl _) (.int .u8 (leadV n + q)))
      have c0 : w2.cell? ⟨w1.heap.size, 0, none⟩ = some (.int .u8 (L[0]'(by omega))) := (blk_cell hh2 0).trans (u8s_get L 0 (by omega))
      have f0 : w2.frozen? ⟨w1.heap.size, 0, none⟩ = false := blk_frozen hh2 0
      generalize L[0]'(by omega) = old at c0
      have hcv := enc_string hn (blk_put hh2 0 (.int .u8 (leadV n + q)) (u8s_set L 0 _)) (by rw [List.length_set]; exact hL)
      rw [enc_take hn hL (by rw [HQ.out, HK.out]) (fun j hj => HL.out j (by rw [HK.out]; exact hj)), ← HS.out] at hcv
      have m1 := hqb.2
      have m2 : IntKind.u8.wrap q = q := by rw [IntKind.wrap_u8]; omega
      have m3 : q % 256 = q := by omega
      clear hh2 hb2 hb3 HLD
      go_wp2
      go_ret2
      exact ⟨rfl, HB4.out⟩
theorem encode_bad (r : Int) (hr : widthF r = 0) (w : World) : Calls Try.prog 22 #[.int .i64 r] w (EncPost w ⟨#[]⟩ 1) := by
  have HWD := Aside0.mk (width_any r w)
  rw [hr] at HWD
  clear hr
  go_enter Try.func22, Try.ntmps22
  go_wp2_with fail
  refine HWD.out.mono ?_
  rintro e w1 ⟨rfl, rfl⟩
  go_wp2
  go_ret2
  exact ⟨rfl, Below.refl _ _⟩
end Go.Proofs.YtoihlfiacnljhaaX

namespace Go.Proofs.YtoihlfiacnljhaaX
open Go.RowKit Go.Proofs.YtoihlfiacnljhaaW.PrintWords Go.Proofs.YtoihlfiacnljhaaW.PrintLast Go.Proofs.YtoihlfiacnljhaaW.PrintMore
set_option linter.unusedVariables false
set_option linter.unusedSimpArgs false
/-- Two ranges of a range that is no sequence; twice the same: it is one. -/
def partG (lo hi : Int) : List Int → (Int × Int) × (Int × Int)
  | [] => ((lo, hi), (lo, hi))
  | p :: ps => if lo - lo % p = hi - hi % p then partG lo hi ps else if lo % p ≠ 0 then ((lo, lo - lo % p + (p - 1)), (lo - lo % p + (p - 1) + 1, hi)) else if hi % p ≠ p - 1 then ((lo, hi - hi % p - 1), (hi - hi % p, hi)) else partG lo hi ps
def psOf : Nat → List Int
  | 2 => [64]
  | 3 => [64, 4096]
  | 4 => [64, 4096, 262144]
  | _ => []
def PartPost (r : (Int × Int) × (Int × Int)) (w : World) (e : Ending) (w' : World) : Prop := e = .returned (.tuple #[.agg #[.int .i64 r.1.1, .int .i64 r.1.2], .agg #[.int .i64 r.2.1, .int .i64 r.2.2]]) ∧ Below w.heap.size w w'
/-- The two results' cells behind their stores. -/
theorem stored2 {w W : World} {R1 R2 : Nat} {T : TypeId} {a b c d : Value} (h1 : W.heap[R1]? = some (.cells #[.int .i64 0, .int .i64 0] T (0, 0))) (h2 : W.heap[R2]? = some (.cells #[.int .i64 0, .int .i64 0] T (0, 0))) (hne : R1 ≠ R2) (g1 : w.heap.size ≤ R1) (g2 : w.heap.size ≤ R2) (hb : Below w.heap.size w W) :
    ((((W.setCell ⟨R1, 0, none⟩ a).setCell ⟨R1, 1, none⟩ b).setCell ⟨R2, 0, none⟩ c).setCell ⟨R2, 1, none⟩ d).heap[R1]? = some (.cells #[a, b] T (0, 0)) ∧
    ((((W.setCell ⟨R1, 0, none⟩ a).setCell ⟨R1, 1, none⟩ b).setCell ⟨R2, 0, none⟩ c).setCell ⟨R2, 1, none⟩ d).heap[R2]? = some (.cells #[c, d] T (0, 0)) ∧
    Below w.heap.size w ((((W.setCell ⟨R1, 0, none⟩ a).setCell ⟨R1, 1, none⟩ b).setCell ⟨R2, 0, none⟩ c).setCell ⟨R2, 1, none⟩ d) := by
  have e1 := blk_put h1 0 a rfl
  have e2 := blk_put e1 1 b rfl
  have f0 : ((W.setCell ⟨R1, 0, none⟩ a).setCell ⟨R1, 1, none⟩ b).heap[R2]? = some (.cells #[.int .i64 0, .int .i64 0] T (0, 0)) := by
    rw [Below.heap_setCell _ ⟨R1, 1, none⟩ b R2 (Ne.symm hne), Below.heap_setCell _ ⟨R1, 0, none⟩ a R2 (Ne.symm hne)]
    exact h2
  have e3 := blk_put f0 0 c rfl
  have e4 := blk_put e3 1 d rfl
  refine ⟨?_, e4, (((hb.setCell (p := ⟨R1, 0, none⟩) g1 _).setCell (p := ⟨R1, 1, none⟩) g1 _).setCell (p := ⟨R2, 0, none⟩) g2 _).setCell (p := ⟨R2, 1, none⟩) g2 _⟩
  rw [Below.heap_setCell _ ⟨R2, 1, none⟩ d R1 hne, Below.heap_setCell _ ⟨R2, 0, none⟩ c R1 hne]
  exact e2
theorem ret_two {w W : World} {tmps : Array Value} {R1 R2 : Nat} {a b c d : Int} (h1 : W.heap[R1]? = some (.cells #[.int .i64 a, .int .i64 b] 61 (0, 0))) (h2 : W.heap[R2]? = some (.cells #[.int .i64 c, .int .i64 d] 61 (0, 0)))
    (t1 : tmps.getD 6 undef = .pointer (some ⟨R1, 0, none⟩)) (t2 : tmps.getD 7 undef = .pointer (some ⟨R2, 0, none⟩)) (hb : Below w.heap.size w W) :
    bodyPost Try.prog Try.f41 (PartPost ((a, b), (c, d)) w) Exit.ret { tmps := tmps, defers := [] } W := by
  exact bodyPost_ret (results_cc (fn := Try.f41) rfl tmps W R1 R2 _ _ #[.int .i64 a, .int .i64 b] #[.int .i64 c, .int .i64 d] (0, 0) (0, 0) _ _ t1 h1 Try.underlying61 rfl (by kernel_rfl) t2 h2 Try.underlying61 rfl (by kernel_rfl)) rfl ⟨rfl, hb⟩
set_option maxHeartbeats 8000000 in
set_option maxRecDepth 100000 in
theorem parted_any (lo hi : Int) (n : Nat) (hn : 1 ≤ n ∧ n ≤ 4) (h0 : 0 ≤ lo) (h1 : lo ≤ hi) (h2 : hi ≤ 1114111) (w : World) :
    Calls Try.prog 41 #[.int .i64 lo, .int .i64 hi, .int .i64 n] w (PartPost (partG lo hi (psOf n)) w) := by
  obtain ⟨R, hR⟩ : ∃ R, R = partG lo hi (psOf n) := ⟨_, rfl⟩
  have HR := Aside0.mk (show R = partG lo hi ((psOf n).drop (1 - 1)) from hR)
  rw [← hR]
  clear hR
  go_enter Try.func41, Try.ntmps41
  go_wp2_with fail
  have a1 := heap_alloc_last w (.cells #[.int .i64 0, .int .i64 0] 61)
  have b1 : Below w.heap.size w (w.alloc (.cells #[.int .i64 0, .int .i64 0] 61)) := (Below.refl _ w).alloc (Nat.le_refl _) _
  have a2 := heap_alloc_last (w.alloc (.cells #[.int .i64 0, .int .i64 0] 61)) (.cells #[.int .i64 0, .int .i64 0] 61)
  have b2 := (Below.refl _ (w.alloc (.cells #[.int .i64 0, .int .i64 0] 61))).alloc (Nat.le_refl _) (.cells #[.int .i64 0, .int .i64 0] 61)
  have a3 := heap_alloc_last ((w.alloc (.cells #[.int .i64 0, .int .i64 0] 61)).alloc (.cells #[.int .i64 0, .int .i64 0] 61)) (.cells #[.int .i64 lo, .int .i64 hi] 61)
  have b3 := (Below.refl _ ((w.alloc (.cells #[.int .i64 0, .int .i64 0] 61)).alloc (.cells #[.int .i64 0, .int .i64 0] 61))).alloc (Nat.le_refl _) (.cells #[.int .i64 lo, .int .i64 hi] 61)
  have HB := Aside0.mk ((b1.trans (b2.mono b1.size)).trans (b3.mono (Nat.le_trans b1.size b2.size)))
  have HA3 := Aside0.mk a3
  have HA2 := Aside0.mk ((b3.block _ (blk_lt a2)).trans a2)
  have HA1 := Aside0.mk ((b3.block _ (Nat.lt_of_lt_of_le (blk_lt a1) b2.size)).trans ((b2.block _ (blk_lt a1)).trans a1))
  clear a1 a2 a3 b1 b2 b3
  rw [show (w.alloc (.cells #[.int .i64 0, .int .i64 0] 61)).heap.size = w.heap.size + 1 by simp] at HA2
  rw [show ((w.alloc (.cells #[.int .i64 0, .int .i64 0] 61)).alloc (.cells #[.int .i64 0, .int .i64 0] 61)).heap.size = w.heap.size + 1 + 1 by simp] at HA3
  generalize ((w.alloc (.cells #[.int .i64 0, .int .i64 0] 61)).alloc (.cells #[.int .i64 0, .int .i64 0] 61)).alloc (.cells #[.int .i64 lo, .int .i64 hi] 61) = wq at HB HA1 HA2 HA3 ⊢
  go_loopg [9] 3 (fun g s9 wr => ∃ k : Nat, 1 ≤ k ∧ k ≤ n ∧ n - k ≤ g ∧ s9 = .int .i64 k ∧ wq = wr ∧ Aside0 (R = partG lo hi ((psOf n).drop (k - 1))))
  case atStart => exact ⟨1, by omega, by omega, by omega, rfl, rfl, HR⟩
  case round =>
    clear HR
    obtain ⟨k, hk1, hkn, hg, rfl, rfl, HR⟩ := hrel
    have r10 : wq.cell? ⟨w.heap.size, 0, none⟩ = some (.int .i64 0) := (blk_cell HA1.out 0).trans rfl
    have r11 : wq.cell? ⟨w.heap.size, 1, none⟩ = some (.int .i64 0) := (blk_cell HA1.out 1).trans rfl
    have r20 : wq.cell? ⟨w.heap.size + 1, 0, none⟩ = some (.int .i64 0) := (blk_cell HA2.out 0).trans rfl
    have r21 : wq.cell? ⟨w.heap.size + 1, 1, none⟩ = some (.int .i64 0) := (blk_cell HA2.out 1).trans rfl
    have x10 : wq.frozen? ⟨w.heap.size, 0, none⟩ = false := blk_frozen HA1.out 0
    have x11 : wq.frozen? ⟨w.heap.size, 1, none⟩ = false := blk_frozen HA1.out 1
    have x20 : wq.frozen? ⟨w.heap.size + 1, 0, none⟩ = false := blk_frozen HA2.out 0
    have x21 : wq.frozen? ⟨w.heap.size + 1, 1, none⟩ = false := blk_frozen HA2.out 1
    have w0 : wq.cell? ⟨w.heap.size + 1 + 1, 0, none⟩ = some (.int .i64 lo) := (blk_cell HA3.out 0).trans rfl
    have w1 : wq.cell? ⟨w.heap.size + 1 + 1, 1, none⟩ = some (.int .i64 hi) := (blk_cell HA3.out 1).trans rfl
    by_cases hlt : k < n
    · have hcase : k = 1 ∨ k = 2 ∨ k = 3 := by omega
      rcases hcase with rfl | rfl | rfl
      · have hd : (psOf n).drop (1 - 1) = 64 :: (psOf n).drop 1 := by
          have : n = 2 ∨ n = 3 ∨ n = 4 := by omega
          rcases this with rfl | rfl | rfl <;> first | rfl | (exfalso; omega)
        have hp := HR.out
        rw [hd, partG] at hp
        have m1 : bits .andNot .i64 lo 63 = lo - lo % 64 := andNot_low 6 (by decide) lo h0 (by omega)
        have m2 : bits .andNot .i64 hi 63 = hi - hi % 64 := andNot_low 6 (by decide) hi (by omega) (by omega)
        have m3 : bits .and .i64 lo 63 = lo % 64 := and_low 6 (by decide) lo h0 (by omega)
        have m4 : bits .and .i64 hi 63 = hi % 64 := and_low 6 (by decide) hi (by omega) (by omega)
        have m5 : bits .or .i64 lo 63 = lo - lo % 64 + 63 := or_low 6 (by decide) lo h0 (by omega)
        clear hd HR
        by_cases c1 : lo - lo % 64 = hi - hi % 64
        · have z1 : (lo - lo % 64 == hi - hi % 64) = true := by simpa using c1
          rw [if_pos c1] at hp
          have HP := Aside0.mk hp
          clear c1 hp
          go_wp2
          go_roundg (n - (1 + 1))
          case measure => omega
          case rel => exact ⟨1 + 1, by omega, by omega, by omega, rfl, rfl, HP⟩
        · have z1 : (lo - lo % 64 == hi - hi % 64) = false := by simpa using c1
          rw [if_neg c1] at hp
          clear c1
          by_cases c2 : lo % 64 = 0
          · have z2 : (lo % 64 != 0) = false := by simpa using c2
            rw [if_neg (by simpa using c2)] at hp
            clear c2
            by_cases c3 : hi % 64 = 63
            · have z3 : (hi % 64 != 63) = false := by simpa using c3
              rw [if_neg (by simpa using c3)] at hp
              have HP := Aside0.mk hp
              clear c3 hp
              go_wp2
              go_roundg (n - (1 + 1))
              case measure => omega
              case rel => exact ⟨1 + 1, by omega, by omega, by omega, rfl, rfl, HP⟩
            · have z3 : (hi % 64 != 63) = true := by simpa using c3
              rw [if_pos (by simpa using c3)] at hp
              have HP := Aside0.mk hp
              clear c3 hp
              go_wp2
              obtain ⟨e1, e2, e3⟩ := stored2 (a := .int .i64 lo) (b := .int .i64 (hi - hi % 64 - 1)) (c := .int .i64 (hi - hi % 64)) (d := .int .i64 hi) HA1.out HA2.out (by omega) (Nat.le_refl _) (by omega) HB.out
              rw [HP.out]
              exact ret_two e1 e2 rfl rfl e3
          · have z2 : (lo % 64 != 0) = true := by simpa using c2
            rw [if_pos (by simpa using c2)] at hp
            have HP := Aside0.mk hp
            clear c2 hp
            go_wp2
            obtain ⟨e1, e2, e3⟩ := stored2 (a := .int .i64 lo) (b := .int .i64 (lo - lo % 64 + 63)) (c := .int .i64 (lo - lo % 64 + 63 + 1)) (d := .int .i64 hi) HA1.out HA2.out (by omega) (Nat.le_refl _) (by omega) HB.out
            rw [HP.out]
            exact ret_two e1 e2 rfl rfl e3
      · have hd : (psOf n).drop (2 - 1) = 4096 :: (psOf n).drop 2 := by
          have : n = 2 ∨ n = 3 ∨ n = 4 := by omega
          rcases this with rfl | rfl | rfl <;> first | rfl | (exfalso; omega)
        have hp := HR.out
        rw [hd, partG] at hp
        have m1 : bits .andNot .i64 lo 4095 = lo - lo % 4096 := andNot_low 12 (by decide) lo h0 (by omega)
        have m2 : bits .andNot .i64 hi 4095 = hi - hi % 4096 := andNot_low 12 (by decide) hi (by omega) (by omega)
        have m3 : bits .and .i64 lo 4095 = lo % 4096 := and_low 12 (by decide) lo h0 (by omega)
        have m4 : bits .and .i64 hi 4095 = hi % 4096 := and_low 12 (by decide) hi (by omega) (by omega)
        have m5 : bits .or .i64 lo 4095 = lo - lo % 4096 + 4095 := or_low 12 (by decide) lo h0 (by omega)
        clear hd HR
        by_cases c1 : lo - lo % 4096 = hi - hi % 4096
        · have z1 : (lo - lo % 4096 == hi - hi % 4096) = true := by simpa using c1
          rw [if_pos c1] at hp
          have HP := Aside0.mk hp
          clear c1 hp
          go_wp2
          go_roundg (n - (2 + 1))
          case measure => omega
          case rel => exact ⟨2 + 1, by omega, by omega, by omega, rfl, rfl, HP⟩
        · have z1 : (lo - lo % 4096 == hi - hi % 4096) = false := by simpa using c1
          rw [if_neg c1] at hp
          clear c1
          by_cases c2 : lo % 4096 = 0
          · have z2 : (lo % 4096 != 0) = false := by simpa using c2
            rw [if_neg (by simpa using c2)] at hp
            clear c2
            by_cases c3 : hi % 4096 = 4095
            · have z3 : (hi % 4096 != 4095) = false := by simpa using c3
              rw [if_neg (by simpa using c3)] at hp
              have HP := Aside0.mk hp
              clear c3 hp
              go_wp2
              go_roundg (n - (2 + 1))
              case measure => omega
              case rel => exact ⟨2 + 1, by omega, by omega, by omega, rfl, rfl, HP⟩
            · have z3 : (hi % 4096 != 4095) = true := by simpa using c3
              rw [if_pos (by simpa using c3)] at hp
              have HP := Aside0.mk hp
              clear c3 hp
              go_wp2
              obtain ⟨e1, e2, e3⟩ := stored2 (a := .int .i64 lo) (b := .int .i64 (hi - hi % 4096 - 1)) (c := .int .i64 (hi - hi % 4096)) (d := .int .i64 hi) HA1.out HA2.out (by omega) (Nat.le_refl _) (by omega) HB.out
              rw [HP.out]
              exact ret_two e1 e2 rfl rfl e3
          · have z2 : (lo % 4096 != 0) = true := by simpa using c2
            rw [if_pos (by simpa using c2)] at hp
            have HP := Aside0.mk hp
            clear c2 hp
            go_wp2
            obtain ⟨e1, e2, e3⟩ := stored2 (a := .int .i64 lo) (b := .int .i64 (lo - lo % 4096 + 4095)) (c := .int .i64 (lo - lo % 4096 + 4095 + 1)) (d := .int .i64 hi) HA1.out HA2.out (by omega) (Nat.le_refl _) (by omega) HB.out
            rw [HP.out]
            exact ret_two e1 e2 rfl rfl e3
      · have hd : (psOf n).drop (3 - 1) = 262144 :: (psOf n).drop 3 := by
          have : n = 2 ∨ n = 3 ∨ n = 4 := by omega
          rcases this with rfl | rfl | rfl <;> first | rfl | (exfalso; omega)
        have hp := HR.out
        rw [hd, partG] at hp
        have m1 : bits .andNot .i64 lo 262143 = lo - lo % 262144 := andNot_low 18 (by decide) lo h0 (by omega)
        have m2 : bits .andNot .i64 hi 262143 = hi - hi % 262144 := andNot_low 18 (by decide) hi (by omega) (by omega)
        have m3 : bits .and .i64 lo 262143 = lo % 262144 := and_low 18 (by decide) lo h0 (by omega)
        have m4 : bits .and .i64 hi 262143 = hi % 262144 := and_low 18 (by decide) hi (by omega) (by omega)
        have m5 : bits .or .i64 lo 262143 = lo - lo % 262144 + 262143 := or_low 18 (by decide) lo h0 (by omega)
        clear hd HR
        by_cases c1 : lo - lo % 262144 = hi - hi % 262144
        · have z1 : (lo - lo % 262144 == hi - hi % 262144) = true := by simpa using c1
          rw [if_pos c1] at hp
          have HP := Aside0.mk hp
          clear c1 hp
          go_wp2
          go_roundg (n - (3 + 1))
          case measure => omega
          case rel => exact ⟨3 + 1, by omega, by omega, by omega, rfl, rfl, HP⟩
        · have z1 : (lo - lo % 262144 == hi - hi % 262144) = false := by simpa using c1
          rw [if_neg c1] at hp
          clear c1
          by_cases c2 : lo % 262144 = 0
          · have z2 : (lo % 262144 != 0) = false := by simpa using c2
            rw [if_neg (by simpa using c2)] at hp
            clear c2
            by_cases c3 : hi % 262144 = 262143
            · have z3 : (hi % 262144 != 262143) = false := by simpa using c3
              rw [if_neg (by simpa using c3)] at hp
              have HP := Aside0.mk hp
              clear c3 hp
              go_wp2
              go_roundg (n - (3 + 1))
              case measure => omega
              case rel => exact ⟨3 + 1, by omega, by omega, by omega, rfl, rfl, HP⟩
            · have z3 : (hi % 262144 != 262143) = true := by simpa using c3
              rw [if_pos (by simpa using c3)] at hp
              have HP := Aside0.mk hp
              clear c3 hp
              go_wp2
              obtain ⟨e1, e2, e3⟩ := stored2 (a := .int .i64 lo) (b := .int .i64 (hi - hi % 262144 - 1)) (c := .int .i64 (hi - hi % 262144)) (d := .int .i64 hi) HA1.out HA2.out (by omega) (Nat.le_refl _) (by omega) HB.out
              rw [HP.out]
              exact ret_two e1 e2 rfl rfl e3
          · have z2 : (lo % 262144 != 0) = true := by simpa using c2
            rw [if_pos (by simpa using c2)] at hp
            have HP := Aside0.mk hp
            clear c2 hp
            go_wp2
            obtain ⟨e1, e2, e3⟩ := stored2 (a := .int .i64 lo) (b := .int .i64 (lo - lo % 262144 + 262143)) (c := .int .i64 (lo - lo % 262144 + 262143 + 1)) (d := .int .i64 hi) HA1.out HA2.out (by omega) (Nat.le_refl _) (by omega) HB.out
            rw [HP.out]
            exact ret_two e1 e2 rfl rfl e3
    · have hkn' : k = n := by omega
      subst hkn'
      have hp := HR.out
      have hd : (psOf k).drop (k - 1) = [] := by
        have : k = 1 ∨ k = 2 ∨ k = 3 ∨ k = 4 := by omega
        rcases this with rfl | rfl | rfl | rfl <;> rfl
      rw [hd, partG] at hp
      have HP := Aside0.mk hp
      clear hp hd HR
      go_wp2_with fail
      go_region
      go_wp2
      obtain ⟨e1, e2, e3⟩ := stored2 (a := .int .i64 lo) (b := .int .i64 hi) (c := .int .i64 lo) (d := .int .i64 hi) HA1.out HA2.out (by omega) (Nat.le_refl _) (by omega) HB.out
      rw [HP.out]
      exact ret_two e1 e2 rfl rfl ⟨e3.os, e3.tape, e3.output, e3.size, e3.block⟩
end Go.Proofs.YtoihlfiacnljhaaX

namespace Go.Proofs.YtoihlfiacnljhaaX
open Go.RowKit Go.Proofs.YtoihlfiacnljhaaW.PrintWords Go.Proofs.YtoihlfiacnljhaaW.PrintLast Go.Proofs.YtoihlfiacnljhaaW.PrintMore
set_option linter.unusedVariables false
set_option linter.unusedSimpArgs false
/-- Runes of one width, one behind the other. -/
structure OneW (n : Nat) (lo hi : Int) : Prop where
  n1 : 1 ≤ n ∧ n ≤ 4
  le : lo ≤ hi
  inr : 0 ≤ lo ∧ hi ≤ 1114111
  w1 : n = 1 → hi ≤ 127
  w2 : n = 2 → 128 ≤ lo ∧ hi ≤ 2047
  w3 : n = 3 → 2048 ≤ lo ∧ hi ≤ 65535 ∧ (hi < 55296 ∨ 57343 < lo)
  w4 : n = 4 → 65536 ≤ lo
theorem OneW.width {n : Nat} {lo hi x : Int} (h : OneW n lo hi) (h1 : lo ≤ x) (h2 : x ≤ hi) : widthF x = n := by
  have := h.inr
  have := h.n1
  have hc : n = 1 ∨ n = 2 ∨ n = 3 ∨ n = 4 := by omega
  unfold widthF
  rcases hc with rfl | rfl | rfl | rfl
  · have := h.w1 rfl
    rw [if_neg (by omega), if_pos (by omega)]
  · have := h.w2 rfl
    rw [if_neg (by omega), if_neg (by omega), if_pos (by omega)]
  · have := h.w3 rfl
    rw [if_neg (by omega), if_neg (by omega), if_neg (by omega), if_pos (by omega)]
  · have := h.w4 rfl
    rw [if_neg (by omega), if_neg (by omega), if_neg (by omega), if_neg (by omega)]
theorem OneW.sub {n : Nat} {lo hi a b : Int} (h : OneW n lo hi) (h1 : lo ≤ a) (h2 : a ≤ b) (h3 : b ≤ hi) : OneW n a b := by
  have := h.inr
  refine ⟨h.n1, h2, by omega, fun e => ?_, fun e => ?_, fun e => ?_, fun e => ?_⟩
  · have := h.w1 e; omega
  · have := h.w2 e; omega
  · have := h.w3 e; omega
  · have := h.w4 e; omega
theorem partG_cases {lo hi : Int} (h0 : 0 ≤ lo) (h1 : lo ≤ hi) : ∀ ps : List Int, (∀ p ∈ ps, p = 64 ∨ p = 4096 ∨ p = 262144) → partG lo hi ps = ((lo, hi), (lo, hi)) ∨ ∃ m, lo ≤ m ∧ m < hi ∧ partG lo hi ps = ((lo, m), (m + 1, hi))
  | [], _ => .inl rfl
  | p :: ps, hp => by
    have ih := partG_cases h0 h1 ps (fun q hq => hp q (by simp [hq]))
    unfold partG
    by_cases c1 : lo - lo % p = hi - hi % p
    · rw [if_pos c1]; exact ih
    · rw [if_neg c1]
      by_cases c2 : lo % p ≠ 0
      · rw [if_pos c2]
        refine .inr ⟨lo - lo % p + (p - 1), ?_, ?_, rfl⟩
        · rcases hp p (by simp) with rfl | rfl | rfl <;> omega
        · rcases hp p (by simp) with rfl | rfl | rfl <;> omega
      · rw [if_neg c2]
        by_cases c3 : hi % p ≠ p - 1
        · rw [if_pos c3]
          refine .inr ⟨hi - hi % p - 1, ?_, ?_, ?_⟩
          · rcases hp p (by simp) with rfl | rfl | rfl <;> omega
          · rcases hp p (by simp) with rfl | rfl | rfl <;> omega
          · rw [show hi - hi % p - 1 + 1 = hi - hi % p by omega]
        · rw [if_neg c3]; exact ih
theorem psOf_in (n : Nat) : ∀ p ∈ psOf n, p = 64 ∨ p = 4096 ∨ p = 262144 := by
  intro p hp
  match n, hp with
  | 0, hp => simp [psOf] at hp
  | 1, hp => simp [psOf] at hp
  | 2, hp => simp [psOf] at hp; exact .inl hp
  | 3, hp => simp [psOf] at hp; omega
  | 4, hp => simp [psOf] at hp; omega
  | n + 5, hp => simp [psOf] at hp
/-- The sequence of a range that is one. -/
def seqOf (n : Nat) (lo hi : Int) : List (Int × Int) := (encN n lo).zip (encN n hi)
/-- A range's sequences. -/
def partL (n : Nat) (lo hi : Int) : List (List (Int × Int)) :=
  if h : lo ≤ (partG lo hi (psOf n)).1.2 ∧ (partG lo hi (psOf n)).1.2 < hi then partL n lo (partG lo hi (psOf n)).1.2 ++ partL n ((partG lo hi (psOf n)).1.2 + 1) hi else [seqOf n lo hi]
termination_by (hi - lo).toNat
decreasing_by all_goals omega
theorem partL_one {n : Nat} {lo hi : Int} (h : partG lo hi (psOf n) = ((lo, hi), (lo, hi))) : partL n lo hi = [seqOf n lo hi] := by
  rw [partL, h]
  rw [dif_neg (by simp)]
theorem partL_two {n : Nat} {lo hi m : Int} (h1 : lo ≤ m) (h2 : m < hi) (h : partG lo hi (psOf n) = ((lo, m), (m + 1, hi))) : partL n lo hi = partL n lo m ++ partL n (m + 1) hi := by
  conv => lhs; rw [partL]
  rw [h]
  rw [dif_pos ⟨h1, h2⟩]
theorem partL_len (n : Nat) : ∀ (d : Nat) (lo hi : Int), (hi - lo).toNat ≤ d → (partL n lo hi).length ≤ (hi - lo).toNat + 1
  | d, lo, hi, hd => by
    rw [partL]
    split
    · rename_i h
      have h1 := partL_len n (d - 1) lo (partG lo hi (psOf n)).1.2 (by omega)
      have h2 := partL_len n (d - 1) ((partG lo hi (psOf n)).1.2 + 1) hi (by omega)
      rw [List.length_append]
      omega
    · simp
termination_by d lo hi => (hi - lo).toNat
decreasing_by all_goals omega
theorem encN_len (n : Nat) (hn : 1 ≤ n) (r : Int) : (encN n r).length = n := by
  simp [encN]; omega
theorem width_le {n : Nat} {r : Int} (hw : widthF r = n) : (n = 1 → r ≤ 127) ∧ (n = 2 → r ≤ 2047) ∧ (n = 3 → r ≤ 65535) := by
  unfold widthF at hw
  repeat' split at hw
  all_goals omega
theorem width_in {r : Int} (h : widthF r ≠ 0) : (1 ≤ widthF r ∧ widthF r ≤ 4) ∧ 0 ≤ r ∧ r ≤ 1114111 := by
  unfold widthF at h ⊢
  repeat' split at h
  all_goals first | omega | (repeat' split) <;> omega
theorem encN_in {n : Nat} {r : Int} (hn : 1 ≤ n ∧ n ≤ 4) (hw : widthF r = n) (hr : 0 ≤ r ∧ r ≤ 1114111) : ∀ x ∈ encN n r, 0 ≤ x ∧ x ≤ 255 := by
  intro x hx
  unfold encN at hx
  rw [List.mem_cons] at hx
  rcases hx with rfl | hx
  · have hl := width_le hw
    have hc : n = 1 ∨ n = 2 ∨ n = 3 ∨ n = 4 := by omega
    rcases hc with rfl | rfl | rfl | rfl
    · have := hl.1 rfl
      simp [leadV]; omega
    · have := hl.2.1 rfl
      simp [leadV]; omega
    · have := hl.2.2 rfl
      simp [leadV]; omega
    · simp [leadV]; omega
  · obtain ⟨i, _, rfl⟩ := List.mem_map.1 hx
    generalize r / 64 ^ (n - 2 - i) = q
    omega
theorem seqOf_len {n : Nat} (hn : 1 ≤ n) (lo hi : Int) : (seqOf n lo hi).length = n := by
  simp [seqOf, encN_len n hn]
theorem seqOf_at {n : Nat} (hn : 1 ≤ n) (lo hi : Int) (k : Nat) (hk : k < n) : (seqOf n lo hi)[k]'(by rw [seqOf_len hn]; exact hk) = ((encN n lo)[k]'(by rw [encN_len n hn]; exact hk), (encN n hi)[k]'(by rw [encN_len n hn]; exact hk)) := by
  simp [seqOf]
end Go.Proofs.YtoihlfiacnljhaaX

namespace Go.Proofs.YtoihlfiacnljhaaX
open Go.RowKit Go.Proofs.YtoihlfiacnljhaaW.PrintWords Go.Proofs.YtoihlfiacnljhaaW.PrintLast Go.Proofs.YtoihlfiacnljhaaW.PrintMore
set_option linter.unusedVariables false
set_option linter.unusedSimpArgs false
def byteI (s : ByteArray) (i : Nat) : Int := if h : i < s.size then (s[i]'h).toNat else 0
theorem byteI_in (s : ByteArray) (i : Nat) : 0 ≤ byteI s i ∧ byteI s i ≤ 255 := by
  unfold byteI
  split
  · rename_i h
    have := (s[i]'h).toNat_lt
    omega
  · omega
/-- Are all ranges from the k-th on met? -/
def okFrom (s : ByteArray) : Nat → List (Int × Int) → Bool
  | _, [] => true
  | k, x :: t => decide (x.1 ≤ byteI s k) && (decide (byteI s k ≤ x.2) && okFrom s (k + 1) t)
def takesF (s : ByteArray) (seq : List (Int × Int)) : Bool := decide (0 < seq.length) && (decide (seq.length ≤ s.size) && okFrom s 0 seq)
def longF (s : ByteArray) : List (List (Int × Int)) → Int
  | [] => 0
  | q :: t => if takesF s q then q.length else longF s t
def bytesL (s : ByteArray) (n : Nat) : List Int := (List.range n).map (byteI s)
def Starts (s : ByteArray) (n : Nat) (r : Int) : Prop := n ≤ s.size ∧ bytesL s n = encN n r
theorem enc1 (r : Int) : encN 1 r = [r] := by simp [encN, leadV]
theorem enc2 (r : Int) : encN 2 r = [192 + r / 64, 128 + r % 64] := by simp [encN, leadV, List.range_succ]
theorem enc3 (r : Int) : encN 3 r = [224 + r / 4096, 128 + r / 64 % 64, 128 + r % 64] := by simp [encN, leadV, List.range_succ]
theorem enc4 (r : Int) : encN 4 r = [240 + r / 262144, 128 + r / 4096 % 64, 128 + r / 64 % 64, 128 + r % 64] := by simp [encN, leadV, List.range_succ]
theorem bytes1 (s : ByteArray) : bytesL s 1 = [byteI s 0] := by simp [bytesL]
theorem bytes2 (s : ByteArray) : bytesL s 2 = [byteI s 0, byteI s 1] := by simp [bytesL, List.range_succ]
theorem bytes3 (s : ByteArray) : bytesL s 3 = [byteI s 0, byteI s 1, byteI s 2] := by simp [bytesL, List.range_succ]
theorem bytes4 (s : ByteArray) : bytesL s 4 = [byteI s 0, byteI s 1, byteI s 2, byteI s 3] := by simp [bytesL, List.range_succ]
theorem partG_one {lo hi : Int} (h0 : 0 ≤ lo) (h1 : lo ≤ hi) : ∀ ps : List Int, (∀ p ∈ ps, p = 64 ∨ p = 4096 ∨ p = 262144) → partG lo hi ps = ((lo, hi), (lo, hi)) → ∀ p ∈ ps, lo - lo % p = hi - hi % p ∨ (lo % p = 0 ∧ hi % p = p - 1)
  | [], _, _ => fun p hp => by simp at hp
  | p :: ps, hp, h => by
    have ih := partG_one h0 h1 ps (fun q hq => hp q (by simp [hq]))
    unfold partG at h
    intro q hq
    rw [List.mem_cons] at hq
    by_cases c1 : lo - lo % p = hi - hi % p
    · rw [if_pos c1] at h
      rcases hq with rfl | hq
      · exact .inl c1
      · exact ih h q hq
    · rw [if_neg c1] at h
      by_cases c2 : lo % p ≠ 0
      · rw [if_pos c2] at h
        simp only [Prod.mk.injEq] at h
        rcases hp p (by simp) with rfl | rfl | rfl <;> omega
      · rw [if_neg c2] at h
        by_cases c3 : hi % p ≠ p - 1
        · rw [if_pos c3] at h
          simp only [Prod.mk.injEq] at h
          rcases hp p (by simp) with rfl | rfl | rfl <;> omega
        · rw [if_neg c3] at h
          rcases hq with rfl | hq
          · exact .inr ⟨by omega, by omega⟩
          · exact ih h q hq
theorem ok_one (s : ByteArray) {lo hi : Int} (hw : OneW 1 lo hi) : okFrom s 0 (seqOf 1 lo hi) = true ↔ ∃ r, lo ≤ r ∧ r ≤ hi ∧ bytesL s 1 = encN 1 r := by
  simp only [seqOf, enc1, bytes1, List.zip_cons_cons, List.zip_nil_right, okFrom, Bool.and_true, Bool.and_eq_true, decide_eq_true_eq, List.cons.injEq, and_true]
  constructor
  · rintro ⟨a, b⟩
    exact ⟨_, a, b, rfl⟩
  · rintro ⟨r, a, b, rfl⟩
    exact ⟨a, b⟩
theorem ok_two (s : ByteArray) {lo hi : Int} (hw : OneW 2 lo hi) (h : lo - lo % 64 = hi - hi % 64 ∨ (lo % 64 = 0 ∧ hi % 64 = 63)) : okFrom s 0 (seqOf 2 lo hi) = true ↔ ∃ r, lo ≤ r ∧ r ≤ hi ∧ bytesL s 2 = encN 2 r := by
  simp only [seqOf, enc2, bytes2, List.zip_cons_cons, List.zip_nil_right, okFrom, Bool.and_true, Bool.and_eq_true, decide_eq_true_eq, List.cons.injEq, and_true]
  generalize byteI s 0 = a
  generalize byteI s 1 = b
  have := hw.le
  constructor
  · rintro ⟨a1, a2, b1, b2⟩
    exact ⟨(a - 192) * 64 + (b - 128), by omega, by omega, by omega, by omega⟩
  · rintro ⟨r, h1, h2, rfl, rfl⟩
    omega
theorem ok_three (s : ByteArray) {lo hi : Int} (hw : OneW 3 lo hi) (h : lo - lo % 64 = hi - hi % 64 ∨ (lo % 64 = 0 ∧ hi % 64 = 63)) (h' : lo - lo % 4096 = hi - hi % 4096 ∨ (lo % 4096 = 0 ∧ hi % 4096 = 4095)) : okFrom s 0 (seqOf 3 lo hi) = true ↔ ∃ r, lo ≤ r ∧ r ≤ hi ∧ bytesL s 3 = encN 3 r := by
  simp only [seqOf, enc3, bytes3, List.zip_cons_cons, List.zip_nil_right, okFrom, Bool.and_true, Bool.and_eq_true, decide_eq_true_eq, List.cons.injEq, and_true]
  generalize byteI s 0 = a
  generalize byteI s 1 = b
  generalize byteI s 2 = c
  have := hw.le
  constructor
  · rintro ⟨a1, a2, b1, b2, c1, c2⟩
    exact ⟨(a - 224) * 4096 + (b - 128) * 64 + (c - 128), by omega, by omega, by omega, by omega, by omega⟩
  · rintro ⟨r, h1, h2, rfl, rfl, rfl⟩
    omega
theorem ok_four (s : ByteArray) {lo hi : Int} (hw : OneW 4 lo hi) (h : lo - lo % 64 = hi - hi % 64 ∨ (lo % 64 = 0 ∧ hi % 64 = 63)) (h' : lo - lo % 4096 = hi - hi % 4096 ∨ (lo % 4096 = 0 ∧ hi % 4096 = 4095)) (h'' : lo - lo % 262144 = hi - hi % 262144 ∨ (lo % 262144 = 0 ∧ hi % 262144 = 262143)) : okFrom s 0 (seqOf 4 lo hi) = true ↔ ∃ r, lo ≤ r ∧ r ≤ hi ∧ bytesL s 4 = encN 4 r := by
  simp only [seqOf, enc4, bytes4, List.zip_cons_cons, List.zip_nil_right, okFrom, Bool.and_true, Bool.and_eq_true, decide_eq_true_eq, List.cons.injEq, and_true]
  generalize byteI s 0 = a
  generalize byteI s 1 = b
  generalize byteI s 2 = c
  generalize byteI s 3 = d
  have := hw.le
  constructor
  · rintro ⟨a1, a2, b1, b2, c1, c2, d1, d2⟩
    exact ⟨(a - 240) * 262144 + (b - 128) * 4096 + (c - 128) * 64 + (d - 128), by omega, by omega, by omega, by omega, by omega, by omega⟩
  · rintro ⟨r, h1, h2, rfl, rfl, rfl, rfl⟩
    omega
def seq3 (p : Nat × Int × Int) : List (Int × Int) := seqOf p.1 p.2.1 p.2.2
structure Piece (p : Nat × Int × Int) : Prop where
  w : OneW p.1 p.2.1 p.2.2
  one : partG p.2.1 p.2.2 (psOf p.1) = ((p.2.1, p.2.2), (p.2.1, p.2.2))
theorem Piece.takes {p : Nat × Int × Int} (h : Piece p) (s : ByteArray) : takesF s (seq3 p) = true ↔ ∃ r, p.2.1 ≤ r ∧ r ≤ p.2.2 ∧ Starts s p.1 r := by
  obtain ⟨n, lo, hi⟩ := p
  have hw : OneW n lo hi := h.w
  have ho : partG lo hi (psOf n) = ((lo, hi), (lo, hi)) := h.one
  have hp := partG_one hw.inr.1 hw.le _ (psOf_in n) ho
  have hk : okFrom s 0 (seqOf n lo hi) = true ↔ ∃ r, lo ≤ r ∧ r ≤ hi ∧ bytesL s n = encN n r := by
    have hc : n = 1 ∨ n = 2 ∨ n = 3 ∨ n = 4 := by have := hw.n1; omega
    rcases hc with rfl | rfl | rfl | rfl
    · exact ok_one s hw
    · exact ok_two s hw (hp 64 (by simp [psOf]))
    · exact ok_three s hw (hp 64 (by simp [psOf])) (hp 4096 (by simp [psOf]))
    · exact ok_four s hw (hp 64 (by simp [psOf])) (hp 4096 (by simp [psOf])) (hp 262144 (by simp [psOf]))
  have hl := seqOf_len hw.n1.1 lo hi
  unfold takesF seq3
  simp only [Bool.and_eq_true, decide_eq_true_eq, hl, hk]
  constructor
  · rintro ⟨_, h2, r, h3, h4, h5⟩
    exact ⟨r, h3, h4, h2, h5⟩
  · rintro ⟨r, h3, h4, h2, h5⟩
    exact ⟨by have := hw.n1; omega, h2, r, h3, h4, h5⟩
theorem widthF_eq {n : Nat} {r : Int} (h : widthF r = n) (hn : 1 ≤ n) : (n = 1 ∧ 0 ≤ r ∧ r ≤ 127) ∨ (n = 2 ∧ 128 ≤ r ∧ r ≤ 2047) ∨ (n = 3 ∧ 2048 ≤ r ∧ r ≤ 65535 ∧ ¬ (55296 ≤ r ∧ r ≤ 57343)) ∨ (n = 4 ∧ 65536 ≤ r ∧ r ≤ 1114111) := by
  unfold widthF at h
  repeat' split at h
  all_goals omega
set_option maxHeartbeats 1000000 in
theorem Starts.unique {s : ByteArray} {n m : Nat} {r q : Int} (h : Starts s n r) (hr : widthF r = n) (hn : 1 ≤ n) (h' : Starts s m q) (hq : widthF q = m) (hm : 1 ≤ m) : n = m ∧ r = q := by
  obtain ⟨_, h⟩ := h
  obtain ⟨_, h'⟩ := h'
  rcases widthF_eq hr hn with ⟨rfl, h0⟩ | ⟨rfl, h0⟩ | ⟨rfl, h0⟩ | ⟨rfl, h0⟩ <;> rcases widthF_eq hq hm with ⟨rfl, h1⟩ | ⟨rfl, h1⟩ | ⟨rfl, h1⟩ | ⟨rfl, h1⟩ <;>
  · simp only [enc1, enc2, enc3, enc4, bytes1, bytes2, bytes3, bytes4, List.cons.injEq, and_true] at h h'
    generalize byteI s 0 = a at h h'
    generalize byteI s 1 = b at h h'
    generalize byteI s 2 = c at h h'
    generalize byteI s 3 = d at h h'
    omega
/-- Sequences of pieces, one behind the other, that hold all runes of a range. -/
structure Pieces (P : List (Nat × Int × Int)) (lo hi : Int) : Prop where
  all : ∀ p ∈ P, Piece p ∧ lo ≤ p.2.1 ∧ p.2.2 ≤ hi
  apart : P.Pairwise (fun p q => p.2.2 < q.2.1)
  cover : ∀ r, lo ≤ r → r ≤ hi → widthF r ≠ 0 → ∃ p ∈ P, p.2.1 ≤ r ∧ r ≤ p.2.2
theorem Pieces.append {P Q : List (Nat × Int × Int)} {lo m m' hi : Int} (h : Pieces P lo m) (h' : Pieces Q m' hi) (hm : m < m') (h1 : m ≤ hi) (h2 : lo ≤ m') (hg : ∀ r, m < r → r < m' → widthF r = 0) : Pieces (P ++ Q) lo hi := by
  refine ⟨fun p hp => ?_, List.pairwise_append.2 ⟨h.apart, h'.apart, fun p hp q hq => ?_⟩, fun r hr1 hr2 hw => ?_⟩
  · rcases List.mem_append.1 hp with hp | hp
    · have := h.all p hp
      exact ⟨this.1, this.2.1, by omega⟩
    · have := h'.all p hp
      exact ⟨this.1, by omega, this.2.2⟩
  · have := h.all p hp
    have := h'.all q hq
    omega
  · by_cases c1 : r ≤ m
    · obtain ⟨p, hp, h3⟩ := h.cover r hr1 c1 hw
      exact ⟨p, by simp [hp], h3⟩
    · by_cases c2 : m' ≤ r
      · obtain ⟨p, hp, h3⟩ := h'.cover r c2 hr2 hw
        exact ⟨p, by simp [hp], h3⟩
      · exact absurd (hg r (by omega) (by omega)) hw
theorem Pieces.wide {P : List (Nat × Int × Int)} {lo hi lo' hi' : Int} (h : Pieces P lo hi) (h1 : lo' ≤ lo) (h2 : hi ≤ hi') (hg : ∀ r, lo' ≤ r → r ≤ hi' → ¬ (lo ≤ r ∧ r ≤ hi) → widthF r = 0) : Pieces P lo' hi' :=
  ⟨fun p hp => ⟨(h.all p hp).1, by have := (h.all p hp).2.1; omega, by have := (h.all p hp).2.2; omega⟩, h.apart, fun r h3 h4 hw => if hc : lo ≤ r ∧ r ≤ hi then h.cover r hc.1 hc.2 hw else absurd (hg r h3 h4 hc) hw⟩
theorem partL_pieces (n : Nat) : ∀ (d : Nat) (lo hi : Int), (hi - lo).toNat ≤ d → OneW n lo hi → ∃ P, partL n lo hi = P.map seq3 ∧ Pieces P lo hi
  | d, lo, hi, hd, hw => by
    rcases partG_cases hw.inr.1 hw.le (psOf n) (psOf_in n) with h | ⟨m, h1, h2, h⟩
    · refine ⟨[(n, lo, hi)], by rw [partL_one h]; rfl, ?_, by simp, fun r h1 h2 _ => ⟨(n, lo, hi), by simp, h1, h2⟩⟩
      intro p hp
      obtain rfl : p = (n, lo, hi) := by simpa using hp
      exact ⟨⟨hw, h⟩, Int.le_refl _, Int.le_refl _⟩
    · obtain ⟨P, e1, p1⟩ := partL_pieces n (d - 1) lo m (by omega) (hw.sub (Int.le_refl _) h1 (by omega))
      obtain ⟨Q, e2, p2⟩ := partL_pieces n (d - 1) (m + 1) hi (by omega) (hw.sub (by omega) (by omega) (Int.le_refl _))
      exact ⟨P ++ Q, by rw [partL_two h1 h2 h, e1, e2, List.map_append], p1.append p2 (by omega) (by omega) (by omega) (fun r _ _ => by omega)⟩
termination_by d => d
decreasing_by all_goals omega
/-- Runes of one width, one behind the other. -/
def wds : List (Nat × Int × Int) := [(1, 0, 127), (2, 128, 2047), (3, 2048, 55295), (3, 57344, 65535), (4, 65536, 1114111)]
def cutW (lo hi : Int) (x : Nat × Int × Int) : List (List (Int × Int)) := if max lo x.2.1 ≤ min hi x.2.2 then partL x.1 (max lo x.2.1) (min hi x.2.2) else []
/-- A range's sequences. -/
def splitL (lo hi : Int) : List (List (Int × Int)) := wds.flatMap (cutW lo hi)
theorem oneW_cut (lo hi : Int) (k : Nat) (hk : k < 5) (h : max lo (wds[k]'hk).2.1 ≤ min hi (wds[k]'hk).2.2) : OneW (wds[k]'hk).1 (max lo (wds[k]'hk).2.1) (min hi (wds[k]'hk).2.2) := by
  match k, hk, h with
  | 0, _, h => exact ⟨by simp [wds], h, by simp [wds] at h ⊢; omega, fun _ => by simp [wds]; omega, fun e => by simp [wds] at e, fun e => by simp [wds] at e, fun e => by simp [wds] at e⟩
  | 1, _, h => exact ⟨by simp [wds], h, by simp [wds] at h ⊢; omega, fun e => by simp [wds] at e, fun _ => by simp [wds]; omega, fun e => by simp [wds] at e, fun e => by simp [wds] at e⟩
  | 2, _, h => exact ⟨by simp [wds], h, by simp [wds] at h ⊢; omega, fun e => by simp [wds] at e, fun e => by simp [wds] at e, fun _ => by simp [wds]; omega, fun e => by simp [wds] at e⟩
  | 3, _, h => exact ⟨by simp [wds], h, by simp [wds] at h ⊢; omega, fun e => by simp [wds] at e, fun e => by simp [wds] at e, fun _ => by simp [wds]; omega, fun e => by simp [wds] at e⟩
  | 4, _, h => exact ⟨by simp [wds], h, by simp [wds] at h ⊢; omega, fun e => by simp [wds] at e, fun e => by simp [wds] at e, fun e => by simp [wds] at e, fun _ => by simp [wds]; omega⟩
structure PiecesIn (P : List (Nat × Int × Int)) (lo hi A B : Int) : Prop where
  all : ∀ p ∈ P, Piece p ∧ lo ≤ p.2.1 ∧ p.2.2 ≤ hi ∧ A ≤ p.2.1 ∧ p.2.2 ≤ B
  apart : P.Pairwise (fun p q => p.2.2 < q.2.1)
  cover : ∀ r, lo ≤ r → r ≤ hi → A ≤ r → r ≤ B → widthF r ≠ 0 → ∃ p ∈ P, p.2.1 ≤ r ∧ r ≤ p.2.2
theorem PiecesIn.append {P Q : List (Nat × Int × Int)} {lo hi A B B' C : Int} (h : PiecesIn P lo hi A B) (h' : PiecesIn Q lo hi B' C) (hm : B < B') (h1 : B ≤ C) (h2 : A ≤ B') (hg : ∀ r, B < r → r < B' → widthF r = 0) : PiecesIn (P ++ Q) lo hi A C := by
  refine ⟨fun p hp => ?_, List.pairwise_append.2 ⟨h.apart, h'.apart, fun p hp q hq => ?_⟩, fun r hr1 hr2 hr3 hr4 hw => ?_⟩
  · rcases List.mem_append.1 hp with hp | hp
    · have := h.all p hp
      exact ⟨this.1, this.2.1, this.2.2.1, by omega, by omega⟩
    · have := h'.all p hp
      exact ⟨this.1, this.2.1, this.2.2.1, by omega, by omega⟩
  · have := h.all p hp
    have := h'.all q hq
    omega
  · by_cases c1 : r ≤ B
    · obtain ⟨p, hp, h3⟩ := h.cover r hr1 hr2 hr3 c1 hw
      exact ⟨p, by simp [hp], h3⟩
    · by_cases c2 : B' ≤ r
      · obtain ⟨p, hp, h3⟩ := h'.cover r hr1 hr2 c2 hr4 hw
        exact ⟨p, by simp [hp], h3⟩
      · exact absurd (hg r (by omega) (by omega)) hw
theorem cut_pieces (lo hi : Int) (k : Nat) (hk : k < 5) : ∃ P, cutW lo hi (wds[k]'hk) = P.map seq3 ∧ PiecesIn P lo hi (wds[k]'hk).2.1 (wds[k]'hk).2.2 := by
  unfold cutW
  have hw := oneW_cut lo hi k hk
  generalize (wds[k]'hk).1 = n at hw
  generalize (wds[k]'hk).2.1 = a at hw
  generalize (wds[k]'hk).2.2 = b at hw
  split
  · rename_i h
    obtain ⟨P, e, p⟩ := partL_pieces n _ _ _ (Nat.le_refl _) (hw h)
    exact ⟨P, e, fun q hq => by have := p.all q hq; exact ⟨this.1, by omega, by omega, by omega, by omega⟩, p.apart, fun r h1 h2 h3 h4 h5 => p.cover r (by omega) (by omega) h5⟩
  · exact ⟨[], rfl, fun q hq => by simp at hq, List.Pairwise.nil, fun r h1 h2 h3 h4 h5 => by omega⟩
theorem splitL_pieces (lo hi : Int) : ∃ P, splitL lo hi = P.map seq3 ∧ Pieces P lo hi := by
  obtain ⟨P0, e0, p0⟩ := cut_pieces lo hi 0 (by decide)
  obtain ⟨P1, e1, p1⟩ := cut_pieces lo hi 1 (by decide)
  obtain ⟨P2, e2, p2⟩ := cut_pieces lo hi 2 (by decide)
  obtain ⟨P3, e3, p3⟩ := cut_pieces lo hi 3 (by decide)
  obtain ⟨P4, e4, p4⟩ := cut_pieces lo hi 4 (by decide)
  have h := ((((p0.append p1 (by simp [wds]) (by simp [wds]) (by simp [wds]) (fun r h1 h2 => by simp [wds] at h1 h2; omega)).append p2 (by simp [wds]) (by simp [wds]) (by simp [wds]) (fun r h1 h2 => by simp [wds] at h1 h2; omega)).append p3 (by simp [wds]) (by simp [wds]) (by simp [wds]) (fun r h1 h2 => by simp [wds] at h1 h2; unfold widthF; rw [if_pos (.inr (.inr (by omega)))])).append p4 (by simp [wds]) (by simp [wds]) (by simp [wds]) (fun r h1 h2 => by simp [wds] at h1 h2; omega))
  refine ⟨_, ?_, fun p hp => ⟨(h.all p hp).1, (h.all p hp).2.1, (h.all p hp).2.2.1⟩, h.apart, fun r h1 h2 hw => h.cover r h1 h2 ?_ ?_ hw⟩
  · unfold splitL
    show List.flatMap (cutW lo hi) [wds[0], wds[1], wds[2], wds[3], wds[4]] = _
    simp only [List.flatMap_cons, List.flatMap_nil, List.map_append, List.append_assoc, List.append_nil]
    exact congr (congrArg HAppend.hAppend e0) (congr (congrArg HAppend.hAppend e1) (congr (congrArg HAppend.hAppend e2) (congr (congrArg HAppend.hAppend e3) e4)))
  · have := (width_in hw).2; simp [wds]; omega
  · have := (width_in hw).2; simp [wds]; omega
end Go.Proofs.YtoihlfiacnljhaaX

namespace Go.Proofs.YtoihlfiacnljhaaX
open Go.RowKit Go.Proofs.YtoihlfiacnljhaaW.PrintWords Go.Proofs.YtoihlfiacnljhaaW.PrintLast Go.Proofs.YtoihlfiacnljhaaW.PrintMore
set_option linter.unusedVariables false
set_option linter.unusedSimpArgs false
def longV (b : Int) : Nat := if b ≤ 127 then 1 else if 194 ≤ b ∧ b < 224 then 2 else if 224 ≤ b ∧ b < 240 then 3 else if 240 ≤ b ∧ b < 245 then 4 else 0
def decL (s : ByteArray) (n : Nat) : Nat → Int → Nat → Int × Int
  | 0, x, _ => if widthF x = n then (x, (n : Int)) else (-1, 1)
  | d + 1, x, i => if 128 ≤ byteI s i ∧ byteI s i ≤ 191 then decL s n d (x * 64 + byteI s i % 64) (i + 1) else (-1, 1)
/-- The first rune, and how many bytes it has. -/
def decV (s : ByteArray) : Int × Int := if s.size = 0 then (-1, 0) else if longV (byteI s 0) = 0 ∨ s.size < longV (byteI s 0) then (-1, 1) else decL s (longV (byteI s 0)) (longV (byteI s 0) - 1) (byteI s 0 - leadV (longV (byteI s 0))) 1
theorem longV_le (b : Int) : longV b ≤ 4 := by unfold longV; repeat' split
                                               all_goals omega
theorem decV_starts {s : ByteArray} {n : Nat} {r : Int} (hr : widthF r = n) (hn : 1 ≤ n) (h : Starts s n r) : decV s = (r, (n : Int)) := by
  obtain ⟨hs, h⟩ := h
  unfold decV
  rw [if_neg (by omega)]
  rcases widthF_eq hr hn with ⟨rfl, h0⟩ | ⟨rfl, h0⟩ | ⟨rfl, h0⟩ | ⟨rfl, h0⟩
  · simp only [enc1, bytes1, List.cons.injEq, and_true] at h
    have e : longV (byteI s 0) = 1 := by unfold longV; rw [if_pos (by omega)]
    rw [e, if_neg (by omega), h]
    show decL s 1 0 (r - 0) 1 = _
    rw [Int.sub_zero, decL, if_pos hr]
  · simp only [enc2, bytes2, List.cons.injEq, and_true] at h
    have e : longV (byteI s 0) = 2 := by unfold longV; rw [if_neg (by omega), if_pos (by omega)]
    rw [e, if_neg (by omega)]
    show decL s 2 1 (byteI s 0 - 192) 1 = _
    rw [decL, if_pos (by omega), decL]
    have e2 : (byteI s 0 - 192) * 64 + byteI s 1 % 64 = r := by omega
    rw [e2, if_pos hr]
  · simp only [enc3, bytes3, List.cons.injEq, and_true] at h
    have e : longV (byteI s 0) = 3 := by unfold longV; rw [if_neg (by omega), if_neg (by omega), if_pos (by omega)]
    rw [e, if_neg (by omega)]
    show decL s 3 2 (byteI s 0 - 224) 1 = _
    simp only [decL, Nat.reduceAdd]
    have e2 : ((byteI s 0 - 224) * 64 + byteI s 1 % 64) * 64 + byteI s 2 % 64 = r := by omega
    rw [if_pos (by omega), if_pos (by omega), e2, if_pos hr]
  · simp only [enc4, bytes4, List.cons.injEq, and_true] at h
    have e : longV (byteI s 0) = 4 := by unfold longV; rw [if_neg (by omega), if_neg (by omega), if_neg (by omega), if_pos (by omega)]
    rw [e, if_neg (by omega)]
    show decL s 4 3 (byteI s 0 - 240) 1 = _
    simp only [decL, Nat.reduceAdd]
    have e2 : (((byteI s 0 - 240) * 64 + byteI s 1 % 64) * 64 + byteI s 2 % 64) * 64 + byteI s 3 % 64 = r := by omega
    rw [if_pos (by omega), if_pos (by omega), if_pos (by omega), e2, if_pos hr]
theorem decL_cases (s : ByteArray) (n : Nat) : ∀ (d : Nat) (x : Int) (i : Nat), decL s n d x i = (-1, 1) ∨ ∃ r, decL s n d x i = (r, (n : Int)) ∧ widthF r = n
  | 0, x, i => by
    unfold decL
    split
    · rename_i h; exact .inr ⟨x, rfl, h⟩
    · exact .inl rfl
  | d + 1, x, i => by
    unfold decL
    split
    · exact decL_cases s n d _ _
    · exact .inl rfl
theorem decV_cases (s : ByteArray) : (s.size = 0 ∧ decV s = (-1, 0)) ∨ (s.size ≠ 0 ∧ decV s = (-1, 1) ∧ ∀ r, widthF r ≠ 0 → ¬ Starts s (widthF r) r) ∨ (∃ r, 1 ≤ widthF r ∧ Starts s (widthF r) r ∧ decV s = (r, (widthF r : Int))) := by
  by_cases h0 : s.size = 0
  · exact .inl ⟨h0, by unfold decV; rw [if_pos h0]⟩
  by_cases hst : ∃ r, widthF r ≠ 0 ∧ Starts s (widthF r) r
  · obtain ⟨r, h1, h2⟩ := hst
    exact .inr (.inr ⟨r, by omega, h2, decV_starts rfl (by omega) h2⟩)
  refine .inr (.inl ⟨h0, ?_, fun r h1 h2 => hst ⟨r, h1, h2⟩⟩)
  unfold decV
  rw [if_neg h0]
  by_cases h1 : longV (byteI s 0) = 0 ∨ s.size < longV (byteI s 0)
  · rw [if_pos h1]
  rw [if_neg h1]
  have hn : longV (byteI s 0) ≤ s.size := by omega
  have hb := byteI_in s 0
  have key : ∀ r, ¬ (widthF r = longV (byteI s 0) ∧ bytesL s (longV (byteI s 0)) = encN (longV (byteI s 0)) r) := fun r h => hst ⟨r, by omega, by rw [h.1]; exact ⟨hn, h.2⟩⟩
  have hc : longV (byteI s 0) = 1 ∨ longV (byteI s 0) = 2 ∨ longV (byteI s 0) = 3 ∨ longV (byteI s 0) = 4 := by have := longV_le (byteI s 0); omega
  have hL : longV (byteI s 0) = if byteI s 0 ≤ 127 then 1 else if 194 ≤ byteI s 0 ∧ byteI s 0 < 224 then 2 else if 224 ≤ byteI s 0 ∧ byteI s 0 < 240 then 3 else if 240 ≤ byteI s 0 ∧ byteI s 0 < 245 then 4 else 0 := rfl
  generalize longV (byteI s 0) = n at *
  rcases hc with rfl | rfl | rfl | rfl
  · show decL s 1 0 (byteI s 0 - 0) 1 = _
    rw [decL, if_neg]
    exact fun e => key (byteI s 0 - 0) ⟨e, by rw [enc1, bytes1, Int.sub_zero]⟩
  · show decL s 2 1 (byteI s 0 - 192) 1 = _
    rw [decL]
    split
    · rename_i g
      rw [decL, if_neg]
      refine fun e => key _ ⟨e, ?_⟩
      simp only [enc2, bytes2, List.cons.injEq, and_true]
      omega
    · rfl
  · show decL s 3 2 (byteI s 0 - 224) 1 = _
    rw [decL]
    split
    · rename_i g
      rw [decL]
      split
      · rename_i g2
        rw [decL, if_neg]
        refine fun e => key _ ⟨e, ?_⟩
        simp only [enc3, bytes3, List.cons.injEq, and_true]
        simp only [Nat.reduceAdd] at g2 ⊢
        omega
      · rfl
    · rfl
  · show decL s 4 3 (byteI s 0 - 240) 1 = _
    rw [decL]
    split
    · rename_i g
      rw [decL]
      split
      · rename_i g2
        rw [decL]
        split
        · rename_i g3
          rw [decL, if_neg]
          refine fun e => key _ ⟨e, ?_⟩
          simp only [enc4, bytes4, List.cons.injEq, and_true]
          simp only [Nat.reduceAdd] at g2 g3 ⊢
          omega
        · rfl
      · rfl
    · rfl
/-! The bits of a byte. -/
theorem and192 : ∀ b : Fin 256, (bits .and .u8 ((b.val : Nat) : Int) 192 = 128) ↔ (128 ≤ b.val ∧ b.val ≤ 191) := by decide +kernel
theorem and63 : ∀ b : Fin 256, bits .and .u8 ((b.val : Nat) : Int) 63 = ((b.val % 64 : Nat) : Int) := by decide +kernel
theorem and192_iff {b : Int} (h : 0 ≤ b ∧ b ≤ 255) : (bits .and .u8 b 192 = 128) ↔ (128 ≤ b ∧ b ≤ 191) := by
  have := and192 ⟨b.toNat, by omega⟩
  simp only [show ((b.toNat : Nat) : Int) = b by omega] at this
  rw [this]
  omega
theorem and63_eq {b : Int} (h : 0 ≤ b ∧ b ≤ 255) : bits .and .u8 b 63 = b % 64 := by
  have := and63 ⟨b.toNat, by omega⟩
  simp only [show ((b.toNat : Nat) : Int) = b by omega] at this
  rw [this]
  omega
theorem xor1 : ∀ b : Fin 256, bits .xor .u8 ((b.val : Nat) : Int) 0 = (b.val : Int) := by decide +kernel
theorem xor2 : ∀ b : Fin 256, 192 ≤ b.val → b.val < 224 → bits .xor .u8 ((b.val : Nat) : Int) 192 = (b.val : Int) - 192 := by decide +kernel
theorem xor3 : ∀ b : Fin 256, 224 ≤ b.val → b.val < 240 → bits .xor .u8 ((b.val : Nat) : Int) 224 = (b.val : Int) - 224 := by decide +kernel
theorem xor4 : ∀ b : Fin 256, 240 ≤ b.val → b.val < 248 → bits .xor .u8 ((b.val : Nat) : Int) 240 = (b.val : Int) - 240 := by decide +kernel
theorem xor_lead {b : Int} (h : 0 ≤ b ∧ b ≤ 255) (h1 : longV b ≠ 0) : bits .xor .u8 b (leadV (longV b)) = b - leadV (longV b) ∧ 0 ≤ b - leadV (longV b) ∧ b - leadV (longV b) ≤ 127 := by
  have e : ((b.toNat : Nat) : Int) = b := by omega
  unfold longV at h1 ⊢
  split
  · have := xor1 ⟨b.toNat, by omega⟩
    simp only [e] at this
    exact ⟨by show bits .xor .u8 b 0 = b - 0; rw [this]; omega, by show 0 ≤ b - 0; omega, by show b - 0 ≤ 127; omega⟩
  · split
    · have := xor2 ⟨b.toNat, by omega⟩ (by simp only; omega) (by simp only; omega)
      simp only [e] at this
      exact ⟨this, by show 0 ≤ b - 192; omega, by show b - 192 ≤ 127; omega⟩
    · split
      · have := xor3 ⟨b.toNat, by omega⟩ (by simp only; omega) (by simp only; omega)
        simp only [e] at this
        exact ⟨this, by show 0 ≤ b - 224; omega, by show b - 224 ≤ 127; omega⟩
      · split
        · have := xor4 ⟨b.toNat, by omega⟩ (by simp only; omega) (by simp only; omega)
          simp only [e] at this
          exact ⟨this, by show 0 ≤ b - 240; omega, by show b - 240 ≤ 127; omega⟩
        · rename_i p q r t
          exact absurd (by rw [if_neg p, if_neg q, if_neg r, if_neg t]) h1
theorem bt_byteI (s : ByteArray) (i : Nat) : bt s (i : Int) = byteI s i := by unfold bt byteI; simp
theorem or_six {x m : Int} (h0 : 0 ≤ x) (h1 : x ≤ 1000000000) (h2 : 0 ≤ m) (h3 : m < 64) : bits .or .i64 (x * 64) m = x * 64 + m := bits_join .i64 62 (by decide) wraps_i64 6 (x * 64) m (by omega) (by omega) (by omega) h2 (by omega) (by omega)
/-- The number that so many bytes at the front would say. -/
def saidV (s : ByteArray) : Nat → Int
  | 1 => byteI s 0
  | 2 => byteI s 0 % 32 * 64 + byteI s 1 % 64
  | 3 => byteI s 0 % 16 * 4096 + byteI s 1 % 64 * 64 + byteI s 2 % 64
  | _ => byteI s 0 % 8 * 262144 + byteI s 1 % 64 * 4096 + byteI s 2 % 64 * 64 + byteI s 3 % 64
theorem said_starts {s : ByteArray} {n : Nat} {r : Int} (hr : widthF r = n) (hn : 1 ≤ n) (h : Starts s n r) : saidV s n = r := by
  obtain ⟨hs, h⟩ := h
  rcases widthF_eq hr hn with ⟨rfl, h0⟩ | ⟨rfl, h0⟩ | ⟨rfl, h0⟩ | ⟨rfl, h0⟩
  · simp only [enc1, bytes1, List.cons.injEq, and_true] at h
    exact h
  · simp only [enc2, bytes2, List.cons.injEq, and_true] at h
    simp only [saidV]
    omega
  · simp only [enc3, bytes3, List.cons.injEq, and_true] at h
    simp only [saidV]
    omega
  · simp only [enc4, bytes4, List.cons.injEq, and_true] at h
    simp only [saidV]
    omega
theorem nums_eq : ∀ {L : List Int} (h : ∀ x ∈ L, 0 ≤ x ∧ x ≤ 255) (T : List UInt8), (L.map fun n => UInt8.ofNat n.toNat) = T ↔ L = T.map fun b => ((b.toNat : Nat) : Int)
  | [], _, T => by cases T <;> simp
  | x :: L, h, [] => by simp
  | x :: L, h, b :: T => by
    have hx := h x (by simp)
    rw [List.map_cons, List.map_cons, List.cons.injEq, List.cons.injEq, nums_eq (fun y hy => h y (by simp [hy])) T]
    refine and_congr_left fun _ => ⟨fun e => ?_, fun e => ?_⟩
    · subst e
      rw [UInt8.toNat_ofNat']
      omega
    · subst e
      simp
theorem bytesL_eq {s : ByteArray} {n : Nat} (h : n ≤ s.size) : bytesL s n = (s.data.toList.take n).map fun b => ((b.toNat : Nat) : Int) := by
  have hl : s.data.toList.length = s.size := by rw [Array.length_toList]; rfl
  apply List.ext_getElem (by simp [bytesL]; omega)
  intro k h1 h2
  have hk : k < n := by simpa [bytesL] using h1
  have hk2 : k < s.size := by omega
  simp only [bytesL, List.getElem_map, List.getElem_range, List.getElem_take]
  unfold byteI
  rw [dif_pos hk2]
  rfl
theorem starts_text {s : ByteArray} {n : Nat} {r : Int} (hr : widthF r ≠ 0) (hs : n ≤ s.size) : (strOfNums (encN (widthF r) r)).toList = (s.extract 0 n).toList ↔ widthF r = n ∧ Starts s n r := by
  have hri := width_in hr
  have hin := encN_in hri.1 rfl hri.2
  have hl : s.data.toList.length = s.size := by rw [Array.length_toList]; rfl
  rw [ByteArray.toList_eq, ByteArray.toList_eq]
  have e1 : (strOfNums (encN (widthF r) r)).data.toList = (encN (widthF r) r).map fun n => UInt8.ofNat n.toNat := rfl
  have e2 : (s.extract 0 n).data.toList = s.data.toList.take n := by
    rw [ByteArray.data_extract]
    simp [List.extract_eq_take_drop]
  rw [e1, e2, nums_eq hin, ← bytesL_eq hs]
  constructor
  · intro h
    have hw : widthF r = n := by
      have := congrArg List.length h
      rw [encN_len _ hri.1.1] at this
      simpa [bytesL] using this
    exact ⟨hw, hs, by rw [← h, hw]⟩
  · rintro ⟨rfl, _, h⟩
    exact h.symm
end Go.Proofs.YtoihlfiacnljhaaX
