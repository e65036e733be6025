import Derived.Test.YtoihlfiacnljhaaXBandsParted
import Derived.Test.YtoihlfiacnljhaaXBandsEncode
namespace Go.Proofs.YtoihlfiacnljhaaX
open Go.RowKit Go.Proofs.YtoihlfiacnljhaaW.PrintWords Go.Proofs.YtoihlfiacnljhaaW.PrintLast Go.Proofs.YtoihlfiacnljhaaW.PrintMore
set_option linter.unusedVariables false
set_option linter.unusedSimpArgs false
/-- Runes of one width, one behind the other. -/
structure OneW (n : Nat) (lo hi : Int) : Prop where
  n1 : 1 ≤ n ∧ n ≤ 4
  le : lo ≤ hi
  inr : 0 ≤ lo ∧ hi ≤ 1114111
  w1 : n = 1 → hi ≤ 127
  w2 : n = 2 → 128 ≤ lo ∧ hi ≤ 2047
  w3 : n = 3 → 2048 ≤ lo ∧ hi ≤ 65535 ∧ (hi < 55296 ∨ 57343 < lo)
  w4 : n = 4 → 65536 ≤ lo
theorem OneW.width {n : Nat} {lo hi x : Int} (h : OneW n lo hi) (h1 : lo ≤ x) (h2 : x ≤ hi) : widthF x = n := by
  have := h.inr
  have := h.n1
  have hc : n = 1 ∨ n = 2 ∨ n = 3 ∨ n = 4 := by omega
  unfold widthF
  rcases hc with rfl | rfl | rfl | rfl
  · have := h.w1 rfl
    rw [if_neg (by omega), if_pos (by omega)]
  · have := h.w2 rfl
    rw [if_neg (by omega), if_neg (by omega), if_pos (by omega)]
  · have := h.w3 rfl
    rw [if_neg (by omega), if_neg (by omega), if_neg (by omega), if_pos (by omega)]
  · have := h.w4 rfl
    rw [if_neg (by omega), if_neg (by omega), if_neg (by omega), if_neg (by omega)]
theorem OneW.sub {n : Nat} {lo hi a b : Int} (h : OneW n lo hi) (h1 : lo ≤ a) (h2 : a ≤ b) (h3 : b ≤ hi) : OneW n a b := by
  have := h.inr
  refine ⟨h.n1, h2, by omega, fun e => ?_, fun e => ?_, fun e => ?_, fun e => ?_⟩
  · have := h.w1 e; omega
  · have := h.w2 e; omega
  · have := h.w3 e; omega
  · have := h.w4 e; omega
theorem partG_cases {lo hi : Int} (h0 : 0 ≤ lo) (h1 : lo ≤ hi) : ∀ ps : List Int, (∀ p ∈ ps, p = 64 ∨ p = 4096 ∨ p = 262144) → partG lo hi ps = ((lo, hi), (lo, hi)) ∨ ∃ m, lo ≤ m ∧ m < hi ∧ partG lo hi ps = ((lo, m), (m + 1, hi))
  | [], _ => .inl rfl
  | p :: ps, hp => by
    have ih := partG_cases h0 h1 ps (fun q hq => hp q (by simp [hq]))
    unfold partG
    by_cases c1 : lo - lo % p = hi - hi % p
    · rw [if_pos c1]; exact ih
    · rw [if_neg c1]
      by_cases c2 : lo % p ≠ 0
      · rw [if_pos c2]
        refine .inr ⟨lo - lo % p + (p - 1), ?_, ?_, rfl⟩
        · rcases hp p (by simp) with rfl | rfl | rfl <;> omega
        · rcases hp p (by simp) with rfl | rfl | rfl <;> omega
      · rw [if_neg c2]
        by_cases c3 : hi % p ≠ p - 1
        · rw [if_pos c3]
          refine .inr ⟨hi - hi % p - 1, ?_, ?_, ?_⟩
          · rcases hp p (by simp) with rfl | rfl | rfl <;> omega
          · rcases hp p (by simp) with rfl | rfl | rfl <;> omega
          · rw [show hi - hi % p - 1 + 1 = hi - hi % p by omega]
        · rw [if_neg c3]; exact ih
theorem psOf_in (n : Nat) : ∀ p ∈ psOf n, p = 64 ∨ p = 4096 ∨ p = 262144 := by
  intro p hp
  match n, hp with
  | 0, hp => simp [psOf] at hp
  | 1, hp => simp [psOf] at hp
  | 2, hp => simp [psOf] at hp; exact .inl hp
  | 3, hp => simp [psOf] at hp; omega
  | 4, hp => simp [psOf] at hp; omega
  | n + 5, hp => simp [psOf] at hp
/-- The sequence of a range that is one. -/
def seqOf (n : Nat) (lo hi : Int) : List (Int × Int) := (encN n lo).zip (encN n hi)
/-- A range's sequences. -/
def partL (n : Nat) (lo hi : Int) : List (List (Int × Int)) :=
  if h : lo ≤ (partG lo hi (psOf n)).1.2 ∧ (partG lo hi (psOf n)).1.2 < hi then partL n lo (partG lo hi (psOf n)).1.2 ++ partL n ((partG lo hi (psOf n)).1.2 + 1) hi else [seqOf n lo hi]
termination_by (hi - lo).toNat
decreasing_by all_goals omega
theorem partL_one {n : Nat} {lo hi : Int} (h : partG lo hi (psOf n) = ((lo, hi), (lo, hi))) : partL n lo hi = [seqOf n lo hi] := by
  rw [partL, h]
  rw [dif_neg (by simp)]
theorem partL_two {n : Nat} {lo hi m : Int} (h1 : lo ≤ m) (h2 : m < hi) (h : partG lo hi (psOf n) = ((lo, m), (m + 1, hi))) : partL n lo hi = partL n lo m ++ partL n (m + 1) hi := by
  conv => lhs; rw [partL]
  rw [h]
  rw [dif_pos ⟨h1, h2⟩]
theorem partL_len (n : Nat) : ∀ (d : Nat) (lo hi : Int), (hi - lo).toNat ≤ d → (partL n lo hi).length ≤ (hi - lo).toNat + 1
  | d, lo, hi, hd => by
    rw [partL]
    split
    · rename_i h
      have h1 := partL_len n (d - 1) lo (partG lo hi (psOf n)).1.2 (by omega)
      have h2 := partL_len n (d - 1) ((partG lo hi (psOf n)).1.2 + 1) hi (by omega)
      rw [List.length_append]
      omega
    · simp
termination_by d lo hi => (hi - lo).toNat
decreasing_by all_goals omega
theorem encN_len (n : Nat) (hn : 1 ≤ n) (r : Int) : (encN n r).length = n := by
  simp [encN]; omega
theorem width_le {n : Nat} {r : Int} (hw : widthF r = n) : (n = 1 → r ≤ 127) ∧ (n = 2 → r ≤ 2047) ∧ (n = 3 → r ≤ 65535) := by
  unfold widthF at hw
  repeat' split at hw
  all_goals omega
theorem width_in {r : Int} (h : widthF r ≠ 0) : (1 ≤ widthF r ∧ widthF r ≤ 4) ∧ 0 ≤ r ∧ r ≤ 1114111 := by
  unfold widthF at h ⊢
  repeat' split at h
  all_goals first | omega | (repeat' split) <;> omega
theorem encN_in {n : Nat} {r : Int} (hn : 1 ≤ n ∧ n ≤ 4) (hw : widthF r = n) (hr : 0 ≤ r ∧ r ≤ 1114111) : ∀ x ∈ encN n r, 0 ≤ x ∧ x ≤ 255 := by
  intro x hx
  unfold encN at hx
  rw [List.mem_cons] at hx
  rcases hx with rfl | hx
  · have hl := width_le hw
    have hc : n = 1 ∨ n = 2 ∨ n = 3 ∨ n = 4 := by omega
    rcases hc with rfl | rfl | rfl | rfl
    · have := hl.1 rfl
      simp [leadV]; omega
    · have := hl.2.1 rfl
      simp [leadV]; omega
    · have := hl.2.2 rfl
      simp [leadV]; omega
    · simp [leadV]; omega
  · obtain ⟨i, _, rfl⟩ := List.mem_map.1 hx
    generalize r / 64 ^ (n - 2 - i) = q
    omega
theorem seqOf_len {n : Nat} (hn : 1 ≤ n) (lo hi : Int) : (seqOf n lo hi).length = n := by
  simp [seqOf, encN_len n hn]
theorem seqOf_at {n : Nat} (hn : 1 ≤ n) (lo hi : Int) (k : Nat) (hk : k < n) : (seqOf n lo hi)[k]'(by rw [seqOf_len hn]; exact hk) = ((encN n lo)[k]'(by rw [encN_len n hn]; exact hk), (encN n hi)[k]'(by rw [encN_len n hn]; exact hk)) := by
  simp [seqOf]
end Go.Proofs.YtoihlfiacnljhaaX
