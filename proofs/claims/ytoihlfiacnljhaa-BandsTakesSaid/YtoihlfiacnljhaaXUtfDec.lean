import Derived.Test.YtoihlfiacnljhaaXBandsMath
namespace Go.Proofs.YtoihlfiacnljhaaX
open Go.RowKit Go.Proofs.YtoihlfiacnljhaaW.PrintWords Go.Proofs.YtoihlfiacnljhaaW.PrintLast Go.Proofs.YtoihlfiacnljhaaW.PrintMore
set_option linter.unusedVariables false
set_option linter.unusedSimpArgs false
def longV (b : Int) : Nat := if b ≤ 127 then 1 else if 194 ≤ b ∧ b < 224 then 2 else if 224 ≤ b ∧ b < 240 then 3 else if 240 ≤ b ∧ b < 245 then 4 else 0
def decL (s : ByteArray) (n : Nat) : Nat → Int → Nat → Int × Int
  | 0, x, _ => if widthF x = n then (x, (n : Int)) else (-1, 1)
  | d + 1, x, i => if 128 ≤ byteI s i ∧ byteI s i ≤ 191 then decL s n d (x * 64 + byteI s i % 64) (i + 1) else (-1, 1)
/-- The first rune, and how many bytes it has. -/
def decV (s : ByteArray) : Int × Int := if s.size = 0 then (-1, 0) else if longV (byteI s 0) = 0 ∨ s.size < longV (byteI s 0) then (-1, 1) else decL s (longV (byteI s 0)) (longV (byteI s 0) - 1) (byteI s 0 - leadV (longV (byteI s 0))) 1
theorem longV_le (b : Int) : longV b ≤ 4 := by unfold longV; repeat' split
                                               all_goals omega
theorem decV_starts {s : ByteArray} {n : Nat} {r : Int} (hr : widthF r = n) (hn : 1 ≤ n) (h : Starts s n r) : decV s = (r, (n : Int)) := by
  obtain ⟨hs, h⟩ := h
  unfold decV
  rw [if_neg (by omega)]
  rcases widthF_eq hr hn with ⟨rfl, h0⟩ | ⟨rfl, h0⟩ | ⟨rfl, h0⟩ | ⟨rfl, h0⟩
  · simp only [enc1, bytes1, List.cons.injEq, and_true] at h
    have e : longV (byteI s 0) = 1 := by unfold longV; rw [if_pos (by omega)]
    rw [e, if_neg (by omega), h]
    show decL s 1 0 (r - 0) 1 = _
    rw [Int.sub_zero, decL, if_pos hr]
  · simp only [enc2, bytes2, List.cons.injEq, and_true] at h
    have e : longV (byteI s 0) = 2 := by unfold longV; rw [if_neg (by omega), if_pos (by omega)]
    rw [e, if_neg (by omega)]
    show decL s 2 1 (byteI s 0 - 192) 1 = _
    rw [decL, if_pos (by omega), decL]
    have e2 : (byteI s 0 - 192) * 64 + byteI s 1 % 64 = r := by omega
    rw [e2, if_pos hr]
  · simp only [enc3, bytes3, List.cons.injEq, and_true] at h
    have e : longV (byteI s 0) = 3 := by unfold longV; rw [if_neg (by omega), if_neg (by omega), if_pos (by omega)]
    rw [e, if_neg (by omega)]
    show decL s 3 2 (byteI s 0 - 224) 1 = _
    simp only [decL, Nat.reduceAdd]
    have e2 : ((byteI s 0 - 224) * 64 + byteI s 1 % 64) * 64 + byteI s 2 % 64 = r := by omega
    rw [if_pos (by omega), if_pos (by omega), e2, if_pos hr]
  · simp only [enc4, bytes4, List.cons.injEq, and_true] at h
    have e : longV (byteI s 0) = 4 := by unfold longV; rw [if_neg (by omega), if_neg (by omega), if_neg (by omega), if_pos (by omega)]
    rw [e, if_neg (by omega)]
    show decL s 4 3 (byteI s 0 - 240) 1 = _
    simp only [decL, Nat.reduceAdd]
    have e2 : (((byteI s 0 - 240) * 64 + byteI s 1 % 64) * 64 + byteI s 2 % 64) * 64 + byteI s 3 % 64 = r := by omega
    rw [if_pos (by omega), if_pos (by omega), if_pos (by omega), e2, if_pos hr]
theorem decL_cases (s : ByteArray) (n : Nat) : ∀ (d : Nat) (x : Int) (i : Nat), decL s n d x i = (-1, 1) ∨ ∃ r, decL s n d x i = (r, (n : Int)) ∧ widthF r = n
  | 0, x, i => by
    unfold decL
    split
    · rename_i h; exact .inr ⟨x, rfl, h⟩
    · exact .inl rfl
  | d + 1, x, i => by
    unfold decL
    split
    · exact decL_cases s n d _ _
    · exact .inl rfl
theorem decV_cases (s : ByteArray) : (s.size = 0 ∧ decV s = (-1, 0)) ∨ (s.size ≠ 0 ∧ decV s = (-1, 1) ∧ ∀ r, widthF r ≠ 0 → ¬ Starts s (widthF r) r) ∨ (∃ r, 1 ≤ widthF r ∧ Starts s (widthF r) r ∧ decV s = (r, (widthF r : Int))) := by
  by_cases h0 : s.size = 0
  · exact .inl ⟨h0, by unfold decV; rw [if_pos h0]⟩
  by_cases hst : ∃ r, widthF r ≠ 0 ∧ Starts s (widthF r) r
  · obtain ⟨r, h1, h2⟩ := hst
    exact .inr (.inr ⟨r, by omega, h2, decV_starts rfl (by omega) h2⟩)
  refine .inr (.inl ⟨h0, ?_, fun r h1 h2 => hst ⟨r, h1, h2⟩⟩)
  unfold decV
  rw [if_neg h0]
  by_cases h1 : longV (byteI s 0) = 0 ∨ s.size < longV (byteI s 0)
  · rw [if_pos h1]
  rw [if_neg h1]
  have hn : longV (byteI s 0) ≤ s.size := by omega
  have hb := byteI_in s 0
  have key : ∀ r, ¬ (widthF r = longV (byteI s 0) ∧ bytesL s (longV (byteI s 0)) = encN (longV (byteI s 0)) r) := fun r h => hst ⟨r, by omega, by rw [h.1]; exact ⟨hn, h.2⟩⟩
  have hc : longV (byteI s 0) = 1 ∨ longV (byteI s 0) = 2 ∨ longV (byteI s 0) = 3 ∨ longV (byteI s 0) = 4 := by have := longV_le (byteI s 0); omega
  have hL : longV (byteI s 0) = if byteI s 0 ≤ 127 then 1 else if 194 ≤ byteI s 0 ∧ byteI s 0 < 224 then 2 else if 224 ≤ byteI s 0 ∧ byteI s 0 < 240 then 3 else if 240 ≤ byteI s 0 ∧ byteI s 0 < 245 then 4 else 0 := rfl
  generalize longV (byteI s 0) = n at *
  rcases hc with rfl | rfl | rfl | rfl
  · show decL s 1 0 (byteI s 0 - 0) 1 = _
    rw [decL, if_neg]
    exact fun e => key (byteI s 0 - 0) ⟨e, by rw [enc1, bytes1, Int.sub_zero]⟩
  · show decL s 2 1 (byteI s 0 - 192) 1 = _
    rw [decL]
    split
    · rename_i g
      rw [decL, if_neg]
      refine fun e => key _ ⟨e, ?_⟩
      simp only [enc2, bytes2, List.cons.injEq, and_true]
      omega
    · rfl
  · show decL s 3 2 (byteI s 0 - 224) 1 = _
    rw [decL]
    split
    · rename_i g
      rw [decL]
      split
      · rename_i g2
        rw [decL, if_neg]
        refine fun e => key _ ⟨e, ?_⟩
        simp only [enc3, bytes3, List.cons.injEq, and_true]
        simp only [Nat.reduceAdd] at g2 ⊢
        omega
      · rfl
    · rfl
  · show decL s 4 3 (byteI s 0 - 240) 1 = _
    rw [decL]
    split
    · rename_i g
      rw [decL]
      split
      · rename_i g2
        rw [decL]
        split
        · rename_i g3
          rw [decL, if_neg]
          refine fun e => key _ ⟨e, ?_⟩
          simp only [enc4, bytes4, List.cons.injEq, and_true]
          simp only [Nat.reduceAdd] at g2 g3 ⊢
          omega
        · rfl
      · rfl
    · rfl
/-! The bits of a byte. -/
theorem and192 : ∀ b : Fin 256, (bits .and .u8 ((b.val : Nat) : Int) 192 = 128) ↔ (128 ≤ b.val ∧ b.val ≤ 191) := by decide +kernel
theorem and63 : ∀ b : Fin 256, bits .and .u8 ((b.val : Nat) : Int) 63 = ((b.val % 64 : Nat) : Int) := by decide +kernel
theorem and192_iff {b : Int} (h : 0 ≤ b ∧ b ≤ 255) : (bits .and .u8 b 192 = 128) ↔ (128 ≤ b ∧ b ≤ 191) := by
  have := and192 ⟨b.toNat, by omega⟩
  simp only [show ((b.toNat : Nat) : Int) = b by omega] at this
  rw [this]
  omega
theorem and63_eq {b : Int} (h : 0 ≤ b ∧ b ≤ 255) : bits .and .u8 b 63 = b % 64 := by
  have := and63 ⟨b.toNat, by omega⟩
  simp only [show ((b.toNat : Nat) : Int) = b by omega] at this
  rw [this]
  omega
theorem xor1 : ∀ b : Fin 256, bits .xor .u8 ((b.val : Nat) : Int) 0 = (b.val : Int) := by decide +kernel
theorem xor2 : ∀ b : Fin 256, 192 ≤ b.val → b.val < 224 → bits .xor .u8 ((b.val : Nat) : Int) 192 = (b.val : Int) - 192 := by decide +kernel
theorem xor3 : ∀ b : Fin 256, 224 ≤ b.val → b.val < 240 → bits .xor .u8 ((b.val : Nat) : Int) 224 = (b.val : Int) - 224 := by decide +kernel
theorem xor4 : ∀ b : Fin 256, 240 ≤ b.val → b.val < 248 → bits .xor .u8 ((b.val : Nat) : Int) 240 = (b.val : Int) - 240 := by decide +kernel
theorem xor_lead {b : Int} (h : 0 ≤ b ∧ b ≤ 255) (h1 : longV b ≠ 0) : bits .xor .u8 b (leadV (longV b)) = b - leadV (longV b) ∧ 0 ≤ b - leadV (longV b) ∧ b - leadV (longV b) ≤ 127 := by
  have e : ((b.toNat : Nat) : Int) = b := by omega
  unfold longV at h1 ⊢
  split
  · have := xor1 ⟨b.toNat, by omega⟩
    simp only [e] at this
    exact ⟨by show bits .xor .u8 b 0 = b - 0; rw [this]; omega, by show 0 ≤ b - 0; omega, by show b - 0 ≤ 127; omega⟩
  · split
    · have := xor2 ⟨b.toNat, by omega⟩ (by simp only; omega) (by simp only; omega)
      simp only [e] at this
      exact ⟨this, by show 0 ≤ b - 192; omega, by show b - 192 ≤ 127; omega⟩
    · split
      · have := xor3 ⟨b.toNat, by omega⟩ (by simp only; omega) (by simp only; omega)
        simp only [e] at this
        exact ⟨this, by show 0 ≤ b - 224; omega, by show b - 224 ≤ 127; omega⟩
      · split
        · have := xor4 ⟨b.toNat, by omega⟩ (by simp only; omega) (by simp only; omega)
          simp only [e] at this
          exact ⟨this, by show 0 ≤ b - 240; omega, by show b - 240 ≤ 127; omega⟩
        · rename_i p q r t
          exact absurd (by rw [if_neg p, if_neg q, if_neg r, if_neg t]) h1
theorem bt_byteI (s : ByteArray) (i : Nat) : bt s (i : Int) = byteI s i := by unfold bt byteI; simp
theorem or_six {x m : Int} (h0 : 0 ≤ x) (h1 : x ≤ 1000000000) (h2 : 0 ≤ m) (h3 : m < 64) : bits .or .i64 (x * 64) m = x * 64 + m := bits_join .i64 62 (by decide) wraps_i64 6 (x * 64) m (by omega) (by omega) (by omega) h2 (by omega) (by omega)
end Go.Proofs.YtoihlfiacnljhaaX
