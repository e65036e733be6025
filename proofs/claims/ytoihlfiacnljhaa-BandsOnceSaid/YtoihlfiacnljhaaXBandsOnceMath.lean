import Derived.Test.YtoihlfiacnljhaaXBandsRev
import Derived.Sort.Walk0
namespace Go.Proofs.YtoihlfiacnljhaaX
open Go.RowKit Go.Proofs.YtoihlfiacnljhaaW.PrintWords Go.Proofs.YtoihlfiacnljhaaW.PrintLast Go.Proofs.YtoihlfiacnljhaaW.PrintMore
set_option linter.unusedVariables false
set_option linter.unusedSimpArgs false
/-- One list of bytes ahead of another. -/
def lessI : List Int → List Int → Bool
  | _, [] => false
  | [], _ :: _ => true
  | a :: x, b :: y => decide (a < b) || (decide (a = b) && lessI x y)
theorem less_map : ∀ {L M : List Int}, (∀ x ∈ L, 0 ≤ x ∧ x ≤ 255) → (∀ x ∈ M, 0 ≤ x ∧ x ≤ 255) → Op.bytesLess (L.map fun n => UInt8.ofNat n.toNat) (M.map fun n => UInt8.ofNat n.toNat) = lessI L M
  | _, [], _, _ => by simp [Op.bytesLess, lessI]
  | [], _ :: _, _, _ => rfl
  | a :: x, b :: y, hL, hM => by
    have ha := hL a (by simp)
    have hb := hM b (by simp)
    rw [List.map_cons, List.map_cons, Op.bytesLess, lessI, less_map (fun z hz => hL z (by simp [hz])) (fun z hz => hM z (by simp [hz]))]
    have e1 : (UInt8.ofNat a.toNat).toNat = a.toNat := by rw [UInt8.toNat_ofNat']; omega
    have e2 : (UInt8.ofNat b.toNat).toNat = b.toNat := by rw [UInt8.toNat_ofNat']; omega
    congr 1
    · rw [Bool.eq_iff_iff, decide_eq_true_eq, decide_eq_true_eq, UInt8.lt_iff_toNat_lt, e1, e2]
      omega
    · congr 1
      rw [Bool.eq_iff_iff, beq_iff_eq, decide_eq_true_eq, ← UInt8.toNat_inj, e1, e2]
      omega
theorem str_less {L M : List Int} (hL : ∀ x ∈ L, 0 ≤ x ∧ x ≤ 255) (hM : ∀ x ∈ M, 0 ≤ x ∧ x ≤ 255) (h : lessI M L = true) : (Op.bytesLess (strOfNums L).toList (strOfNums M).toList || (strOfNums L).toList == (strOfNums M).toList) = false := by
  have e : ∀ L : List Int, (strOfNums L).toList = L.map fun n => UInt8.ofNat n.toNat := fun L => by rw [ByteArray.toList_eq]; rfl
  rw [e, e]
  have h2 := less_map hM hL
  rw [h, bytesLess_eq, decide_eq_true_eq] at h2
  rw [bytesLess_eq]
  have h3 : ¬ (L.map fun n => UInt8.ofNat n.toNat) < (M.map fun n => UInt8.ofNat n.toNat) := fun g => List.lt_asymm h2 g
  have h4 : ¬ (L.map fun n => UInt8.ofNat n.toNat) = (M.map fun n => UInt8.ofNat n.toNat) := fun g => by rw [g] at h2; exact List.lt_irrefl _ h2
  rw [decide_eq_false h3, Bool.false_or]
  simpa using h4
theorem enc_less {a b : Int} (h : a < b) (ha : widthF a ≠ 0) (hb : widthF b ≠ 0) : lessI (encN (widthF a) a) (encN (widthF b) b) = true := by
  rcases widthF_eq rfl (show 1 ≤ widthF a by omega) with ⟨e, h0⟩ | ⟨e, h0⟩ | ⟨e, h0⟩ | ⟨e, h0⟩ <;> rcases widthF_eq rfl (show 1 ≤ widthF b by omega) with ⟨e', h1⟩ | ⟨e', h1⟩ | ⟨e', h1⟩ | ⟨e', h1⟩ <;> rw [e, e'] <;>
  first
    | (exfalso; omega)
    | (simp only [enc1, enc2, enc3, enc4, lessI, Bool.or_eq_true, Bool.and_eq_true, decide_eq_true_eq, Bool.and_false, Bool.or_false]; omega)
/-- How many of the sequences take a text. -/
def cntT (s : ByteArray) (X : List (List (Int × Int))) : Nat := X.countP (takesF s)
theorem cnt_le {P : List (Nat × Int × Int)} (hP : ∀ p ∈ P, Piece p) (hA : P.Pairwise fun p q => p.2.2 < q.2.1) (s : ByteArray) : cntT s (P.map seq3) ≤ 1 := by
  induction P with
  | nil => simp [cntT]
  | cons x t ih =>
    have hx := hP x (by simp)
    have ht := List.pairwise_cons.1 hA
    have ih := ih (fun p hp => hP p (by simp [hp])) ht.2
    unfold cntT at *
    rw [List.map_cons, List.countP_cons]
    by_cases h : takesF s (seq3 x) = true
    · obtain ⟨r, h1, h2, h3⟩ := (hx.takes s).1 h
      have : List.countP (takesF s) (t.map seq3) = 0 := by
        rw [List.countP_eq_zero]
        intro q hq hT
        obtain ⟨p, hp, rfl⟩ := List.mem_map.1 hq
        have hpp := hP p (by simp [hp])
        obtain ⟨r', g1, g2, g3⟩ := (hpp.takes s).1 hT
        have := (h3.unique (hx.w.width h1 h2) hx.w.n1.1 g3 (hpp.w.width g1 g2) hpp.w.n1.1).2
        have := ht.1 p hp
        omega
      rw [this, if_pos h]
      omega
    · rw [if_neg h]
      omega
/-- What a piece's sequence is, range by range. -/
theorem piece_at {p : Nat × Int × Int} (h : Piece p) (j : Nat) (hj : j < p.1) : ∃ b : Int, (seq3 p)[j]? = some ((encN p.1 p.2.1)[j]'(by rw [encN_len _ h.w.n1.1]; exact hj), b) ∧ 0 ≤ (encN p.1 p.2.1)[j]'(by rw [encN_len _ h.w.n1.1]; exact hj) ∧ (encN p.1 p.2.1)[j]'(by rw [encN_len _ h.w.n1.1]; exact hj) ≤ b ∧ b ≤ 255 := by
  obtain ⟨n, lo, hi⟩ := p
  have hw : OneW n lo hi := h.w
  have hr := hw.inr
  have hle := hw.le
  have hwl := hw.width (Int.le_refl _) hle
  have hwh := hw.width hle (Int.le_refl _)
  have hll := encN_len n hw.n1.1 lo
  have hlh := encN_len n hw.n1.1 hi
  have hil := encN_in hw.n1 hwl ⟨hr.1, by omega⟩
  have hih := encN_in hw.n1 hwh ⟨by omega, hr.2⟩
  have hq : (seq3 (n, lo, hi))[j]? = some ((encN n lo)[j]'(by omega), (encN n hi)[j]'(by omega)) := by
    have := seqOf_at hw.n1.1 lo hi j hj
    show (seqOf n lo hi)[j]? = _
    rw [List.getElem?_eq_getElem (by rw [seqOf_len hw.n1.1]; exact hj), this]
  have hst : Starts (strOfNums (encN n lo)) n lo := by
    have := starts_nums0 (r := lo) (by omega)
    rwa [hwl] at this
  have ht := (takes_iff _ _).1 ((h.takes (strOfNums (encN n lo))).2 ⟨lo, Int.le_refl _, hle, hst⟩)
  have hb := ht.2.2 j _ hq
  rw [byteI_num hil j (by omega)] at hb
  exact ⟨_, hq, (hil _ (List.getElem_mem _)).1, hb.2, (hih _ (List.getElem_mem _)).2⟩
end Go.Proofs.YtoihlfiacnljhaaX
