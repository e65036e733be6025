import Derived.Test.YtoihlfiacnljhaaXBandsA
import Derived.Test.YtoihlfiacnljhaaXRangesA
namespace Go.Proofs.YtoihlfiacnljhaaX
open Go.RowKit Go.Proofs.YtoihlfiacnljhaaW.PrintWords Go.Proofs.YtoihlfiacnljhaaW.PrintLast Go.Proofs.YtoihlfiacnljhaaW.PrintMore
set_option linter.unusedVariables false
set_option linter.unusedSimpArgs false
/-- A set's sequences. -/
def ofL (l : List (Int × Int)) : List (List (Int × Int)) := (normL l).flatMap fun x => splitL x.1 x.2
structure OfP (m : List (Int × Int)) (P : List (Nat × Int × Int)) : Prop where
  all : ∀ p ∈ P, Piece p ∧ ∃ x ∈ m, x.1 ≤ p.2.1 ∧ p.2.2 ≤ x.2
  apart : P.Pairwise (fun p q => p.2.2 < q.2.1)
  cover : ∀ r, widthF r ≠ 0 → inL m r = true → ∃ p ∈ P, p.2.1 ≤ r ∧ r ≤ p.2.2
theorem of_pieces : ∀ m : List (Int × Int), Nrm m → ∃ P, (m.flatMap fun x => splitL x.1 x.2) = P.map seq3 ∧ OfP m P
  | [], _ => ⟨[], rfl, fun p hp => by simp at hp, List.Pairwise.nil, fun r _ h => by simp [inL] at h⟩
  | x :: t, h => by
    obtain ⟨Q, e, q⟩ := of_pieces t h.tail
    obtain ⟨P, e', p⟩ := splitL_pieces x.1 x.2
    have hap := (List.pairwise_cons.1 h.apart).1
    refine ⟨P ++ Q, by rw [List.flatMap_cons, e, e', List.map_append], fun y hy => ?_, List.pairwise_append.2 ⟨p.apart, q.apart, fun a ha b hb => ?_⟩, fun r hw hr => ?_⟩
    · rcases List.mem_append.1 hy with hy | hy
      · exact ⟨(p.all y hy).1, x, by simp, (p.all y hy).2⟩
      · obtain ⟨h1, z, hz, h2⟩ := q.all y hy
        exact ⟨h1, z, by simp [hz], h2⟩
    · obtain ⟨_, _, h1⟩ := p.all a ha
      obtain ⟨_, z, hz, h2, _⟩ := q.all b hb
      have := hap z hz
      omega
    · rw [inL_cons] at hr
      rw [Bool.or_eq_true] at hr
      rcases hr with hr | hr
      · simp only [Bool.and_eq_true, decide_eq_true_eq] at hr
        obtain ⟨a, ha, h1⟩ := p.cover r hr.1 hr.2 hw
        exact ⟨a, by simp [ha], h1⟩
      · obtain ⟨a, ha, h1⟩ := q.cover r hw hr
        exact ⟨a, by simp [ha], h1⟩
theorem OfP.back {m : List (Int × Int)} {P : List (Nat × Int × Int)} (h : OfP m P) {p : Nat × Int × Int} (hp : p ∈ P) {r : Int} (h1 : p.2.1 ≤ r) (h2 : r ≤ p.2.2) : inL m r = true := by
  obtain ⟨_, x, hx, h3, h4⟩ := h.all p hp
  exact inL_iff.2 ⟨x, hx, by omega, by omega⟩
theorem long_cases {P : List (Nat × Int × Int)} (hP : ∀ p ∈ P, Piece p) (s : ByteArray) : (longF s (P.map seq3) = 0 ∧ ∀ p ∈ P, ∀ r, p.2.1 ≤ r → r ≤ p.2.2 → ¬ Starts s p.1 r) ∨ ∃ p ∈ P, ∃ r, p.2.1 ≤ r ∧ r ≤ p.2.2 ∧ Starts s p.1 r ∧ longF s (P.map seq3) = p.1 := by
  induction P with
  | nil => exact .inl ⟨rfl, fun p hp => by simp at hp⟩
  | cons x t ih =>
    have hx := hP x (by simp)
    rw [List.map_cons, longF]
    by_cases h : takesF s (seq3 x) = true
    · obtain ⟨r, h1, h2, h3⟩ := (hx.takes s).1 h
      exact .inr ⟨x, by simp, r, h1, h2, h3, by rw [if_pos h, show (seq3 x).length = x.1 from seqOf_len hx.w.n1.1 _ _]⟩
    · rw [if_neg h]
      rcases ih (fun p hp => hP p (by simp [hp])) with ⟨h1, h2⟩ | ⟨p, hp, r, h1, h2, h3, h4⟩
      · refine .inl ⟨h1, fun p hp r h3 h4 h5 => ?_⟩
        rcases List.mem_cons.1 hp with rfl | hp
        · exact h ((hx.takes s).2 ⟨r, h3, h4, h5⟩)
        · exact h2 p hp r h3 h4 h5
      · exact .inr ⟨p, by simp [hp], r, h1, h2, h3, h4⟩
theorem byteI_nums {L : List Int} (h : ∀ x ∈ L, 0 ≤ x ∧ x ≤ 255) (t : ByteArray) (k : Nat) (hk : k < L.length) : byteI (strOfNums L ++ t) k = L[k] := by
  unfold byteI
  have hsz : (strOfNums L ++ t).size = L.length + t.size := by rw [ByteArray.size_append, strOfNums_size]
  rw [dif_pos (by omega)]
  have e : (strOfNums L ++ t)[k]'(by omega) = UInt8.ofNat L[k].toNat := by
    rw [ByteArray.getElem_append_left (by rw [strOfNums_size]; exact hk)]
    show (strOfNums L).data[k]'_ = _
    simp [strOfNums]
  have := h L[k] (List.getElem_mem hk)
  rw [e, UInt8.toNat_ofNat']
  omega
theorem starts_nums {r : Int} (hw : widthF r ≠ 0) (t : ByteArray) : Starts (strOfNums (encN (widthF r) r) ++ t) (widthF r) r := by
  have hr := width_in hw
  have hl := encN_len (widthF r) hr.1.1 r
  refine ⟨by rw [ByteArray.size_append, strOfNums_size]; omega, ?_⟩
  apply List.ext_getElem (by rw [hl]; simp [bytesL])
  intro k h1 h2
  simp only [bytesL, List.getElem_map, List.getElem_range]
  rw [byteI_nums (encN_in hr.1 rfl hr.2) t k h2]
theorem starts_nums0 {r : Int} (hw : widthF r ≠ 0) : Starts (strOfNums (encN (widthF r) r)) (widthF r) r := by
  have := starts_nums hw ⟨#[]⟩
  rwa [show strOfNums (encN (widthF r) r) ++ (⟨#[]⟩ : ByteArray) = strOfNums (encN (widthF r) r) from ByteArray.append_empty] at this
theorem splitL_len (lo hi : Int) : (splitL lo hi).length ≤ 5570560 := by
  have hc : ∀ k (hk : k < 5), (cutW lo hi (wds[k]'hk)).length ≤ 1114112 := by
    intro k hk
    unfold cutW
    have hr : 0 ≤ (wds[k]'hk).2.1 ∧ (wds[k]'hk).2.2 ≤ 1114111 := by
      match k, hk with
      | 0, _ => simp [wds]
      | 1, _ => simp [wds]
      | 2, _ => simp [wds]
      | 3, _ => simp [wds]
      | 4, _ => simp [wds]
    split
    · rename_i h
      have := partL_len (wds[k]'hk).1 _ _ _ (Nat.le_refl (min hi (wds[k]'hk).2.2 - max lo (wds[k]'hk).2.1).toNat)
      omega
    · simp
  have h0 := hc 0 (by decide)
  have h1 := hc 1 (by decide)
  have h2 := hc 2 (by decide)
  have h3 := hc 3 (by decide)
  have h4 := hc 4 (by decide)
  unfold splitL
  show (List.flatMap (cutW lo hi) [wds[0], wds[1], wds[2], wds[3], wds[4]]).length ≤ _
  simp only [List.flatMap_cons, List.flatMap_nil, List.length_append, List.length_nil]
  omega
theorem of_len (m : List (Int × Int)) : (m.flatMap fun x => splitL x.1 x.2).length ≤ m.length * 5570560 := by
  induction m with
  | nil => simp
  | cons x t ih =>
    rw [List.flatMap_cons, List.length_append, List.length_cons]
    have := splitL_len x.1 x.2
    omega
theorem ofL_seq {l : List (Int × Int)} : ∀ q ∈ ofL l, q.length ≤ 4 := by
  intro q hq
  obtain ⟨P, e, h⟩ := of_pieces (normL l) (normL_nrm l)
  have : q ∈ P.map seq3 := by rw [← e]; exact hq
  obtain ⟨p, hp, rfl⟩ := List.mem_map.1 this
  have := (h.all p hp).1.w.n1
  rw [show (seq3 p).length = p.1 from seqOf_len this.1 _ _]
  exact this.2
/-! The chapter's example. -/
theorem one_of {n : Nat} {lo hi : Int} (h : partG lo hi (psOf n) = ((lo, hi), (lo, hi))) : partL n lo hi = [seqOf n lo hi] := partL_one h
theorem split_two : splitL 128 2047 = [[(194, 223), (128, 191)]] := by
  show List.flatMap (cutW 128 2047) wds = _
  have e : partL 2 128 2047 = [[(194, 223), (128, 191)]] := by
    rw [one_of (by decide), seqOf, enc2, enc2]
    rfl
  simp [wds, cutW, Int.max_def, Int.min_def, e]
theorem split_all : (splitL 0 1114111).length = 9 := by
  show (List.flatMap (cutW 0 1114111) wds).length = _
  have e1 : (partL 1 0 127).length = 1 := by rw [one_of (by decide)]; rfl
  have e2 : (partL 2 128 2047).length = 1 := by rw [one_of (by decide)]; rfl
  have e3 : (partL 3 2048 55295).length = 3 := by
    rw [partL_two (m := 4095) (by omega) (by omega) (by decide), partL_two (lo := 4095 + 1) (m := 53247) (by omega) (by omega) (by decide), one_of (by decide), one_of (by decide), one_of (by decide)]; rfl
  have e4 : (partL 3 57344 65535).length = 1 := by rw [one_of (by decide)]; rfl
  have e5 : (partL 4 65536 1114111).length = 3 := by
    rw [partL_two (m := 262143) (by omega) (by omega) (by decide), partL_two (lo := 262143 + 1) (m := 1048575) (by omega) (by omega) (by decide), one_of (by decide), one_of (by decide), one_of (by decide)]; rfl
  simp [wds, cutW, Int.max_def, Int.min_def, e1, e2, e3, e4, e5]
end Go.Proofs.YtoihlfiacnljhaaX
