import Derived.Test.YtoihlfiacnljhaaXBandsOf
namespace Go.Proofs.YtoihlfiacnljhaaX
open Go.RowKit Go.Proofs.YtoihlfiacnljhaaW.PrintWords Go.Proofs.YtoihlfiacnljhaaW.PrintLast Go.Proofs.YtoihlfiacnljhaaW.PrintMore
set_option linter.unusedVariables false
set_option linter.unusedSimpArgs false
theorem ok_iff (s : ByteArray) : ∀ (q : List (Int × Int)) (k : Nat), okFrom s k q = true ↔ ∀ j (h : j < q.length), q[j].1 ≤ byteI s (k + j) ∧ byteI s (k + j) ≤ q[j].2
  | [], k => by simp [okFrom]
  | x :: t, k => by
    rw [okFrom, Bool.and_eq_true, Bool.and_eq_true, decide_eq_true_eq, decide_eq_true_eq, ok_iff s t (k + 1)]
    constructor
    · rintro ⟨h1, h2, h3⟩ j hj
      cases j with
      | zero => exact ⟨h1, h2⟩
      | succ j =>
        have := h3 j (by simpa using hj)
        rw [show k + 1 + j = k + (j + 1) by omega] at this
        exact this
    · intro h
      refine ⟨(h 0 (by simp)).1, (h 0 (by simp)).2, fun j hj => ?_⟩
      have := h (j + 1) (by simpa using hj)
      rw [show k + (j + 1) = k + 1 + j by omega] at this
      exact this
theorem takes_iff (s : ByteArray) (q : List (Int × Int)) : takesF s q = true ↔ 0 < q.length ∧ q.length ≤ s.size ∧ ∀ j x, q[j]? = some x → x.1 ≤ byteI s j ∧ byteI s j ≤ x.2 := by
  unfold takesF
  rw [Bool.and_eq_true, Bool.and_eq_true, decide_eq_true_eq, decide_eq_true_eq, ok_iff]
  simp only [Nat.zero_add]
  constructor
  · rintro ⟨h1, h2, h3⟩
    refine ⟨h1, h2, fun j x hx => ?_⟩
    obtain ⟨hj, rfl⟩ := List.getElem?_eq_some_iff.1 hx
    exact h3 j hj
  · rintro ⟨h1, h2, h3⟩
    exact ⟨h1, h2, fun j hj => h3 j _ (List.getElem?_eq_getElem hj)⟩
theorem byteI_num {L : List Int} (h : ∀ x ∈ L, 0 ≤ x ∧ x ≤ 255) (k : Nat) (hk : k < L.length) : byteI (strOfNums L) k = L[k] := by
  have := byteI_nums h ⟨#[]⟩ k hk
  rwa [show strOfNums L ++ (⟨#[]⟩ : ByteArray) = strOfNums L from ByteArray.append_empty] at this
theorem enc_tail (n : Nat) (r : Int) (j : Nat) (x : Int) (hj : 1 ≤ j) (h : (encN n r)[j]? = some x) : 128 ≤ x ∧ x ≤ 191 := by
  obtain ⟨i, rfl⟩ : ∃ i, j = i + 1 := ⟨j - 1, by omega⟩
  unfold encN at h
  rw [List.getElem?_cons_succ, List.getElem?_map, Option.map_eq_some_iff] at h
  obtain ⟨a, _, rfl⟩ := h
  generalize r / 64 ^ (n - 2 - a) = q
  omega
theorem takes_rev1 {L : List Int} {q : List (Int × Int)} (hl : q.length = L.length) (hin : ∀ x ∈ L, 0 ≤ x ∧ x ≤ 255) (h : takesF (strOfNums L) q = true) : takesF (strOfNums L.reverse) q.reverse = true := by
  rw [takes_iff] at h ⊢
  rw [strOfNums_size] at h ⊢
  rw [List.length_reverse, List.length_reverse]
  refine ⟨h.1, h.2.1, fun j x hx => ?_⟩
  have hj : j < q.length := by have := (List.getElem?_eq_some_iff.1 hx).1; rwa [List.length_reverse] at this
  rw [List.getElem?_reverse hj] at hx
  have := h.2.2 _ x hx
  rw [byteI_num hin _ (by omega)] at this
  rw [byteI_num (fun y hy => hin y (List.mem_reverse.1 hy)) j (by rw [List.length_reverse]; omega), List.getElem_reverse]
  have e : q.length - 1 - j = L.length - 1 - j := by omega
  simp only [e] at this
  exact this
/-- A sequence from behind takes a rune's bytes from behind just as it takes them from the front. -/
theorem takes_rev {p : Nat × Int × Int} (hp : Piece p) {r : Int} (hr : widthF r ≠ 0) : takesF (strOfNums (encN (widthF r) r).reverse) (seq3 p).reverse = takesF (strOfNums (encN (widthF r) r)) (seq3 p) := by
  obtain ⟨m, lo, hi⟩ := p
  have hw : OneW m lo hi := hp.w
  have hri := width_in hr
  have hin := encN_in hri.1 rfl hri.2
  have hL := encN_len (widthF r) hri.1.1 r
  have hq : (seq3 (m, lo, hi)).length = m := seqOf_len hw.n1.1 lo hi
  have hinr : ∀ x ∈ (encN (widthF r) r).reverse, 0 ≤ x ∧ x ≤ 255 := fun x hx => hin x (List.mem_reverse.1 hx)
  rw [Bool.eq_iff_iff]
  by_cases he : m = widthF r
  · refine ⟨fun h => ?_, takes_rev1 (by omega) hin⟩
    have := takes_rev1 (by rw [List.length_reverse, List.length_reverse]; omega) hinr h
    rwa [List.reverse_reverse, List.reverse_reverse] at this
  · constructor
    · intro h
      rw [takes_iff, strOfNums_size, List.length_reverse, List.length_reverse, hq, hL] at h
      obtain ⟨h1, h2, h3⟩ := h
      exfalso
      have hs : (seq3 (m, lo, hi))[0]? = some (leadV m + lo / 64 ^ (m - 1), leadV m + hi / 64 ^ (m - 1)) := rfl
      have h4 := h3 (m - 1) _ (by rw [List.getElem?_reverse (by omega), show (seq3 (m, lo, hi)).length - 1 - (m - 1) = 0 by omega]; exact hs)
      rw [byteI_num hinr _ (by rw [List.length_reverse, hL]; omega), List.getElem_reverse] at h4
      have ht := enc_tail (widthF r) r ((encN (widthF r) r).length - 1 - (m - 1)) _ (by omega) (List.getElem?_eq_getElem (by omega))
      generalize (encN (widthF r) r)[(encN (widthF r) r).length - 1 - (m - 1)]'(by omega) = x at h4 ht
      have hle := hw.le
      have hir := hw.inr
      have hc : m = 1 ∨ m = 2 ∨ m = 3 ∨ m = 4 := by have := hw.n1; omega
      rcases hc with rfl | rfl | rfl | rfl
      · have := hw.w1 rfl
        simp only [leadV] at h4
        omega
      · simp only [leadV] at h4
        omega
      · simp only [leadV] at h4
        omega
      · simp only [leadV] at h4
        omega
    · intro h
      obtain ⟨r', h1, h2, h3⟩ := (hp.takes _).1 h
      have hst := starts_nums0 hr
      exact absurd (h3.unique (hw.width h1 h2) hw.n1.1 hst rfl hri.1.1).1 he
theorem long_rev {r : Int} (hr : widthF r ≠ 0) : ∀ {P : List (Nat × Int × Int)}, (∀ p ∈ P, Piece p) → longF (strOfNums (encN (widthF r) r).reverse) ((P.map seq3).map List.reverse) = longF (strOfNums (encN (widthF r) r)) (P.map seq3)
  | [], _ => rfl
  | p :: P, h => by
    rw [List.map_cons, List.map_cons, longF, longF, takes_rev (h p (by simp)) hr, long_rev hr (fun q hq => h q (by simp [hq])), List.length_reverse]
theorem str_append (a b : List Int) : strOfNums (a ++ b) = strOfNums a ++ strOfNums b := by
  apply Go.WideShapes.bytes_inj
  simp [strOfNums]
theorem nums_cut (L : List Int) (i : Nat) (h : i < L.length) : (strOfNums L).extract i (i + 1) = strOfNums [L[i]] := by
  apply Go.WideShapes.bytes_inj
  rw [ByteArray.data_extract]
  simp [strOfNums, List.extract_eq_take_drop]
  rw [← List.map_drop, ← List.map_take, List.drop_eq_getElem_cons h]
  rfl
end Go.Proofs.YtoihlfiacnljhaaX
