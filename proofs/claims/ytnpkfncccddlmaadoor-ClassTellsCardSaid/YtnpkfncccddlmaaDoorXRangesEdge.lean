import Derived.Test.YtnpkfncccddlmaaDoorXRangesCnt
namespace Go.Proofs.YtnpkfncccddlmaaDoorX
set_option linter.unusedVariables false
/-! The document's way: from edge to edge. -/
def edgeS (at_ next : Int) (x : Int × Int) : Int :=
  let n1 := if x.1 > at_ ∧ x.1 < next then x.1 else next
  if x.2 ≥ at_ ∧ x.2 < 1114111 ∧ x.2 + 1 < n1 then x.2 + 1 else n1
def edgeG (at_ : Int) : Int → List (Int × Int) → Int
  | n, [] => n
  | n, x :: t => edgeG at_ (edgeS at_ n x) t
theorem edgeS_le (at_ n : Int) (x : Int × Int) : edgeS at_ n x ≤ n ∧ (x.1 > at_ → edgeS at_ n x ≤ x.1) ∧ (x.2 ≥ at_ → x.2 < 1114111 → edgeS at_ n x ≤ x.2 + 1) ∧ (at_ < n → at_ < edgeS at_ n x) := by
  simp only [edgeS]
  by_cases c1 : x.1 > at_ ∧ x.1 < n
  · simp only [if_pos c1]
    by_cases c2 : x.2 ≥ at_ ∧ x.2 < 1114111 ∧ x.2 + 1 < x.1
    · rw [if_pos c2]; omega
    · rw [if_neg c2]; omega
  · simp only [if_neg c1]
    by_cases c2 : x.2 ≥ at_ ∧ x.2 < 1114111 ∧ x.2 + 1 < n
    · rw [if_pos c2]; omega
    · rw [if_neg c2]; omega
theorem edgeG_all (at_ : Int) : ∀ (l : List (Int × Int)) (n : Int), edgeG at_ n l ≤ n ∧ (at_ < n → at_ < edgeG at_ n l) ∧ ∀ x ∈ l, (x.1 > at_ → edgeG at_ n l ≤ x.1) ∧ (x.2 ≥ at_ → x.2 < 1114111 → edgeG at_ n l ≤ x.2 + 1)
  | [], n => ⟨Int.le_refl _, fun h => h, fun x hx => by cases hx⟩
  | y :: t, n => by
    obtain ⟨s1, s2, s3, s4⟩ := edgeS_le at_ n y
    obtain ⟨h1, h2, h3⟩ := edgeG_all at_ t (edgeS at_ n y)
    rw [edgeG]
    refine ⟨by omega, fun h => h2 (s4 h), fun x hx => ?_⟩
    rcases List.mem_cons.1 hx with rfl | hx
    · exact ⟨fun h => by have := s2 h; omega, fun h h' => by have := s3 h h'; omega⟩
    · exact h3 x hx
def edgeL (l : List (Int × Int)) (at_ : Int) : Int := edgeG at_ 1114112 l
theorem edge_same {l : List (Int × Int)} {at_ r : Int} (h1 : at_ ≤ r) (h2 : r < edgeL l at_) : inL l r = inL l at_ := by
  obtain ⟨e1, e2, e3⟩ := edgeG_all at_ l 1114112
  change edgeL l at_ ≤ _ at e1
  rw [Bool.eq_iff_iff, inL_iff, inL_iff]
  constructor
  · rintro ⟨x, hx, a, b⟩
    obtain ⟨z1, z2⟩ := e3 x hx
    change _ → edgeL l at_ ≤ _ at z1
    refine ⟨x, hx, ?_, by omega⟩
    by_cases hc : x.1 > at_
    · have := z1 hc
      omega
    · omega
  · rintro ⟨x, hx, a, b⟩
    obtain ⟨z1, z2⟩ := e3 x hx
    change _ → _ → edgeL l at_ ≤ _ at z2
    refine ⟨x, hx, by omega, ?_⟩
    by_cases hc : x.2 < 1114111
    · have := z2 b hc
      omega
    · omega
theorem edge_in (l : List (Int × Int)) {at_ : Int} (h : at_ ≤ 1114111) : at_ < edgeL l at_ ∧ edgeL l at_ ≤ 1114112 := by
  obtain ⟨e1, e2, _⟩ := edgeG_all at_ l 1114112
  exact ⟨e2 (by omega), e1⟩
theorem edge_has {l : List (Int × Int)} {at_ r : Int} (h0 : 0 ≤ at_) (h1 : at_ ≤ r) (h2 : r < edgeL l at_) : hasL l r = hasL l at_ := by
  obtain ⟨e1, _, _⟩ := edgeG_all at_ l 1114112
  change edgeL l at_ ≤ _ at e1
  unfold hasL
  rw [edge_same h1 h2, decide_eq_true (show 0 ≤ r by omega), decide_eq_true (show r ≤ 1114111 by omega), decide_eq_true h0, decide_eq_true (show at_ ≤ 1114111 by omega)]
theorem nrm_len {l : List (Int × Int)} (h : Nrm l) : l.length ≤ 1114112 := by
  have key : ∀ {l : List (Int × Int)}, (∀ x ∈ l, x.1 ≤ x.2) → (l.length : Int) ≤ sizeL l := by
    intro l
    induction l with
    | nil => intro _; simp [sizeL]
    | cons x t ih =>
      intro h
      have := ih (fun y hy => h y (List.mem_cons_of_mem _ hy))
      have := h x (by simp)
      simp only [List.length_cons, sizeL]
      omega
  have h1 := key (fun x hx => (h.inr x hx).2.1)
  have h2 := size_le h
  omega
/-- What lies in the list up to a place. -/
structure Upto (G : Int → Bool) (at_ : Int) (p : List (Int × Int)) : Prop where
  nrm : Nrm p
  lt : ∀ x ∈ p, x.2 < at_
  mem : ∀ r, inL p r = (decide (0 ≤ r) && (decide (r < at_) && G r))
theorem Upto.start (G : Int → Bool) : Upto G 0 [] := by
  refine ⟨Nrm.nil, fun x hx => (by cases hx), fun r => ?_⟩
  rw [inL_nil]
  by_cases h : 0 ≤ r
  · rw [decide_eq_false (show ¬ r < 0 by omega)]; simp
  · rw [decide_eq_false h]; simp
theorem Upto.skip {G : Int → Bool} {at_ next : Int} {p : List (Int × Int)} (h : Upto G at_ p) (h1 : at_ < next) (hG : ∀ r, at_ ≤ r → r < next → G r = false) : Upto G next p := by
  refine ⟨h.nrm, fun x hx => by have := h.lt x hx; omega, fun r => ?_⟩
  rw [h.mem r]
  by_cases c : r < at_
  · rw [decide_eq_true c, decide_eq_true (show r < next by omega)]
  · by_cases c' : r < next
    · rw [hG r (by omega) c']; simp
    · rw [decide_eq_false c, decide_eq_false c']
theorem pair_in (x : Int × Int) (r : Int) : inL [x] r = (decide (x.1 ≤ r) && decide (r ≤ x.2)) := by rw [inL_cons, inL_nil, Bool.or_false]
theorem Upto.more {G : Int → Bool} {at_ next : Int} {p : List (Int × Int)} (h : Upto G at_ p) (h0 : 0 ≤ at_) (h1 : at_ < next) (h2 : next ≤ 1114112) (hG : ∀ r, at_ ≤ r → r < next → G r = true) (hp : ∀ x ∈ p, x.2 + 1 ≠ at_) : Upto G next (p ++ [(at_, next - 1)]) := by
  refine ⟨⟨fun x hx => ?_, List.pairwise_append.2 ⟨h.nrm.apart, by simp, fun x hx y hy => ?_⟩⟩, fun x hx => ?_, fun r => ?_⟩
  · rcases List.mem_append.1 hx with hx | hx
    · exact h.nrm.inr x hx
    · simp only [List.mem_singleton] at hx; subst hx; simp only; omega
  · simp only [List.mem_singleton] at hy
    subst hy
    have := h.lt x hx
    have := hp x hx
    simp only
    omega
  · rcases List.mem_append.1 hx with hx | hx
    · have := h.lt x hx; omega
    · simp only [List.mem_singleton] at hx; subst hx; simp only; omega
  · rw [inL_append, h.mem r, pair_in]
    simp only
    by_cases c : r < at_
    · rw [decide_eq_true c, decide_eq_true (show r < next by omega), decide_eq_false (show ¬ at_ ≤ r by omega)]; simp
    · by_cases c' : r < next
      · rw [hG r (by omega) c', decide_eq_false c, decide_eq_true c', decide_eq_true (show at_ ≤ r by omega), decide_eq_true (show r ≤ next - 1 by omega), decide_eq_true (show 0 ≤ r by omega)]; rfl
      · rw [decide_eq_false c, decide_eq_false c', decide_eq_false (show ¬ r ≤ next - 1 by omega)]; simp
theorem Upto.join {G : Int → Bool} {at_ next : Int} {p : List (Int × Int)} {c : Int × Int} (h : Upto G at_ (p ++ [c])) (h0 : 0 ≤ at_) (h1 : at_ < next) (h2 : next ≤ 1114112) (hG : ∀ r, at_ ≤ r → r < next → G r = true) (hc : c.2 + 1 = at_) : Upto G next (p ++ [(c.1, next - 1)]) := by
  obtain ⟨pw1, pw2, pw3⟩ := List.pairwise_append.1 h.nrm.apart
  have hci := h.nrm.inr c (by simp)
  refine ⟨⟨fun x hx => ?_, List.pairwise_append.2 ⟨pw1, by simp, fun x hx y hy => ?_⟩⟩, fun x hx => ?_, fun r => ?_⟩
  · rcases List.mem_append.1 hx with hx | hx
    · exact h.nrm.inr x (List.mem_append_left _ hx)
    · simp only [List.mem_singleton] at hx; subst hx; simp only; omega
  · simp only [List.mem_singleton] at hy
    subst hy
    exact pw3 x hx c (by simp)
  · rcases List.mem_append.1 hx with hx | hx
    · have := h.lt x (List.mem_append_left _ hx); omega
    · simp only [List.mem_singleton] at hx; subst hx; simp only; omega
  · have hm := h.mem r
    rw [inL_append, pair_in] at hm ⊢
    simp only
    by_cases k : r < at_
    · rw [decide_eq_true k] at hm
      rw [decide_eq_true (show r < next by omega), ← hm, decide_eq_true (show r ≤ next - 1 by omega), decide_eq_true (show r ≤ c.2 by omega)]
    · rw [decide_eq_false k, decide_eq_false (show ¬ r ≤ c.2 by omega)] at hm
      have hn : inL p r = false := by
        revert hm
        cases inL p r <;> simp
      rw [hn]
      by_cases k' : r < next
      · rw [hG r (by omega) k', decide_eq_true k', decide_eq_true (show c.1 ≤ r by omega), decide_eq_true (show r ≤ next - 1 by omega), decide_eq_true (show 0 ≤ r by omega)]; rfl
      · rw [decide_eq_false k', decide_eq_false (show ¬ r ≤ next - 1 by omega)]; simp
theorem Upto.last {G : Int → Bool} {p : List (Int × Int)} (h : Upto G 1114112 p) (r : Int) : inL p r = (decide (0 ≤ r) && (decide (r ≤ 1114111) && G r)) := by
  rw [h.mem r]
  congr 2
  rw [decide_eq_decide]
  omega
end Go.Proofs.YtnpkfncccddlmaaDoorX
