import Derived.Test.YtnpkfncccddlmaaDoorXRangesNorm
import Derived.Test.YtnpkfncccddlmaaDoorXRangesPure
namespace Go.Proofs.YtnpkfncccddlmaaDoorX
set_option linter.unusedVariables false
/-! How many numbers a list holds. -/
def cnt (n : Nat) (p : Int → Bool) : Nat := (List.range n).countP (fun i : Nat => p (i : Int))
theorem cp_or_and {α : Type} (p q : α → Bool) : ∀ l : List α, l.countP (fun x => p x || q x) + l.countP (fun x => p x && q x) = l.countP p + l.countP q
  | [] => rfl
  | x :: t => by
    have ih := cp_or_and p q t
    simp only [List.countP_cons]
    cases p x <;> cases q x <;> simp <;> omega
theorem cp_not {α : Type} (p : α → Bool) : ∀ l : List α, l.countP p + l.countP (fun x => !p x) = l.length
  | [] => rfl
  | x :: t => by
    have ih := cp_not p t
    simp only [List.countP_cons, List.length_cons]
    cases p x <;> simp <;> omega
theorem cp_congr {α : Type} {p q : α → Bool} : ∀ {l : List α}, (∀ x ∈ l, p x = q x) → l.countP p = l.countP q
  | [], _ => rfl
  | x :: t, h => by
    simp only [List.countP_cons]
    rw [cp_congr (fun y hy => h y (List.mem_cons_of_mem _ hy)), h x (by simp)]
theorem cnt_or_and (n : Nat) (p q : Int → Bool) : cnt n (fun r => p r || q r) + cnt n (fun r => p r && q r) = cnt n p + cnt n q := cp_or_and (fun i : Nat => p i) (fun i : Nat => q i) _
theorem cnt_not (n : Nat) (p : Int → Bool) : cnt n p + cnt n (fun r => !p r) = n := by
  have := cp_not (fun i : Nat => p i) (List.range n)
  rw [List.length_range] at this
  exact this
theorem cnt_congr {n : Nat} {p q : Int → Bool} (h : ∀ r : Int, 0 ≤ r → r < n → p r = q r) : cnt n p = cnt n q :=
  cp_congr (fun x hx => h x (by omega) (by have := List.mem_range.1 hx; omega))
theorem cnt_le (n : Nat) (p : Int → Bool) : cnt n p ≤ n := by
  have := cnt_not n p
  omega
theorem cnt_none (n : Nat) : cnt n (fun _ => false) = 0 := by
  unfold cnt
  simp
theorem cnt_between (a b : Int) (h0 : 0 ≤ a) (h1 : a ≤ b) : ∀ n : Nat, (cnt n (fun r => decide (a ≤ r) && decide (r ≤ b)) : Int) = if (n : Int) ≤ a then 0 else if (n : Int) ≤ b + 1 then n - a else b - a + 1
  | 0 => by rw [if_pos (by omega)]; rfl
  | n + 1 => by
    have ih := cnt_between a b h0 h1 n
    unfold cnt at ih ⊢
    rw [List.range_succ, List.countP_append]
    have e : ([n].countP (fun i : Nat => decide (a ≤ (i : Int)) && decide ((i : Int) ≤ b)) : Nat) = if a ≤ (n : Int) ∧ (n : Int) ≤ b then 1 else 0 := by
      by_cases x : a ≤ (n : Int) <;> by_cases y : (n : Int) ≤ b <;> simp [x, y]
    rw [e]
    push_cast
    rw [ih]
    split <;> split <;> (try split) <;> (try split) <;> (try split) <;> omega
def sizeL : List (Int × Int) → Int
  | [] => 0
  | x :: t => (x.2 - x.1 + 1) + sizeL t
theorem sizeL_count : ∀ {l : List (Int × Int)}, Nrm l → sizeL l = (cnt 1114112 (inL l) : Int)
  | [], _ => by
    have : cnt 1114112 (inL []) = 0 := cnt_none _
    rw [this]; rfl
  | x :: t, h => by
    have hx := h.inr x (by simp)
    have ih := sizeL_count h.tail
    have e := cnt_or_and 1114112 (fun r => decide (x.1 ≤ r) && decide (r ≤ x.2)) (inL t)
    have z : cnt 1114112 (fun r => (decide (x.1 ≤ r) && decide (r ≤ x.2)) && inL t r) = 0 := by
      rw [cnt_congr (q := fun _ => false) (fun r _ _ => ?_), cnt_none]
      by_cases hi : inL t r = true
      · have := nrm_head h hi
        rw [decide_eq_false (show ¬ r ≤ x.2 by omega)]
        simp
      · rw [Bool.not_eq_true] at hi
        rw [hi, Bool.and_false]
    have b := cnt_between x.1 x.2 hx.1 hx.2.1 1114112
    rw [if_neg (by omega)] at b
    have c : cnt 1114112 (inL (x :: t)) = cnt 1114112 (fun r => (decide (x.1 ≤ r) && decide (r ≤ x.2)) || inL t r) := rfl
    rw [c]
    unfold sizeL
    rw [ih]
    split at b <;> omega
theorem size_norm (l : List (Int × Int)) : sizeL (normL l) = (cnt 1114112 (hasL l) : Int) := by
  rw [sizeL_count (normL_nrm l), cnt_congr (fun r _ _ => normL_in l r)]
theorem size_le {l : List (Int × Int)} (h : Nrm l) : sizeL l ≤ 1114112 := by
  have := cnt_le 1114112 (inL l)
  rw [sizeL_count h]
  omega
end Go.Proofs.YtnpkfncccddlmaaDoorX

namespace Go.Proofs.YtnpkfncccddlmaaDoorX
set_option linter.unusedVariables false
/-! How many numbers a list holds. -/
theorem sizeL_append : ∀ (a b : List (Int × Int)), sizeL (a ++ b) = sizeL a + sizeL b
  | [], b => by simp [sizeL]
  | x :: t, b => by rw [List.cons_append, sizeL, sizeL, sizeL_append t b]; omega
theorem sizeL_pos : ∀ {l : List (Int × Int)}, (∀ x ∈ l, x.1 ≤ x.2) → 0 ≤ sizeL l
  | [], _ => by unfold sizeL; omega
  | x :: t, h => by
    have := sizeL_pos (fun y hy => h y (List.mem_cons_of_mem x hy))
    have := h x (by simp)
    unfold sizeL
    omega
theorem bothF_len (a b : List (Int × Int)) : (bothF a b).length ≤ a.length * b.length := Nat.le_trans (bothL_len _ _) (Nat.mul_le_mul (normL_len a) (normL_len b))
theorem unionL_len (a b : List (Int × Int)) : (unionL a b).length ≤ a.length + b.length := by
  have := normL_len (a ++ b)
  rwa [List.length_append] at this
/-! Laws of the lists. -/
theorem not_union (a b : List (Int × Int)) : notL (unionL a b) = bothF (notL a) (notL b) := by
  refine nrm_ext (notL_nrm _) (bothF_nrm _ _) (fun r => ?_)
  rw [notL_in, unionL_in, bothF_in, hasL_nrm (notL_nrm a), hasL_nrm (notL_nrm b), notL_in, notL_in]
  unfold hasL
  cases decide (0 ≤ r) <;> cases decide (r ≤ 1114111) <;> cases inL a r <;> cases inL b r <;> rfl
theorem not_not (a : List (Int × Int)) : notL (notL a) = normL a := by
  refine nrm_ext (notL_nrm _) (normL_nrm _) (fun r => ?_)
  rw [notL_in, notL_in, normL_in]
  unfold hasL
  cases decide (0 ≤ r) <;> cases decide (r ≤ 1114111) <;> cases inL a r <;> rfl
theorem minus_both (a b : List (Int × Int)) : unionL (minusL a b) (bothF a b) = normL a := by
  refine nrm_ext (unionL_nrm _ _) (normL_nrm _) (fun r => ?_)
  rw [unionL_in, normL_in, hasL_nrm (minusL_nrm _ _), hasL_nrm (bothF_nrm _ _), minusL_in, bothF_in]
  cases hasL a r <;> cases hasL b r <;> rfl
theorem size_union_both (a b : List (Int × Int)) : sizeL (normL (unionL a b)) + sizeL (normL (bothF a b)) = sizeL (normL a) + sizeL (normL b) := by
  rw [size_norm, size_norm, size_norm, size_norm]
  have e := cnt_or_and 1114112 (hasL a) (hasL b)
  rw [cnt_congr (n := 1114112) (p := hasL (unionL a b)) (fun r _ _ => by rw [hasL_nrm (unionL_nrm _ _), unionL_in]), cnt_congr (n := 1114112) (p := hasL (bothF a b)) (fun r _ _ => by rw [hasL_nrm (bothF_nrm _ _), bothF_in])]
  omega
theorem size_not (a : List (Int × Int)) : sizeL (normL a) + sizeL (normL (notL a)) = 1114112 := by
  rw [size_norm, size_norm]
  have e := cnt_not 1114112 (hasL a)
  rw [cnt_congr (n := 1114112) (p := hasL (notL a)) (q := fun r => !hasL a r) (fun r h0 h1 => by
    rw [hasL_nrm (notL_nrm _), notL_in]
    unfold hasL
    rw [decide_eq_true h0, decide_eq_true (show r ≤ 1114111 by omega)]
    cases inL a r <;> rfl)]
  omega
theorem size_norm_le (a : List (Int × Int)) : 0 ≤ sizeL (normL a) ∧ sizeL (normL a) ≤ 1114112 :=
  ⟨sizeL_pos (fun x hx => ((normL_nrm a).inr x hx).2.1), size_le (normL_nrm a)⟩
end Go.Proofs.YtnpkfncccddlmaaDoorX

namespace Go.Proofs.YtnpkfncccddlmaaDoorX
set_option linter.unusedVariables false
/-! The document's way: from edge to edge. -/
def edgeS (at_ next : Int) (x : Int × Int) : Int :=
  let n1 := if x.1 > at_ ∧ x.1 < next then x.1 else next
  if x.2 ≥ at_ ∧ x.2 < 1114111 ∧ x.2 + 1 < n1 then x.2 + 1 else n1
def edgeG (at_ : Int) : Int → List (Int × Int) → Int
  | n, [] => n
  | n, x :: t => edgeG at_ (edgeS at_ n x) t
theorem edgeS_le (at_ n : Int) (x : Int × Int) : edgeS at_ n x ≤ n ∧ (x.1 > at_ → edgeS at_ n x ≤ x.1) ∧ (x.2 ≥ at_ → x.2 < 1114111 → edgeS at_ n x ≤ x.2 + 1) ∧ (at_ < n → at_ < edgeS at_ n x) := by
  simp only [edgeS]
  by_cases c1 : x.1 > at_ ∧ x.1 < n
  · simp only [if_pos c1]
    by_cases c2 : x.2 ≥ at_ ∧ x.2 < 1114111 ∧ x.2 + 1 < x.1
    · rw [if_pos c2]; omega
    · rw [if_neg c2]; omega
  · simp only [if_neg c1]
    by_cases c2 : x.2 ≥ at_ ∧ x.2 < 1114111 ∧ x.2 + 1 < n
    · rw [if_pos c2]; omega
    · rw [if_neg c2]; omega
theorem edgeG_all (at_ : Int) : ∀ (l : List (Int × Int)) (n : Int), edgeG at_ n l ≤ n ∧ (at_ < n → at_ < edgeG at_ n l) ∧ ∀ x ∈ l, (x.1 > at_ → edgeG at_ n l ≤ x.1) ∧ (x.2 ≥ at_ → x.2 < 1114111 → edgeG at_ n l ≤ x.2 + 1)
  | [], n => ⟨Int.le_refl _, fun h => h, fun x hx => by cases hx⟩
  | y :: t, n => by
    obtain ⟨s1, s2, s3, s4⟩ := edgeS_le at_ n y
    obtain ⟨h1, h2, h3⟩ := edgeG_all at_ t (edgeS at_ n y)
    rw [edgeG]
    refine ⟨by omega, fun h => h2 (s4 h), fun x hx => ?_⟩
    rcases List.mem_cons.1 hx with rfl | hx
    · exact ⟨fun h => by have := s2 h; omega, fun h h' => by have := s3 h h'; omega⟩
    · exact h3 x hx
def edgeL (l : List (Int × Int)) (at_ : Int) : Int := edgeG at_ 1114112 l
theorem edge_same {l : List (Int × Int)} {at_ r : Int} (h1 : at_ ≤ r) (h2 : r < edgeL l at_) : inL l r = inL l at_ := by
  obtain ⟨e1, e2, e3⟩ := edgeG_all at_ l 1114112
  change edgeL l at_ ≤ _ at e1
  rw [Bool.eq_iff_iff, inL_iff, inL_iff]
  constructor
  · rintro ⟨x, hx, a, b⟩
    obtain ⟨z1, z2⟩ := e3 x hx
    change _ → edgeL l at_ ≤ _ at z1
    refine ⟨x, hx, ?_, by omega⟩
    by_cases hc : x.1 > at_
    · have := z1 hc
      omega
    · omega
  · rintro ⟨x, hx, a, b⟩
    obtain ⟨z1, z2⟩ := e3 x hx
    change _ → _ → edgeL l at_ ≤ _ at z2
    refine ⟨x, hx, by omega, ?_⟩
    by_cases hc : x.2 < 1114111
    · have := z2 b hc
      omega
    · omega
theorem edge_in (l : List (Int × Int)) {at_ : Int} (h : at_ ≤ 1114111) : at_ < edgeL l at_ ∧ edgeL l at_ ≤ 1114112 := by
  obtain ⟨e1, e2, _⟩ := edgeG_all at_ l 1114112
  exact ⟨e2 (by omega), e1⟩
theorem edge_has {l : List (Int × Int)} {at_ r : Int} (h0 : 0 ≤ at_) (h1 : at_ ≤ r) (h2 : r < edgeL l at_) : hasL l r = hasL l at_ := by
  obtain ⟨e1, _, _⟩ := edgeG_all at_ l 1114112
  change edgeL l at_ ≤ _ at e1
  unfold hasL
  rw [edge_same h1 h2, decide_eq_true (show 0 ≤ r by omega), decide_eq_true (show r ≤ 1114111 by omega), decide_eq_true h0, decide_eq_true (show at_ ≤ 1114111 by omega)]
theorem nrm_len {l : List (Int × Int)} (h : Nrm l) : l.length ≤ 1114112 := by
  have key : ∀ {l : List (Int × Int)}, (∀ x ∈ l, x.1 ≤ x.2) → (l.length : Int) ≤ sizeL l := by
    intro l
    induction l with
    | nil => intro _; simp [sizeL]
    | cons x t ih =>
      intro h
      have := ih (fun y hy => h y (List.mem_cons_of_mem _ hy))
      have := h x (by simp)
      simp only [List.length_cons, sizeL]
      omega
  have h1 := key (fun x hx => (h.inr x hx).2.1)
  have h2 := size_le h
  omega
/-- What lies in the list up to a place. -/
structure Upto (G : Int → Bool) (at_ : Int) (p : List (Int × Int)) : Prop where
  nrm : Nrm p
  lt : ∀ x ∈ p, x.2 < at_
  mem : ∀ r, inL p r = (decide (0 ≤ r) && (decide (r < at_) && G r))
theorem Upto.start (G : Int → Bool) : Upto G 0 [] := by
  refine ⟨Nrm.nil, fun x hx => (by cases hx), fun r => ?_⟩
  rw [inL_nil]
  by_cases h : 0 ≤ r
  · rw [decide_eq_false (show ¬ r < 0 by omega)]; simp
  · rw [decide_eq_false h]; simp
theorem Upto.skip {G : Int → Bool} {at_ next : Int} {p : List (Int × Int)} (h : Upto G at_ p) (h1 : at_ < next) (hG : ∀ r, at_ ≤ r → r < next → G r = false) : Upto G next p := by
  refine ⟨h.nrm, fun x hx => by have := h.lt x hx; omega, fun r => ?_⟩
  rw [h.mem r]
  by_cases c : r < at_
  · rw [decide_eq_true c, decide_eq_true (show r < next by omega)]
  · by_cases c' : r < next
    · rw [hG r (by omega) c']; simp
    · rw [decide_eq_false c, decide_eq_false c']
theorem pair_in (x : Int × Int) (r : Int) : inL [x] r = (decide (x.1 ≤ r) && decide (r ≤ x.2)) := by rw [inL_cons, inL_nil, Bool.or_false]
theorem Upto.more {G : Int → Bool} {at_ next : Int} {p : List (Int × Int)} (h : Upto G at_ p) (h0 : 0 ≤ at_) (h1 : at_ < next) (h2 : next ≤ 1114112) (hG : ∀ r, at_ ≤ r → r < next → G r = true) (hp : ∀ x ∈ p, x.2 + 1 ≠ at_) : Upto G next (p ++ [(at_, next - 1)]) := by
  refine ⟨⟨fun x hx => ?_, List.pairwise_append.2 ⟨h.nrm.apart, by simp, fun x hx y hy => ?_⟩⟩, fun x hx => ?_, fun r => ?_⟩
  · rcases List.mem_append.1 hx with hx | hx
    · exact h.nrm.inr x hx
    · simp only [List.mem_singleton] at hx; subst hx; simp only; omega
  · simp only [List.mem_singleton] at hy
    subst hy
    have := h.lt x hx
    have := hp x hx
    simp only
    omega
  · rcases List.mem_append.1 hx with hx | hx
    · have := h.lt x hx; omega
    · simp only [List.mem_singleton] at hx; subst hx; simp only; omega
  · rw [inL_append, h.mem r, pair_in]
    simp only
    by_cases c : r < at_
    · rw [decide_eq_true c, decide_eq_true (show r < next by omega), decide_eq_false (show ¬ at_ ≤ r by omega)]; simp
    · by_cases c' : r < next
      · rw [hG r (by omega) c', decide_eq_false c, decide_eq_true c', decide_eq_true (show at_ ≤ r by omega), decide_eq_true (show r ≤ next - 1 by omega), decide_eq_true (show 0 ≤ r by omega)]; rfl
      · rw [decide_eq_false c, decide_eq_false c', decide_eq_false (show ¬ r ≤ next - 1 by omega)]; simp
theorem Upto.join {G : Int → Bool} {at_ next : Int} {p : List (Int × Int)} {c : Int × Int} (h : Upto G at_ (p ++ [c])) (h0 : 0 ≤ at_) (h1 : at_ < next) (h2 : next ≤ 1114112) (hG : ∀ r, at_ ≤ r → r < next → G r = true) (hc : c.2 + 1 = at_) : Upto G next (p ++ [(c.1, next - 1)]) := by
  obtain ⟨pw1, pw2, pw3⟩ := List.pairwise_append.1 h.nrm.apart
  have hci := h.nrm.inr c (by simp)
  refine ⟨⟨fun x hx => ?_, List.pairwise_append.2 ⟨pw1, by simp, fun x hx y hy => ?_⟩⟩, fun x hx => ?_, fun r => ?_⟩
  · rcases List.mem_append.1 hx with hx | hx
    · exact h.nrm.inr x (List.mem_append_left _ hx)
    · simp only [List.mem_singleton] at hx; subst hx; simp only; omega
  · simp only [List.mem_singleton] at hy
    subst hy
    exact pw3 x hx c (by simp)
  · rcases List.mem_append.1 hx with hx | hx
    · have := h.lt x (List.mem_append_left _ hx); omega
    · simp only [List.mem_singleton] at hx; subst hx; simp only; omega
  · have hm := h.mem r
    rw [inL_append, pair_in] at hm ⊢
    simp only
    by_cases k : r < at_
    · rw [decide_eq_true k] at hm
      rw [decide_eq_true (show r < next by omega), ← hm, decide_eq_true (show r ≤ next - 1 by omega), decide_eq_true (show r ≤ c.2 by omega)]
    · rw [decide_eq_false k, decide_eq_false (show ¬ r ≤ c.2 by omega)] at hm
      have hn : inL p r = false := by
        revert hm
        cases inL p r <;> simp
      rw [hn]
      by_cases k' : r < next
      · rw [hG r (by omega) k', decide_eq_true k', decide_eq_true (show c.1 ≤ r by omega), decide_eq_true (show r ≤ next - 1 by omega), decide_eq_true (show 0 ≤ r by omega)]; rfl
      · rw [decide_eq_false k', decide_eq_false (show ¬ r ≤ next - 1 by omega)]; simp
theorem Upto.last {G : Int → Bool} {p : List (Int × Int)} (h : Upto G 1114112 p) (r : Int) : inL p r = (decide (0 ≤ r) && (decide (r ≤ 1114111) && G r)) := by
  rw [h.mem r]
  congr 2
  rw [decide_eq_decide]
  omega
end Go.Proofs.YtnpkfncccddlmaaDoorX
