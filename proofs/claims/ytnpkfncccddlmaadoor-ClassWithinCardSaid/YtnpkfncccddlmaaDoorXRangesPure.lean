import Derived.Test.YtnpkfncccddlmaaDoorXRangesConcat
import Derived.Test.YtnpkfncccddlmaaDoorXRangesNorm
namespace Go.Proofs.YtnpkfncccddlmaaDoorX
set_option linter.unusedVariables false
set_option linter.unusedSimpArgs false
/-! What is in both. -/
theorem meet_in (x y : Int × Int) (r : Int) : inL (meet x y) r = ((decide (x.1 ≤ r) && decide (r ≤ x.2)) && (decide (y.1 ≤ r) && decide (r ≤ y.2))) := by
  unfold meet
  split
  · simp only [inL_cons, inL_nil, Bool.or_false]
    rw [Bool.eq_iff_iff]
    simp only [Bool.and_eq_true, decide_eq_true_eq]
    omega
  · rename_i h
    rw [inL_nil, Bool.eq_iff_iff]
    simp only [Bool.and_eq_true, decide_eq_true_eq]
    constructor
    · intro h; cases h
    · intro h'; exfalso; apply h; omega
theorem meets_in (x : Int × Int) : ∀ (b : List (Int × Int)) (r : Int), inL (meets x b) r = ((decide (x.1 ≤ r) && decide (r ≤ x.2)) && inL b r)
  | [], r => by rw [meets, inL_nil, Bool.and_false]
  | y :: t, r => by rw [meets, inL_append, meets_in x t r, meet_in, inL_cons, Bool.and_or_distrib_left]
theorem bothL_in : ∀ (a b : List (Int × Int)) (r : Int), inL (bothL a b) r = (inL a r && inL b r)
  | [], b, r => by rw [bothL, inL_nil, Bool.false_and]
  | x :: t, b, r => by rw [bothL, inL_append, bothL_in t b r, meets_in, inL_cons, Bool.and_or_distrib_right]
theorem mem_meet {x y z : Int × Int} (h : z ∈ meet x y) : z.1 ≤ z.2 ∧ x.1 ≤ z.1 ∧ y.1 ≤ z.1 ∧ z.2 ≤ x.2 ∧ z.2 ≤ y.2 := by
  unfold meet at h
  split at h
  · rename_i hc
    rw [List.mem_singleton] at h
    subst h
    refine ⟨hc, ?_, ?_, ?_, ?_⟩ <;> dsimp only <;> omega
  · simp at h
theorem mem_meets {x z : Int × Int} : ∀ {b : List (Int × Int)}, z ∈ meets x b → ∃ y ∈ b, z ∈ meet x y
  | [], h => by simp [meets] at h
  | y :: t, h => by
    rw [meets, List.mem_append] at h
    rcases h with h | h
    · exact ⟨y, by simp, h⟩
    · obtain ⟨y', hy', h'⟩ := mem_meets h
      exact ⟨y', by simp [hy'], h'⟩
theorem meet_pw (x y : Int × Int) : (meet x y).Pairwise (fun x y => x.2 + 1 < y.1) := by
  unfold meet
  split <;> simp
theorem meets_pw (x : Int × Int) : ∀ {b : List (Int × Int)}, b.Pairwise (fun x y => x.2 + 1 < y.1) → (meets x b).Pairwise (fun x y => x.2 + 1 < y.1)
  | [], _ => by simp [meets]
  | y :: t, h => by
    rw [List.pairwise_cons] at h
    rw [meets, List.pairwise_append]
    refine ⟨meet_pw x y, meets_pw x h.2, fun u hu v hv => ?_⟩
    obtain ⟨y', hy', hv'⟩ := mem_meets hv
    have := h.1 y' hy'
    have := mem_meet hu
    have := mem_meet hv'
    omega
theorem mem_bothL {z : Int × Int} : ∀ {a b : List (Int × Int)}, z ∈ bothL a b → ∃ x ∈ a, ∃ y ∈ b, z ∈ meet x y
  | [], b, h => by simp [bothL] at h
  | x :: t, b, h => by
    rw [bothL, List.mem_append] at h
    rcases h with h | h
    · obtain ⟨y, hy, h'⟩ := mem_meets h
      exact ⟨x, by simp, y, hy, h'⟩
    · obtain ⟨x', hx', y, hy, h'⟩ := mem_bothL h
      exact ⟨x', by simp [hx'], y, hy, h'⟩
theorem bothL_nrm {a b : List (Int × Int)} (ha : Nrm a) (hb : Nrm b) : Nrm (bothL a b) := by
  refine ⟨fun z hz => ?_, ?_⟩
  · obtain ⟨x, hx, y, hy, h⟩ := mem_bothL hz
    have := mem_meet h
    have := ha.inr x hx
    have := hb.inr y hy
    omega
  · have hbp : ∀ (b : List (Int × Int)), b.Pairwise (fun x y => x.2 + 1 < y.1) → (bothL a b).Pairwise (fun x y => x.2 + 1 < y.1) := by
      clear hb b
      intro b hb
      have hap := ha.apart
      clear ha
      induction a with
      | nil => simp [bothL]
      | cons x t ih =>
        rw [List.pairwise_cons] at hap
        rw [bothL, List.pairwise_append]
        refine ⟨meets_pw x hb, ih hap.2, fun u hu v hv => ?_⟩
        obtain ⟨y, _, hu'⟩ := mem_meets hu
        obtain ⟨x', hx', y', _, hv'⟩ := mem_bothL hv
        have := hap.1 x' hx'
        have := mem_meet hu'
        have := mem_meet hv'
        omega
    exact hbp b hb.apart
/-! What is in none. -/
def notG (from_ : Int) : List (Int × Int) → List (Int × Int)
  | [] => if from_ ≤ 1114111 then [(from_, 1114111)] else []
  | x :: t => if from_ < x.1 then (from_, x.1 - 1) :: notG (x.2 + 1) t else notG (x.2 + 1) t
def notL (l : List (Int × Int)) : List (Int × Int) := notG 0 (normL l)
theorem notG_all : ∀ (l : List (Int × Int)) (f : Int), 0 ≤ f → f ≤ 1114112 → Nrm l → (∀ x ∈ l, f ≤ x.1) → Nrm (notG f l) ∧ (∀ z ∈ notG f l, f ≤ z.1) ∧ ∀ r, inL (notG f l) r = (decide (f ≤ r) && (decide (r ≤ 1114111) && !inL l r))
  | [], f, h0, h1, _, _ => by
    unfold notG
    split
    · rename_i h
      refine ⟨⟨fun x hx => ?_, by simp⟩, fun z hz => ?_, fun r => ?_⟩
      · rw [List.mem_singleton] at hx
        subst hx
        exact ⟨h0, h, Int.le_refl _⟩
      · rw [List.mem_singleton] at hz
        subst hz
        exact Int.le_refl _
      · simp [inL_cons, inL_nil]
    · refine ⟨Nrm.nil, fun z hz => by simp at hz, fun r => ?_⟩
      rw [inL_nil, eq_comm, Bool.eq_false_iff]
      simp only [Bool.not_false, Bool.and_true, ne_eq, Bool.and_eq_true, decide_eq_true_eq]
      omega
  | x :: t, f, h0, h1, hn, hf => by
    have hx := hn.inr x (by simp)
    have hfx := hf x (by simp)
    have hp := List.pairwise_cons.1 hn.apart
    have ih := notG_all t (x.2 + 1) (by omega) (by omega) hn.tail (fun y hy => by have := hp.1 y hy; omega)
    have hgap : ∀ z ∈ notG (x.2 + 1) t, x.2 + 1 ≤ z.1 := ih.2.1
    unfold notG
    split
    · rename_i h
      refine ⟨⟨fun z hz => ?_, List.pairwise_cons.2 ⟨fun z hz => ?_, ih.1.apart⟩⟩, fun z hz => ?_, fun r => ?_⟩
      · rcases List.mem_cons.1 hz with rfl | hz
        · refine ⟨h0, ?_, ?_⟩ <;> dsimp only <;> omega
        · exact ih.1.inr z hz
      · have := hgap z hz
        dsimp only
        omega
      · rcases List.mem_cons.1 hz with rfl | hz
        · exact Int.le_refl _
        · have := hgap z hz; omega
      · rw [inL_cons, ih.2.2 r, inL_cons, Bool.eq_iff_iff]
        have hh := fun (e : inL t r = true) => nrm_head hn e
        by_cases ht : inL t r = true
        · have := hh ht
          simp only [ht, Bool.not_true, Bool.and_false, Bool.or_false, Bool.or_true, Bool.and_eq_true, decide_eq_true_eq]
          constructor
          · rintro ⟨_, h2⟩; omega
          · intro h'; simp at h'
        · rw [Bool.not_eq_true] at ht
          simp only [ht, Bool.or_false, Bool.not_false, Bool.and_true, Bool.or_eq_true, Bool.and_eq_true, decide_eq_true_eq, Bool.not_eq_true', Bool.and_eq_false_iff, decide_eq_false_iff_not]
          omega
    · rename_i h
      refine ⟨ih.1, fun z hz => by have := hgap z hz; omega, fun r => ?_⟩
      rw [ih.2.2 r, inL_cons, Bool.eq_iff_iff]
      by_cases ht : inL t r = true
      · simp only [ht, Bool.not_true, Bool.and_false, Bool.or_true]
      · rw [Bool.not_eq_true] at ht
        simp only [ht, Bool.or_false, Bool.not_false, Bool.and_true, Bool.and_eq_true, decide_eq_true_eq, Bool.not_eq_true', Bool.and_eq_false_iff, decide_eq_false_iff_not]
        omega
theorem notL_nrm (l : List (Int × Int)) : Nrm (notL l) := (notG_all (normL l) 0 (by omega) (by omega) (normL_nrm l) (fun x hx => ((normL_nrm l).inr x hx).1)).1
theorem notL_in (l : List (Int × Int)) (r : Int) : inL (notL l) r = (decide (0 ≤ r) && (decide (r ≤ 1114111) && !inL l r)) := by
  unfold notL
  rw [(notG_all (normL l) 0 (by omega) (by omega) (normL_nrm l) (fun x hx => ((normL_nrm l).inr x hx).1)).2.2 r, normL_in]
  unfold hasL
  cases decide (0 ≤ r) <;> cases decide (r ≤ 1114111) <;> simp
def unionL (a b : List (Int × Int)) : List (Int × Int) := normL (a ++ b)
def bothF (a b : List (Int × Int)) : List (Int × Int) := bothL (normL a) (normL b)
def minusL (a b : List (Int × Int)) : List (Int × Int) := bothF a (notL b)
theorem unionL_in (a b : List (Int × Int)) (r : Int) : inL (unionL a b) r = (hasL a r || hasL b r) := by
  unfold unionL
  rw [normL_in]
  unfold hasL
  rw [inL_append]
  cases decide (0 ≤ r) <;> cases decide (r ≤ 1114111) <;> simp
theorem bothF_in (a b : List (Int × Int)) (r : Int) : inL (bothF a b) r = (hasL a r && hasL b r) := by
  unfold bothF
  rw [bothL_in, normL_in, normL_in]
theorem minusL_in (a b : List (Int × Int)) (r : Int) : inL (minusL a b) r = (hasL a r && !hasL b r) := by
  unfold minusL
  rw [bothF_in, hasL_nrm (notL_nrm b), notL_in]
  unfold hasL
  cases decide (0 ≤ r) <;> cases decide (r ≤ 1114111) <;> simp
theorem bothF_nrm (a b : List (Int × Int)) : Nrm (bothF a b) := bothL_nrm (normL_nrm a) (normL_nrm b)
theorem unionL_nrm (a b : List (Int × Int)) : Nrm (unionL a b) := normL_nrm _
theorem minusL_nrm (a b : List (Int × Int)) : Nrm (minusL a b) := bothF_nrm _ _
/-! Lengths. -/
theorem notG_len : ∀ (l : List (Int × Int)) (f : Int), (notG f l).length ≤ l.length + 1
  | [], f => by unfold notG; split <;> simp
  | x :: t, f => by
    unfold notG
    split
    · have := notG_len t (x.2 + 1); simp; omega
    · have := notG_len t (x.2 + 1); simp; omega
theorem notL_len (l : List (Int × Int)) : (notL l).length ≤ l.length + 1 := by
  have := notG_len (normL l) 0
  have := normL_len l
  unfold notL
  omega
end Go.Proofs.YtnpkfncccddlmaaDoorX
