import Derived.Test.YthblpnfkdkhcpaaXRangesConcat
namespace Go.Proofs.YthblpnfkdkhcpaaX
set_option linter.unusedVariables false
set_option linter.unusedSimpArgs false
/-! Sets of numbers as lists of ranges, over plain numbers. -/
def clip (x : Int × Int) : List (Int × Int) := if max x.1 0 ≤ min x.2 1114111 then [(max x.1 0, min x.2 1114111)] else []
def go1 (c : Int × Int) : List (Int × Int) → List (Int × Int)
  | [] => [c]
  | y :: t => if y.1 ≤ c.2 + 1 then go1 (c.1, max c.2 y.2) t else c :: go1 y t
def mergeL : List (Int × Int) → List (Int × Int)
  | [] => []
  | x :: t => go1 x t
def normL (l : List (Int × Int)) : List (Int × Int) := mergeL (sortLo (l.flatMap clip))
/-- In range, one behind the other, with a gap. -/
structure Nrm (l : List (Int × Int)) : Prop where
  inr : ∀ x ∈ l, 0 ≤ x.1 ∧ x.1 ≤ x.2 ∧ x.2 ≤ 1114111
  apart : l.Pairwise (fun x y => x.2 + 1 < y.1)
theorem Nrm.nil : Nrm [] := ⟨fun x hx => by simp at hx, List.Pairwise.nil⟩
theorem inL_nil (r : Int) : inL [] r = false := rfl
theorem inL_cons (x : Int × Int) (t : List (Int × Int)) (r : Int) : inL (x :: t) r = ((decide (x.1 ≤ r) && decide (r ≤ x.2)) || inL t r) := rfl
theorem inL_append (a b : List (Int × Int)) (r : Int) : inL (a ++ b) r = (inL a r || inL b r) := by unfold inL; rw [List.any_append]
theorem inL_iff {l : List (Int × Int)} {r : Int} : inL l r = true ↔ ∃ x ∈ l, x.1 ≤ r ∧ r ≤ x.2 := by
  unfold inL
  rw [List.any_eq_true]
  simp
theorem inL_perm {a b : List (Int × Int)} (h : a.Perm b) (r : Int) : inL a r = inL b r := by
  rw [Bool.eq_iff_iff, inL_iff, inL_iff]
  exact ⟨fun ⟨x, hx, h1⟩ => ⟨x, h.mem_iff.1 hx, h1⟩, fun ⟨x, hx, h1⟩ => ⟨x, h.mem_iff.2 hx, h1⟩⟩
theorem Nrm.tail {x : Int × Int} {t : List (Int × Int)} (h : Nrm (x :: t)) : Nrm t := ⟨fun y hy => h.inr y (by simp [hy]), (List.pairwise_cons.1 h.apart).2⟩
theorem Nrm.range {l : List (Int × Int)} (h : Nrm l) {r : Int} (hr : inL l r = true) : 0 ≤ r ∧ r ≤ 1114111 := by
  obtain ⟨x, hx, h1, h2⟩ := inL_iff.1 hr
  have := h.inr x hx
  omega
theorem clip_in (l : List (Int × Int)) (r : Int) : inL (l.flatMap clip) r = hasL l r := by
  unfold hasL
  induction l with
  | nil => simp [inL]
  | cons x t ih =>
    rw [List.flatMap_cons, inL_append, ih, inL_cons]
    unfold clip
    split
    · rename_i h
      simp only [inL_cons, inL_nil, Bool.or_false]
      rw [Bool.eq_iff_iff]
      by_cases ht : inL t r = true
      · simp only [ht, Bool.or_true, Bool.and_true, Bool.or_eq_true, Bool.and_eq_true, decide_eq_true_eq]
        omega
      · rw [Bool.not_eq_true] at ht
        simp only [ht, Bool.or_false, Bool.and_false, Bool.and_eq_true, decide_eq_true_eq]
        omega
    · rename_i h
      rw [inL_nil, Bool.false_or, Bool.eq_iff_iff]
      simp only [Bool.or_eq_true, Bool.and_eq_true, decide_eq_true_eq]
      constructor
      · rintro ⟨h1, h2, h3⟩; exact ⟨h1, h2, .inr h3⟩
      · rintro ⟨h1, h2, h3 | h3⟩
        · exfalso; apply h; omega
        · exact ⟨h1, h2, h3⟩
theorem clip_range {l : List (Int × Int)} {x : Int × Int} (h : x ∈ l.flatMap clip) : 0 ≤ x.1 ∧ x.1 ≤ x.2 ∧ x.2 ≤ 1114111 := by
  rw [List.mem_flatMap] at h
  obtain ⟨y, _, hy⟩ := h
  unfold clip at hy
  split at hy
  · rename_i hc
    rw [List.mem_singleton] at hy
    subst hy
    refine ⟨?_, hc, ?_⟩
    · show (0 : Int) ≤ max y.1 0; omega
    · show min y.2 1114111 ≤ (1114111 : Int); omega
  · simp at hy
theorem go1_all : ∀ (t : List (Int × Int)) (c : Int × Int), (0 ≤ c.1 ∧ c.1 ≤ c.2 ∧ c.2 ≤ 1114111) → (∀ y ∈ t, 0 ≤ y.1 ∧ y.1 ≤ y.2 ∧ y.2 ≤ 1114111) → (c :: t).Pairwise (fun x y => x.1 ≤ y.1) →
    Nrm (go1 c t) ∧ (∀ z ∈ go1 c t, c.1 ≤ z.1) ∧ ∀ r, inL (go1 c t) r = inL (c :: t) r
  | [], c, hc, _, _ => ⟨⟨fun x hx => by rw [go1, List.mem_singleton] at hx; subst hx; exact hc, by simp [go1]⟩, fun z hz => by rw [go1, List.mem_singleton] at hz; subst hz; omega, fun r => rfl⟩
  | y :: t, c, hc, hy, hp => by
    have hyc := hy y (by simp)
    have hp1 := List.pairwise_cons.1 hp
    have hp2 := List.pairwise_cons.1 hp1.2
    have hcy := hp1.1 y (by simp)
    unfold go1
    split
    · rename_i h
      have ih := go1_all t (c.1, max c.2 y.2) ⟨hc.1, by show c.1 ≤ max c.2 y.2; omega, by show max c.2 y.2 ≤ 1114111; omega⟩ (fun z hz => hy z (by simp [hz])) (List.pairwise_cons.2 ⟨fun z hz => hp1.1 z (by simp [hz]), hp2.2⟩)
      refine ⟨ih.1, ih.2.1, fun r => ?_⟩
      rw [ih.2.2 r, inL_cons, inL_cons, inL_cons, Bool.eq_iff_iff]
      by_cases ht : inL t r = true
      · simp [ht]
      · rw [Bool.not_eq_true] at ht
        simp only [ht, Bool.or_false, Bool.or_eq_true, Bool.and_eq_true, decide_eq_true_eq]
        omega
    · rename_i h
      have ih := go1_all t y hyc (fun z hz => hy z (by simp [hz])) hp1.2
      refine ⟨⟨fun z hz => ?_, List.pairwise_cons.2 ⟨fun z hz => ?_, ih.1.apart⟩⟩, fun z hz => ?_, fun r => ?_⟩
      · rcases List.mem_cons.1 hz with rfl | hz
        · exact hc
        · exact ih.1.inr z hz
      · have := ih.2.1 z hz
        omega
      · rcases List.mem_cons.1 hz with rfl | hz
        · omega
        · have := ih.2.1 z hz
          omega
      · rw [inL_cons, ih.2.2 r, inL_cons c]
theorem normL_all (l : List (Int × Int)) : Nrm (normL l) ∧ ∀ r, inL (normL l) r = hasL l r := by
  have hs := sortLo_sorted (l.flatMap clip)
  have hm := sortLo_perm (l.flatMap clip)
  unfold normL
  have hr : ∀ x ∈ sortLo (l.flatMap clip), 0 ≤ x.1 ∧ x.1 ≤ x.2 ∧ x.2 ≤ 1114111 := fun x hx => clip_range (hm.mem_iff.1 hx)
  have hin : ∀ r, inL (sortLo (l.flatMap clip)) r = hasL l r := fun r => (inL_perm hm r).trans (clip_in l r)
  generalize sortLo (l.flatMap clip) = s at hs hr hin
  cases s with
  | nil => exact ⟨Nrm.nil, hin⟩
  | cons x t =>
    have h := go1_all t x (hr x (by simp)) (fun z hz => hr z (by simp [hz])) hs
    exact ⟨h.1, fun r => (h.2.2 r).trans (hin r)⟩
theorem normL_nrm (l : List (Int × Int)) : Nrm (normL l) := (normL_all l).1
theorem normL_in (l : List (Int × Int)) (r : Int) : inL (normL l) r = hasL l r := (normL_all l).2 r
theorem hasL_nrm {l : List (Int × Int)} (h : Nrm l) (r : Int) : hasL l r = inL l r := by
  unfold hasL
  by_cases hi : inL l r = true
  · have := h.range hi
    rw [hi, decide_eq_true this.1, decide_eq_true this.2]; rfl
  · rw [Bool.not_eq_true] at hi
    rw [hi]; simp
theorem nrm_head {x : Int × Int} {t : List (Int × Int)} (h : Nrm (x :: t)) {r : Int} (hr : inL t r = true) : x.2 + 1 < r := by
  obtain ⟨y, hy, h1, h2⟩ := inL_iff.1 hr
  have := (List.pairwise_cons.1 h.apart).1 y hy
  omega
/-- ONE LIST A SET. -/
theorem nrm_ext : ∀ {a b : List (Int × Int)}, Nrm a → Nrm b → (∀ r, inL a r = inL b r) → a = b
  | [], [], _, _, _ => rfl
  | [], y :: t, _, hb, h => by
    have hy := hb.inr y (by simp)
    have := h y.1
    rw [inL_nil, inL_cons, decide_eq_true (by omega : y.1 ≤ y.1), decide_eq_true hy.2.1] at this
    simp at this
  | x :: s, [], ha, _, h => by
    have hx := ha.inr x (by simp)
    have := h x.1
    rw [inL_nil, inL_cons, decide_eq_true (by omega : x.1 ≤ x.1), decide_eq_true hx.2.1] at this
    simp at this
  | x :: s, y :: t, ha, hb, h => by
    have hx := ha.inr x (by simp)
    have hy := hb.inr y (by simp)
    have key : ∀ r, (x.1 ≤ r ∧ r ≤ x.2 ∨ inL s r = true) ↔ (y.1 ≤ r ∧ r ≤ y.2 ∨ inL t r = true) := fun r => by
      have := h r
      rw [inL_cons, inL_cons, Bool.eq_iff_iff] at this
      simpa using this
    have e1 : x.1 = y.1 := by
      have k1 := (key x.1).1 (.inl ⟨by omega, by omega⟩)
      have k2 := (key y.1).2 (.inl ⟨by omega, by omega⟩)
      rcases k1 with k1 | k1 <;> rcases k2 with k2 | k2
      · omega
      · have := nrm_head ha k2; omega
      · have := nrm_head hb k1; omega
      · have := nrm_head ha k2; have := nrm_head hb k1; omega
    have e2 : x.2 = y.2 := by
      rcases Int.lt_trichotomy x.2 y.2 with hlt | he | hgt
      · have k := (key (x.2 + 1)).2 (.inl ⟨by omega, by omega⟩)
        rcases k with k | k
        · omega
        · have := nrm_head ha k; omega
      · exact he
      · have k := (key (y.2 + 1)).1 (.inl ⟨by omega, by omega⟩)
        rcases k with k | k
        · omega
        · have := nrm_head hb k; omega
    have e : x = y := Prod.ext e1 e2
    subst e
    have ht : s = t := nrm_ext ha.tail hb.tail (fun r => by
      rw [Bool.eq_iff_iff]
      constructor
      · intro hr
        have := nrm_head ha hr
        rcases (key r).1 (.inr hr) with k | k
        · omega
        · exact k
      · intro hr
        have := nrm_head hb hr
        rcases (key r).2 (.inr hr) with k | k
        · omega
        · exact k)
    rw [ht]
theorem normL_self {l : List (Int × Int)} (h : Nrm l) : normL l = l := nrm_ext (normL_nrm l) h (fun r => by rw [normL_in, hasL_nrm h])
/-! What is in both. -/
theorem meet_in (x y : Int × Int) (r : Int) : inL (meet x y) r = ((decide (x.1 ≤ r) && decide (r ≤ x.2)) && (decide (y.1 ≤ r) && decide (r ≤ y.2))) := by
  unfold meet
  split
  · simp only [inL_cons, inL_nil, Bool.or_false]
    rw [Bool.eq_iff_iff]
    simp only [Bool.and_eq_true, decide_eq_true_eq]
    omega
  · rename_i h
    rw [inL_nil, Bool.eq_iff_iff]
    simp only [Bool.and_eq_true, decide_eq_true_eq]
    constructor
    · intro h; cases h
    · intro h'; exfalso; apply h; omega
theorem meets_in (x : Int × Int) : ∀ (b : List (Int × Int)) (r : Int), inL (meets x b) r = ((decide (x.1 ≤ r) && decide (r ≤ x.2)) && inL b r)
  | [], r => by rw [meets, inL_nil, Bool.and_false]
  | y :: t, r => by rw [meets, inL_append, meets_in x t r, meet_in, inL_cons, Bool.and_or_distrib_left]
theorem bothL_in : ∀ (a b : List (Int × Int)) (r : Int), inL (bothL a b) r = (inL a r && inL b r)
  | [], b, r => by rw [bothL, inL_nil, Bool.false_and]
  | x :: t, b, r => by rw [bothL, inL_append, bothL_in t b r, meets_in, inL_cons, Bool.and_or_distrib_right]
theorem mem_meet {x y z : Int × Int} (h : z ∈ meet x y) : z.1 ≤ z.2 ∧ x.1 ≤ z.1 ∧ y.1 ≤ z.1 ∧ z.2 ≤ x.2 ∧ z.2 ≤ y.2 := by
  unfold meet at h
  split at h
  · rename_i hc
    rw [List.mem_singleton] at h
    subst h
    refine ⟨hc, ?_, ?_, ?_, ?_⟩ <;> dsimp only <;> omega
  · simp at h
theorem mem_meets {x z : Int × Int} : ∀ {b : List (Int × Int)}, z ∈ meets x b → ∃ y ∈ b, z ∈ meet x y
  | [], h => by simp [meets] at h
  | y :: t, h => by
    rw [meets, List.mem_append] at h
    rcases h with h | h
    · exact ⟨y, by simp, h⟩
    · obtain ⟨y', hy', h'⟩ := mem_meets h
      exact ⟨y', by simp [hy'], h'⟩
theorem meet_pw (x y : Int × Int) : (meet x y).Pairwise (fun x y => x.2 + 1 < y.1) := by
  unfold meet
  split <;> simp
theorem meets_pw (x : Int × Int) : ∀ {b : List (Int × Int)}, b.Pairwise (fun x y => x.2 + 1 < y.1) → (meets x b).Pairwise (fun x y => x.2 + 1 < y.1)
  | [], _ => by simp [meets]
  | y :: t, h => by
    rw [List.pairwise_cons] at h
    rw [meets, List.pairwise_append]
    refine ⟨meet_pw x y, meets_pw x h.2, fun u hu v hv => ?_⟩
    obtain ⟨y', hy', hv'⟩ := mem_meets hv
    have := h.1 y' hy'
    have := mem_meet hu
    have := mem_meet hv'
    omega
theorem mem_bothL {z : Int × Int} : ∀ {a b : List (Int × Int)}, z ∈ bothL a b → ∃ x ∈ a, ∃ y ∈ b, z ∈ meet x y
  | [], b, h => by simp [bothL] at h
  | x :: t, b, h => by
    rw [bothL, List.mem_append] at h
    rcases h with h | h
    · obtain ⟨y, hy, h'⟩ := mem_meets h
      exact ⟨x, by simp, y, hy, h'⟩
    · obtain ⟨x', hx', y, hy, h'⟩ := mem_bothL h
      exact ⟨x', by simp [hx'], y, hy, h'⟩
theorem bothL_nrm {a b : List (Int × Int)} (ha : Nrm a) (hb : Nrm b) : Nrm (bothL a b) := by
  refine ⟨fun z hz => ?_, ?_⟩
  · obtain ⟨x, hx, y, hy, h⟩ := mem_bothL hz
    have := mem_meet h
    have := ha.inr x hx
    have := hb.inr y hy
    omega
  · have hbp : ∀ (b : List (Int × Int)), b.Pairwise (fun x y => x.2 + 1 < y.1) → (bothL a b).Pairwise (fun x y => x.2 + 1 < y.1) := by
      clear hb b
      intro b hb
      have hap := ha.apart
      clear ha
      induction a with
      | nil => simp [bothL]
      | cons x t ih =>
        rw [List.pairwise_cons] at hap
        rw [bothL, List.pairwise_append]
        refine ⟨meets_pw x hb, ih hap.2, fun u hu v hv => ?_⟩
        obtain ⟨y, _, hu'⟩ := mem_meets hu
        obtain ⟨x', hx', y', _, hv'⟩ := mem_bothL hv
        have := hap.1 x' hx'
        have := mem_meet hu'
        have := mem_meet hv'
        omega
    exact hbp b hb.apart
/-! What is in none. -/
def notG (from_ : Int) : List (Int × Int) → List (Int × Int)
  | [] => if from_ ≤ 1114111 then [(from_, 1114111)] else []
  | x :: t => if from_ < x.1 then (from_, x.1 - 1) :: notG (x.2 + 1) t else notG (x.2 + 1) t
def notL (l : List (Int × Int)) : List (Int × Int) := notG 0 (normL l)
theorem notG_all : ∀ (l : List (Int × Int)) (f : Int), 0 ≤ f → f ≤ 1114112 → Nrm l → (∀ x ∈ l, f ≤ x.1) → Nrm (notG f l) ∧ (∀ z ∈ notG f l, f ≤ z.1) ∧ ∀ r, inL (notG f l) r = (decide (f ≤ r) && (decide (r ≤ 1114111) && !inL l r))
  | [], f, h0, h1, _, _ => by
    unfold notG
    split
    · rename_i h
      refine ⟨⟨fun x hx => ?_, by simp⟩, fun z hz => ?_, fun r => ?_⟩
      · rw [List.mem_singleton] at hx
        subst hx
        exact ⟨h0, h, Int.le_refl _⟩
      · rw [List.mem_singleton] at hz
        subst hz
        exact Int.le_refl _
      · simp [inL_cons, inL_nil]
    · refine ⟨Nrm.nil, fun z hz => by simp at hz, fun r => ?_⟩
      rw [inL_nil, eq_comm, Bool.eq_false_iff]
      simp only [Bool.not_false, Bool.and_true, ne_eq, Bool.and_eq_true, decide_eq_true_eq]
      omega
  | x :: t, f, h0, h1, hn, hf => by
    have hx := hn.inr x (by simp)
    have hfx := hf x (by simp)
    have hp := List.pairwise_cons.1 hn.apart
    have ih := notG_all t (x.2 + 1) (by omega) (by omega) hn.tail (fun y hy => by have := hp.1 y hy; omega)
    have hgap : ∀ z ∈ notG (x.2 + 1) t, x.2 + 1 ≤ z.1 := ih.2.1
    unfold notG
    split
    · rename_i h
      refine ⟨⟨fun z hz => ?_, List.pairwise_cons.2 ⟨fun z hz => ?_, ih.1.apart⟩⟩, fun z hz => ?_, fun r => ?_⟩
      · rcases List.mem_cons.1 hz with rfl | hz
        · refine ⟨h0, ?_, ?_⟩ <;> dsimp only <;> omega
        · exact ih.1.inr z hz
      · have := hgap z hz
        dsimp only
        omega
      · rcases List.mem_cons.1 hz with rfl | hz
        · exact Int.le_refl _
        · have := hgap z hz; omega
      · rw [inL_cons, ih.2.2 r, inL_cons, Bool.eq_iff_iff]
        have hh := fun (e : inL t r = true) => nrm_head hn e
        by_cases ht : inL t r = true
        · have := hh ht
          simp only [ht, Bool.not_true, Bool.and_false, Bool.or_false, Bool.or_true, Bool.and_eq_true, decide_eq_true_eq]
          constructor
          · rintro ⟨_, h2⟩; omega
          · intro h'; simp at h'
        · rw [Bool.not_eq_true] at ht
          simp only [ht, Bool.or_false, Bool.not_false, Bool.and_true, Bool.or_eq_true, Bool.and_eq_true, decide_eq_true_eq, Bool.not_eq_true', Bool.and_eq_false_iff, decide_eq_false_iff_not]
          omega
    · rename_i h
      refine ⟨ih.1, fun z hz => by have := hgap z hz; omega, fun r => ?_⟩
      rw [ih.2.2 r, inL_cons, Bool.eq_iff_iff]
      by_cases ht : inL t r = true
      · simp only [ht, Bool.not_true, Bool.and_false, Bool.or_true]
      · rw [Bool.not_eq_true] at ht
        simp only [ht, Bool.or_false, Bool.not_false, Bool.and_true, Bool.and_eq_true, decide_eq_true_eq, Bool.not_eq_true', Bool.and_eq_false_iff, decide_eq_false_iff_not]
        omega
theorem notL_nrm (l : List (Int × Int)) : Nrm (notL l) := (notG_all (normL l) 0 (by omega) (by omega) (normL_nrm l) (fun x hx => ((normL_nrm l).inr x hx).1)).1
theorem notL_in (l : List (Int × Int)) (r : Int) : inL (notL l) r = (decide (0 ≤ r) && (decide (r ≤ 1114111) && !inL l r)) := by
  unfold notL
  rw [(notG_all (normL l) 0 (by omega) (by omega) (normL_nrm l) (fun x hx => ((normL_nrm l).inr x hx).1)).2.2 r, normL_in]
  unfold hasL
  cases decide (0 ≤ r) <;> cases decide (r ≤ 1114111) <;> simp
def unionL (a b : List (Int × Int)) : List (Int × Int) := normL (a ++ b)
def bothF (a b : List (Int × Int)) : List (Int × Int) := bothL (normL a) (normL b)
def minusL (a b : List (Int × Int)) : List (Int × Int) := bothF a (notL b)
theorem unionL_in (a b : List (Int × Int)) (r : Int) : inL (unionL a b) r = (hasL a r || hasL b r) := by
  unfold unionL
  rw [normL_in]
  unfold hasL
  rw [inL_append]
  cases decide (0 ≤ r) <;> cases decide (r ≤ 1114111) <;> simp
theorem bothF_in (a b : List (Int × Int)) (r : Int) : inL (bothF a b) r = (hasL a r && hasL b r) := by
  unfold bothF
  rw [bothL_in, normL_in, normL_in]
theorem minusL_in (a b : List (Int × Int)) (r : Int) : inL (minusL a b) r = (hasL a r && !hasL b r) := by
  unfold minusL
  rw [bothF_in, hasL_nrm (notL_nrm b), notL_in]
  unfold hasL
  cases decide (0 ≤ r) <;> cases decide (r ≤ 1114111) <;> simp
theorem bothF_nrm (a b : List (Int × Int)) : Nrm (bothF a b) := bothL_nrm (normL_nrm a) (normL_nrm b)
theorem unionL_nrm (a b : List (Int × Int)) : Nrm (unionL a b) := normL_nrm _
theorem minusL_nrm (a b : List (Int × Int)) : Nrm (minusL a b) := bothF_nrm _ _
/-! Lengths. -/
theorem clip_len (l : List (Int × Int)) : (l.flatMap clip).length ≤ l.length := by
  induction l with
  | nil => simp
  | cons x t ih =>
    rw [List.flatMap_cons, List.length_append, List.length_cons]
    have : (clip x).length ≤ 1 := by unfold clip; split <;> simp
    omega
theorem go1_len : ∀ (t : List (Int × Int)) (c : Int × Int), (go1 c t).length ≤ t.length + 1
  | [], c => by simp [go1]
  | y :: t, c => by
    unfold go1
    split
    · have := go1_len t (c.1, max c.2 y.2); simp; omega
    · have := go1_len t y; simp; omega
theorem normL_len (l : List (Int × Int)) : (normL l).length ≤ l.length := by
  have h1 := (sortLo_perm (l.flatMap clip)).length_eq
  have h2 := clip_len l
  unfold normL
  generalize sortLo (l.flatMap clip) = s at h1
  cases s with
  | nil => simp [mergeL]
  | cons x t =>
    have := go1_len t x
    rw [List.length_cons] at h1
    show (go1 x t).length ≤ _
    omega
theorem notG_len : ∀ (l : List (Int × Int)) (f : Int), (notG f l).length ≤ l.length + 1
  | [], f => by unfold notG; split <;> simp
  | x :: t, f => by
    unfold notG
    split
    · have := notG_len t (x.2 + 1); simp; omega
    · have := notG_len t (x.2 + 1); simp; omega
theorem notL_len (l : List (Int × Int)) : (notL l).length ≤ l.length + 1 := by
  have := notG_len (normL l) 0
  have := normL_len l
  unfold notL
  omega
end Go.Proofs.YthblpnfkdkhcpaaX
