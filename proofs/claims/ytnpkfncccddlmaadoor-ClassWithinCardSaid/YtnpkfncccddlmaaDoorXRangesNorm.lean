import Derived.Test.YtnpkfncccddlmaaDoorXRg
import Derived.Test.YtnpkfncccddlmaaDoorXRangesHas
namespace Go.Proofs.YtnpkfncccddlmaaDoorX
open Go.RowKit Go.Proofs.YtnpkfncccddlmaaDoorW.PrintWords Go.Proofs.YtnpkfncccddlmaaDoorW.PrintLast Go.Proofs.YtnpkfncccddlmaaDoorW.PrintMore
set_option linter.unusedVariables false
set_option linter.unusedSimpArgs false
/-! Sets of numbers as lists of ranges, over plain numbers. -/
def clip (x : Int × Int) : List (Int × Int) := if max x.1 0 ≤ min x.2 1114111 then [(max x.1 0, min x.2 1114111)] else []
def go1 (c : Int × Int) : List (Int × Int) → List (Int × Int)
  | [] => [c]
  | y :: t => if y.1 ≤ c.2 + 1 then go1 (c.1, max c.2 y.2) t else c :: go1 y t
def mergeL : List (Int × Int) → List (Int × Int)
  | [] => []
  | x :: t => go1 x t
def normL (l : List (Int × Int)) : List (Int × Int) := mergeL (sortLo (l.flatMap clip))
/-- In range, one behind the other, with a gap. -/
structure Nrm (l : List (Int × Int)) : Prop where
  inr : ∀ x ∈ l, 0 ≤ x.1 ∧ x.1 ≤ x.2 ∧ x.2 ≤ 1114111
  apart : l.Pairwise (fun x y => x.2 + 1 < y.1)
theorem Nrm.nil : Nrm [] := ⟨fun x hx => by simp at hx, List.Pairwise.nil⟩
theorem inL_nil (r : Int) : inL [] r = false := rfl
theorem inL_cons (x : Int × Int) (t : List (Int × Int)) (r : Int) : inL (x :: t) r = ((decide (x.1 ≤ r) && decide (r ≤ x.2)) || inL t r) := rfl
theorem inL_append (a b : List (Int × Int)) (r : Int) : inL (a ++ b) r = (inL a r || inL b r) := by unfold inL; rw [List.any_append]
theorem inL_iff {l : List (Int × Int)} {r : Int} : inL l r = true ↔ ∃ x ∈ l, x.1 ≤ r ∧ r ≤ x.2 := by
  unfold inL
  rw [List.any_eq_true]
  simp
theorem inL_perm {a b : List (Int × Int)} (h : a.Perm b) (r : Int) : inL a r = inL b r := by
  rw [Bool.eq_iff_iff, inL_iff, inL_iff]
  exact ⟨fun ⟨x, hx, h1⟩ => ⟨x, h.mem_iff.1 hx, h1⟩, fun ⟨x, hx, h1⟩ => ⟨x, h.mem_iff.2 hx, h1⟩⟩
theorem Nrm.tail {x : Int × Int} {t : List (Int × Int)} (h : Nrm (x :: t)) : Nrm t := ⟨fun y hy => h.inr y (by simp [hy]), (List.pairwise_cons.1 h.apart).2⟩
theorem Nrm.range {l : List (Int × Int)} (h : Nrm l) {r : Int} (hr : inL l r = true) : 0 ≤ r ∧ r ≤ 1114111 := by
  obtain ⟨x, hx, h1, h2⟩ := inL_iff.1 hr
  have := h.inr x hx
  omega
theorem clip_in (l : List (Int × Int)) (r : Int) : inL (l.flatMap clip) r = hasL l r := by
  unfold hasL
  induction l with
  | nil => simp [inL]
  | cons x t ih =>
    rw [List.flatMap_cons, inL_append, ih, inL_cons]
    unfold clip
    split
    · rename_i h
      simp only [inL_cons, inL_nil, Bool.or_false]
      rw [Bool.eq_iff_iff]
      by_cases ht : inL t r = true
      · simp only [ht, Bool.or_true, Bool.and_true, Bool.or_eq_true, Bool.and_eq_true, decide_eq_true_eq]
        omega
      · rw [Bool.not_eq_true] at ht
        simp only [ht, Bool.or_false, Bool.and_false, Bool.and_eq_true, decide_eq_true_eq]
        omega
    · rename_i h
      rw [inL_nil, Bool.false_or, Bool.eq_iff_iff]
      simp only [Bool.or_eq_true, Bool.and_eq_true, decide_eq_true_eq]
      constructor
      · rintro ⟨h1, h2, h3⟩; exact ⟨h1, h2, .inr h3⟩
      · rintro ⟨h1, h2, h3 | h3⟩
        · exfalso; apply h; omega
        · exact ⟨h1, h2, h3⟩
theorem clip_range {l : List (Int × Int)} {x : Int × Int} (h : x ∈ l.flatMap clip) : 0 ≤ x.1 ∧ x.1 ≤ x.2 ∧ x.2 ≤ 1114111 := by
  rw [List.mem_flatMap] at h
  obtain ⟨y, _, hy⟩ := h
  unfold clip at hy
  split at hy
  · rename_i hc
    rw [List.mem_singleton] at hy
    subst hy
    refine ⟨?_, hc, ?_⟩
    · show (0 : Int) ≤ max y.1 0; omega
    · show min y.2 1114111 ≤ (1114111 : Int); omega
  · simp at hy
theorem go1_all : ∀ (t : List (Int × Int)) (c : Int × Int), (0 ≤ c.1 ∧ c.1 ≤ c.2 ∧ c.2 ≤ 1114111) → (∀ y ∈ t, 0 ≤ y.1 ∧ y.1 ≤ y.2 ∧ y.2 ≤ 1114111) → (c :: t).Pairwise (fun x y => x.1 ≤ y.1) →
    Nrm (go1 c t) ∧ (∀ z ∈ go1 c t, c.1 ≤ z.1) ∧ ∀ r, inL (go1 c t) r = inL (c :: t) r
  | [], c, hc, _, _ => ⟨⟨fun x hx => by rw [go1, List.mem_singleton] at hx; subst hx; exact hc, by simp [go1]⟩, fun z hz => by rw [go1, List.mem_singleton] at hz; subst hz; omega, fun r => rfl⟩
  | y :: t, c, hc, hy, hp => by
    have hyc := hy y (by simp)
    have hp1 := List.pairwise_cons.1 hp
    have hp2 := List.pairwise_cons.1 hp1.2
    have hcy := hp1.1 y (by simp)
    unfold go1
    split
    · rename_i h
      have ih := go1_all t (c.1, max c.2 y.2) ⟨hc.1, by show c.1 ≤ max c.2 y.2; omega, by show max c.2 y.2 ≤ 1114111; omega⟩ (fun z hz => hy z (by simp [hz])) (List.pairwise_cons.2 ⟨fun z hz => hp1.1 z (by simp [hz]), hp2.2⟩)
      refine ⟨ih.1, ih.2.1, fun r => ?_⟩
      rw [ih.2.2 r, inL_cons, inL_cons, inL_cons, Bool.eq_iff_iff]
      by_cases ht : inL t r = true
      · simp [ht]
      · rw [Bool.not_eq_true] at ht
        simp only [ht, Bool.or_false, Bool.or_eq_true, Bool.and_eq_true, decide_eq_true_eq]
        omega
    · rename_i h
      have ih := go1_all t y hyc (fun z hz => hy z (by simp [hz])) hp1.2
      refine ⟨⟨fun z hz => ?_, List.pairwise_cons.2 ⟨fun z hz => ?_, ih.1.apart⟩⟩, fun z hz => ?_, fun r => ?_⟩
      · rcases List.mem_cons.1 hz with rfl | hz
        · exact hc
        · exact ih.1.inr z hz
      · have := ih.2.1 z hz
        omega
      · rcases List.mem_cons.1 hz with rfl | hz
        · omega
        · have := ih.2.1 z hz
          omega
      · rw [inL_cons, ih.2.2 r, inL_cons c]
theorem normL_all (l : List (Int × Int)) : Nrm (normL l) ∧ ∀ r, inL (normL l) r = hasL l r := by
  have hs := sortLo_sorted (l.flatMap clip)
  have hm := sortLo_perm (l.flatMap clip)
  unfold normL
  have hr : ∀ x ∈ sortLo (l.flatMap clip), 0 ≤ x.1 ∧ x.1 ≤ x.2 ∧ x.2 ≤ 1114111 := fun x hx => clip_range (hm.mem_iff.1 hx)
  have hin : ∀ r, inL (sortLo (l.flatMap clip)) r = hasL l r := fun r => (inL_perm hm r).trans (clip_in l r)
  generalize sortLo (l.flatMap clip) = s at hs hr hin
  cases s with
  | nil => exact ⟨Nrm.nil, hin⟩
  | cons x t =>
    have h := go1_all t x (hr x (by simp)) (fun z hz => hr z (by simp [hz])) hs
    exact ⟨h.1, fun r => (h.2.2 r).trans (hin r)⟩
theorem normL_nrm (l : List (Int × Int)) : Nrm (normL l) := (normL_all l).1
theorem normL_in (l : List (Int × Int)) (r : Int) : inL (normL l) r = hasL l r := (normL_all l).2 r
theorem hasL_nrm {l : List (Int × Int)} (h : Nrm l) (r : Int) : hasL l r = inL l r := by
  unfold hasL
  by_cases hi : inL l r = true
  · have := h.range hi
    rw [hi, decide_eq_true this.1, decide_eq_true this.2]; rfl
  · rw [Bool.not_eq_true] at hi
    rw [hi]; simp
theorem nrm_head {x : Int × Int} {t : List (Int × Int)} (h : Nrm (x :: t)) {r : Int} (hr : inL t r = true) : x.2 + 1 < r := by
  obtain ⟨y, hy, h1, h2⟩ := inL_iff.1 hr
  have := (List.pairwise_cons.1 h.apart).1 y hy
  omega
/-- ONE LIST A SET. -/
theorem nrm_ext : ∀ {a b : List (Int × Int)}, Nrm a → Nrm b → (∀ r, inL a r = inL b r) → a = b
  | [], [], _, _, _ => rfl
  | [], y :: t, _, hb, h => by
    have hy := hb.inr y (by simp)
    have := h y.1
    rw [inL_nil, inL_cons, decide_eq_true (by omega : y.1 ≤ y.1), decide_eq_true hy.2.1] at this
    simp at this
  | x :: s, [], ha, _, h => by
    have hx := ha.inr x (by simp)
    have := h x.1
    rw [inL_nil, inL_cons, decide_eq_true (by omega : x.1 ≤ x.1), decide_eq_true hx.2.1] at this
    simp at this
  | x :: s, y :: t, ha, hb, h => by
    have hx := ha.inr x (by simp)
    have hy := hb.inr y (by simp)
    have key : ∀ r, (x.1 ≤ r ∧ r ≤ x.2 ∨ inL s r = true) ↔ (y.1 ≤ r ∧ r ≤ y.2 ∨ inL t r = true) := fun r => by
      have := h r
      rw [inL_cons, inL_cons, Bool.eq_iff_iff] at this
      simpa using this
    have e1 : x.1 = y.1 := by
      have k1 := (key x.1).1 (.inl ⟨by omega, by omega⟩)
      have k2 := (key y.1).2 (.inl ⟨by omega, by omega⟩)
      rcases k1 with k1 | k1 <;> rcases k2 with k2 | k2
      · omega
      · have := nrm_head ha k2; omega
      · have := nrm_head hb k1; omega
      · have := nrm_head ha k2; have := nrm_head hb k1; omega
    have e2 : x.2 = y.2 := by
      rcases Int.lt_trichotomy x.2 y.2 with hlt | he | hgt
      · have k := (key (x.2 + 1)).2 (.inl ⟨by omega, by omega⟩)
        rcases k with k | k
        · omega
        · have := nrm_head ha k; omega
      · exact he
      · have k := (key (y.2 + 1)).1 (.inl ⟨by omega, by omega⟩)
        rcases k with k | k
        · omega
        · have := nrm_head hb k; omega
    have e : x = y := Prod.ext e1 e2
    subst e
    have ht : s = t := nrm_ext ha.tail hb.tail (fun r => by
      rw [Bool.eq_iff_iff]
      constructor
      · intro hr
        have := nrm_head ha hr
        rcases (key r).1 (.inr hr) with k | k
        · omega
        · exact k
      · intro hr
        have := nrm_head hb hr
        rcases (key r).2 (.inr hr) with k | k
        · omega
        · exact k)
    rw [ht]
theorem normL_self {l : List (Int × Int)} (h : Nrm l) : normL l = l := nrm_ext (normL_nrm l) h (fun r => by rw [normL_in, hasL_nrm h])
theorem clip_len (l : List (Int × Int)) : (l.flatMap clip).length ≤ l.length := by
  induction l with
  | nil => simp
  | cons x t ih =>
    rw [List.flatMap_cons, List.length_append, List.length_cons]
    have : (clip x).length ≤ 1 := by unfold clip; split <;> simp
    omega
theorem go1_len : ∀ (t : List (Int × Int)) (c : Int × Int), (go1 c t).length ≤ t.length + 1
  | [], c => by simp [go1]
  | y :: t, c => by
    unfold go1
    split
    · have := go1_len t (c.1, max c.2 y.2); simp; omega
    · have := go1_len t y; simp; omega
theorem normL_len (l : List (Int × Int)) : (normL l).length ≤ l.length := by
  have h1 := (sortLo_perm (l.flatMap clip)).length_eq
  have h2 := clip_len l
  unfold normL
  generalize sortLo (l.flatMap clip) = s at h1
  cases s with
  | nil => simp [mergeL]
  | cons x t =>
    have := go1_len t x
    rw [List.length_cons] at h1
    show (go1 x t).length ≤ _
    omega
end Go.Proofs.YtnpkfncccddlmaaDoorX
