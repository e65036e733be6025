import Derived.Test.YthblpnfkdkhcpaaXFoldCaps
import Derived.Test.YthblpnfkdkhcpaaXFoldPure
import Derived.Test.YthblpnfkdkhcpaaXRangesSize
namespace Go.Proofs.YthblpnfkdkhcpaaX
set_option linter.unusedVariables false
/-! What fold.Close answers, over plain lists. -/
def capsAll : List Int := capsB 0 ++ capsO 0
def chk2 (r : Int) : Bool := capsAll.contains (capF r) && decide (capF (capF r) = capF r)
theorem chk2_blocks : (blocksL.all fun b => (List.range (b.2.1 - b.1 + 1).toNat).all fun (i : Nat) => chk2 (b.1 + (i : Int)) && chk2 (b.1 + b.2.2 + (i : Int))) = true := by decide +kernel
theorem chk2_others : (othersL.all fun o => chk2 o.1 && chk2 o.2) = true := by decide +kernel
theorem chk2_in (r : Int) (h : inBlocks r = true ∨ inOthers r = true) : chk2 r = true := by
  rcases h with h | h
  · unfold inBlocks at h
    rw [List.any_eq_true] at h
    obtain ⟨b, hb, h⟩ := h
    have h2 := chk2_blocks
    rw [List.all_eq_true] at h2
    have h3 := h2 b hb
    rw [List.all_eq_true] at h3
    simp only [Bool.or_eq_true, Bool.and_eq_true, decide_eq_true_eq] at h
    rcases h with h | h
    · have h4 := h3 (r - b.1).toNat (by rw [List.mem_range]; omega)
      rw [Bool.and_eq_true, show b.1 + ((r - b.1).toNat : Int) = r from by omega] at h4
      exact h4.1
    · have h4 := h3 (r - b.1 - b.2.2).toNat (by rw [List.mem_range]; omega)
      rw [Bool.and_eq_true, show b.1 + b.2.2 + ((r - b.1 - b.2.2).toNat : Int) = r from by omega] at h4
      exact h4.2
  · unfold inOthers at h
    rw [List.any_eq_true] at h
    obtain ⟨o, ho, h⟩ := h
    have h2 := chk2_others
    rw [List.all_eq_true] at h2
    have h3 := h2 o ho
    simp only [Bool.or_eq_true, Bool.and_eq_true, decide_eq_true_eq] at h h3
    rcases h with rfl | rfl
    · exact h3.1
    · exact h3.2
theorem inL_singles {f : List Int} {r : Int} : inL (f.map (fun r => (r, r))) r = true ↔ r ∈ f := by
  rw [inL_iff]
  constructor
  · rintro ⟨x, hx, h1, h2⟩
    obtain ⟨y, hy, rfl⟩ := List.mem_map.1 hx
    have : y = r := by simp at h1 h2; omega
    exact this ▸ hy
  · intro h
    exact ⟨(r, r), List.mem_map.2 ⟨r, h, rfl⟩, by simp, by simp⟩
theorem inL_flat {α : Type} {c : List α} {g : α → List (Int × Int)} {r : Int} : inL (c.flatMap g) r = true ↔ ∃ x ∈ c, inL (g x) r = true := by
  rw [inL_iff]
  constructor
  · rintro ⟨x, hx, h⟩
    obtain ⟨y, hy, hx⟩ := List.mem_flatMap.1 hx
    exact ⟨y, hy, inL_iff.2 ⟨x, hx, h⟩⟩
  · rintro ⟨y, hy, h⟩
    obtain ⟨x, hx, h⟩ := inL_iff.1 h
    exact ⟨x, List.mem_flatMap.2 ⟨y, hy, hx⟩, h⟩
theorem addF_in {l : List (Int × Int)} {c r : Int} : inL (addF l c) r = true ↔ capF r = capF c ∧ (famF r).any (hasL l) = true := by
  unfold addF
  by_cases h : (famF c).any (hasL l) = true
  · rw [if_pos h, inL_singles, mem_fam]
    constructor
    · intro e
      exact ⟨e, by rw [fam_same e]; exact h⟩
    · exact fun e => e.1
  · rw [if_neg h]
    constructor
    · intro e; cases e
    · intro e
      rw [fam_same e.1] at e
      exact absurd e.2 h
theorem closeL_in (l : List (Int × Int)) (r : Int) : inL (closeL l) r = (decide (0 ≤ r) && (decide (r ≤ 1114111) && (famF r).any (hasL l))) := by
  unfold closeL
  rw [normL_in]
  unfold hasL
  rw [inL_append]
  by_cases h0 : 0 ≤ r
  · by_cases h1 : r ≤ 1114111
    · rw [decide_eq_true h0, decide_eq_true h1, Bool.true_and, Bool.true_and, Bool.true_and, Bool.true_and]
      change (inL l r || inL (capsAll.flatMap (addF l)) r) = (famF r).any (hasL l)
      have hl : inL l r = hasL l r := by unfold hasL; rw [decide_eq_true h0, decide_eq_true h1, Bool.true_and, Bool.true_and]
      rw [hl, Bool.eq_iff_iff, Bool.or_eq_true, inL_flat]
      constructor
      · rintro (h | ⟨c, hc, h⟩)
        · exact List.any_eq_true.2 ⟨r, (fam_facts r).2.1, h⟩
        · exact (addF_in.1 h).2
      · intro h
        rcases (fam_facts r).2.2.2 with hi | hi | hi
        · have hk := chk2_in r (.inl hi)
          unfold chk2 at hk
          simp only [Bool.and_eq_true, decide_eq_true_eq, List.contains_iff_mem] at hk
          exact .inr ⟨capF r, hk.1, addF_in.2 ⟨hk.2.symm, h⟩⟩
        · have hk := chk2_in r (.inr hi)
          unfold chk2 at hk
          simp only [Bool.and_eq_true, decide_eq_true_eq, List.contains_iff_mem] at hk
          exact .inr ⟨capF r, hk.1, addF_in.2 ⟨hk.2.symm, h⟩⟩
        · rw [hi] at h
          exact .inl (by simpa using h)
    · rw [decide_eq_false h1, Bool.false_and, Bool.false_and]
  · rw [decide_eq_false h0, Bool.false_and, Bool.false_and]
theorem closeL_nrm (l : List (Int × Int)) : Nrm (closeL l) := normL_nrm _
theorem any_congr' {f : List Int} {p q : Int → Bool} (h : ∀ x ∈ f, p x = q x) : f.any p = f.any q := by
  induction f with
  | nil => rfl
  | cons x t ih => rw [List.any_cons, List.any_cons, h x (by simp), ih (fun y hy => h y (by simp [hy]))]
theorem close_twice (l : List (Int × Int)) : closeL (closeL l) = closeL l := by
  refine nrm_ext (closeL_nrm _) (closeL_nrm _) fun r => ?_
  rw [closeL_in, closeL_in]
  by_cases h0 : 0 ≤ r
  · by_cases h1 : r ≤ 1114111
    · rw [decide_eq_true h0, decide_eq_true h1, Bool.true_and, Bool.true_and, Bool.true_and, Bool.true_and, Bool.eq_iff_iff]
      constructor
      · intro h
        obtain ⟨x, hx, h⟩ := List.any_eq_true.1 h
        rw [hasL_nrm (closeL_nrm l), closeL_in, fam_same (mem_fam.1 hx)] at h
        simp only [Bool.and_eq_true] at h
        exact h.2.2
      · intro h
        refine List.any_eq_true.2 ⟨r, (fam_facts r).2.1, ?_⟩
        rw [hasL_nrm (closeL_nrm l), closeL_in, h, decide_eq_true h0, decide_eq_true h1]
        rfl
    · rw [decide_eq_false h1, Bool.false_and, Bool.false_and]
  · rw [decide_eq_false h0, Bool.false_and, Bool.false_and]
theorem close_union (a b : List (Int × Int)) : closeL (unionL a b) = unionL (closeL a) (closeL b) := by
  refine nrm_ext (closeL_nrm _) (unionL_nrm _ _) fun r => ?_
  rw [closeL_in, unionL_in, hasL_nrm (closeL_nrm a), hasL_nrm (closeL_nrm b), closeL_in, closeL_in]
  have e : (famF r).any (hasL (unionL a b)) = ((famF r).any (hasL a) || (famF r).any (hasL b)) := by
    rw [any_congr' (q := fun x => hasL a x || hasL b x) (fun x _ => by rw [hasL_nrm (unionL_nrm a b), unionL_in])]
    generalize famF r = f
    induction f with
    | nil => rfl
    | cons x t ih =>
      rw [List.any_cons, List.any_cons, List.any_cons, ih]
      cases hasL a x <;> cases hasL b x <;> cases t.any (hasL a) <;> rfl
  rw [e]
  cases decide (0 ≤ r) <;> cases decide (r ≤ 1114111) <;> rfl
theorem close_minus (a : List (Int × Int)) : minusL a (closeL a) = [] := by
  refine nrm_ext (minusL_nrm _ _) Nrm.nil fun r => ?_
  rw [minusL_in, inL_nil, hasL_nrm (closeL_nrm a), closeL_in]
  by_cases h : hasL a r = true
  · have ha : (famF r).any (hasL a) = true := List.any_eq_true.2 ⟨r, (fam_facts r).2.1, h⟩
    rw [ha, h]
    unfold hasL at h
    simp only [Bool.and_eq_true] at h
    rw [h.1, h.2.1]
    rfl
  · rw [Bool.not_eq_true] at h
    rw [h, Bool.false_and]
theorem fams_len : (capsAll.map fun c => (isort (fam0 (capF c))).length).sum ≤ 500 := by decide +kernel
theorem close_len (l : List (Int × Int)) : (closeL l).length ≤ l.length + 500 := by
  unfold closeL
  refine Nat.le_trans (normL_len _) ?_
  rw [List.length_append]
  have hg : ∀ c : List Int, (c.flatMap (addF l)).length ≤ (c.map fun c => (isort (fam0 (capF c))).length).sum := by
    intro c
    induction c with
    | nil => simp
    | cons x t ih =>
      have hx : (addF l x).length ≤ (isort (fam0 (capF x))).length := by
        have e : (famF x).length = (isort (fam0 (capF x))).length := by unfold famF; rw [merge_isort]
        unfold addF
        split
        · rw [List.length_map, e]; exact Nat.le_refl _
        · exact Nat.zero_le _
      rw [List.flatMap_cons, List.length_append, List.map_cons, List.sum_cons]
      omega
  have := hg capsAll
  have e := fams_len
  have e2 : (capsB 0 ++ capsO 0) = capsAll := rfl
  rw [e2]
  omega
end Go.Proofs.YthblpnfkdkhcpaaX
