import Derived.Test.YthblpnfkdkhcpaaXFoldNext
namespace Go.Proofs.YthblpnfkdkhcpaaX
set_option linter.unusedVariables false

/-! What fold's families are, over plain numbers. -/
def ins (x : Int) : List Int → List Int
  | [] => [x]
  | y :: t => if x ≤ y then x :: y :: t else y :: ins x t
def isort : List Int → List Int
  | [] => []
  | x :: t => ins x (isort t)
theorem ins_perm (x : Int) : ∀ l, (ins x l).Perm (x :: l)
  | [] => List.Perm.refl _
  | y :: t => by
    unfold ins
    split
    · exact List.Perm.refl _
    · exact ((ins_perm x t).cons y).trans (List.Perm.swap x y t)
theorem isort_perm : ∀ l, (isort l).Perm l
  | [] => List.Perm.refl _
  | x :: t => (ins_perm x _).trans ((isort_perm t).cons x)
theorem ins_sorted (x : Int) : ∀ l : List Int, l.Pairwise (· ≤ ·) → (ins x l).Pairwise (· ≤ ·)
  | [], _ => by simp [ins]
  | y :: t, h => by
    unfold ins
    rw [List.pairwise_cons] at h
    split
    · rename_i hxy
      rw [List.pairwise_cons, List.pairwise_cons]
      refine ⟨fun a ha => ?_, h⟩
      rcases List.mem_cons.1 ha with rfl | ha
      · exact hxy
      · have := h.1 a ha; omega
    · rename_i hxy
      rw [List.pairwise_cons]
      refine ⟨fun a ha => ?_, ins_sorted x t h.2⟩
      rcases List.mem_cons.1 ((ins_perm x t).mem_iff.1 ha) with rfl | ha
      · omega
      · exact h.1 a ha
theorem isort_sorted : ∀ l, (isort l).Pairwise (· ≤ ·)
  | [] => List.Pairwise.nil
  | x :: t => ins_sorted x _ (isort_sorted t)
theorem merge_isort (l : List Int) : (l.mergeSort fun x y => decide (x ≤ y)) = isort l := by
  refine List.Perm.eq_of_pairwise (le := fun a b : Int => a ≤ b) (fun a b _ _ h1 h2 => by omega) ?_ (isort_sorted l) ((List.mergeSort_perm l _).trans (isort_perm l).symm)
  have := List.pairwise_mergeSort (le := fun x y : Int => decide (x ≤ y)) (fun a b c h1 h2 => by simp at *; omega) (fun a b => by simp; omega) l
  exact this.imp (fun h => by simpa using h)
def strict : List Int → Bool
  | [] => true
  | [_] => true
  | x :: y :: t => decide (x < y) && strict (y :: t)
def inBlocks (r : Int) : Bool := blocksL.any fun b => (decide (b.1 ≤ r) && decide (r ≤ b.2.1)) || (decide (b.1 + b.2.2 ≤ r) && decide (r ≤ b.2.1 + b.2.2))
def inOthers (r : Int) : Bool := othersL.any fun o => decide (o.1 = r) || decide (o.2 = r)
def chk (r : Int) : Bool :=
  let c := capF r
  let l := isort (fam0 c)
  decide (l.length ≤ 10) && strict l && l.contains r && l.all (fun x => decide (capF x = c)) && (inBlocks r || inOthers r || decide (l = [r]))
theorem chk_blocks : (blocksL.all fun b => (List.range (b.2.1 - b.1 + 1).toNat).all fun (i : Nat) => chk (b.1 + (i : Int)) && chk (b.1 + b.2.2 + (i : Int))) = true := by decide +kernel
theorem chk_others : (othersL.all fun o => chk o.1 && chk o.2) = true := by decide +kernel
theorem chk_in (r : Int) (h : inBlocks r = true ∨ inOthers r = true) : chk r = true := by
  rcases h with h | h
  · unfold inBlocks at h
    rw [List.any_eq_true] at h
    obtain ⟨b, hb, h⟩ := h
    have h2 := chk_blocks
    rw [List.all_eq_true] at h2
    have h3 := h2 b hb
    rw [List.all_eq_true] at h3
    simp only [Bool.or_eq_true, Bool.and_eq_true, decide_eq_true_eq] at h
    rcases h with h | h
    · have h4 := h3 (r - b.1).toNat (by rw [List.mem_range]; omega)
      rw [Bool.and_eq_true, show b.1 + ((r - b.1).toNat : Int) = r from by omega] at h4
      exact h4.1
    · have h4 := h3 (r - b.1 - b.2.2).toNat (by rw [List.mem_range]; omega)
      rw [Bool.and_eq_true, show b.1 + b.2.2 + ((r - b.1 - b.2.2).toNat : Int) = r from by omega] at h4
      exact h4.2
  · unfold inOthers at h
    rw [List.any_eq_true] at h
    obtain ⟨o, ho, h⟩ := h
    have h2 := chk_others
    rw [List.all_eq_true] at h2
    have h3 := h2 o ho
    simp only [Bool.or_eq_true, Bool.and_eq_true, decide_eq_true_eq] at h h3
    rcases h with rfl | rfl
    · exact h3.1
    · exact h3.2
theorem not_in {r : Int} (h : ¬ (inBlocks r = true ∨ inOthers r = true)) : (∀ b ∈ blocksL, ¬ (b.1 ≤ r ∧ r ≤ b.2.1) ∧ ¬ (b.1 + b.2.2 ≤ r ∧ r ≤ b.2.1 + b.2.2)) ∧ ∀ o ∈ othersL, ¬ o.1 = r ∧ ¬ o.2 = r := by
  refine ⟨fun b hb => ⟨fun h1 => h (.inl ?_), fun h1 => h (.inl ?_)⟩, fun o ho => ⟨fun h1 => h (.inr ?_), fun h1 => h (.inr ?_)⟩⟩
  · exact List.any_eq_true.2 ⟨b, hb, by simp [h1.1, h1.2]⟩
  · exact List.any_eq_true.2 ⟨b, hb, by simp [h1.1, h1.2]⟩
  · exact List.any_eq_true.2 ⟨o, ho, by simp [h1]⟩
  · exact List.any_eq_true.2 ⟨o, ho, by simp [h1]⟩
theorem capB_out {r : Int} : ∀ {l : List (Int × Int × Int)}, (∀ b ∈ l, ¬ (b.1 + b.2.2 ≤ r ∧ r ≤ b.2.1 + b.2.2)) → capB l r = r
  | [], _ => rfl
  | (lo, hi, up) :: t, h => by rw [capB_no (h (lo, hi, up) (by simp))]; exact capB_out (fun b hb => h b (by simp [hb]))
theorem capO_out {r : Int} : ∀ {l : List (Int × Int)}, (∀ o ∈ l, ¬ o.1 = r) → capO l r = capB blocksL r
  | [], _ => rfl
  | (a, b) :: t, h => by unfold capO; rw [if_neg (h (a, b) (by simp))]; exact capO_out (fun o ho => h o (by simp [ho]))
theorem famB_out {r : Int} : ∀ {l : List (Int × Int × Int)}, (∀ b ∈ l, ¬ (b.1 ≤ r ∧ r ≤ b.2.1)) → famB l r = []
  | [], _ => rfl
  | (lo, hi, up) :: t, h => by rw [famB_no (h (lo, hi, up) (by simp))]; exact famB_out (fun b hb => h b (by simp [hb]))
theorem famO_out {r : Int} : ∀ {l : List (Int × Int)}, (∀ o ∈ l, ¬ o.2 = r) → famO l r = []
  | [], _ => rfl
  | (a, b) :: t, h => by rw [famO_no (h (a, b) (by simp))]; exact famO_out (fun o ho => h o (by simp [ho]))
theorem cap_out (r : Int) (h : ¬ (inBlocks r = true ∨ inOthers r = true)) : capF r = r := by
  have h' := not_in h
  unfold capF
  rw [capO_out (fun o ho => (h'.2 o ho).1), capB_out (fun b hb => (h'.1 b hb).2)]
theorem fam0_out (r : Int) (h : ¬ (inBlocks r = true ∨ inOthers r = true)) : fam0 r = [r] := by
  have h' := not_in h
  unfold fam0
  rw [famB_out (fun b hb => (h'.1 b hb).1), famO_out (fun o ho => (h'.2 o ho).2)]
  rfl
/-- All that the laws lean on. -/
theorem fam_facts (r : Int) : ((famF r).length ≤ 10 ∧ strict (famF r) = true) ∧ r ∈ famF r ∧ (∀ x ∈ famF r, capF x = capF r) ∧ (inBlocks r = true ∨ inOthers r = true ∨ famF r = [r]) := by
  unfold famF
  rw [merge_isort]
  by_cases h : inBlocks r = true ∨ inOthers r = true
  · have hc := chk_in r h
    unfold chk at hc
    simp only [Bool.and_eq_true, Bool.or_eq_true, List.all_eq_true, decide_eq_true_eq] at hc
    obtain ⟨⟨⟨⟨h0, h1⟩, h2⟩, h3⟩, h4⟩ := hc
    refine ⟨⟨h0, h1⟩, by simpa using h2, h3, ?_⟩
    rcases h4 with (h4 | h4) | h4
    · exact .inl h4
    · exact .inr (.inl h4)
    · exact .inr (.inr h4)
  · rw [cap_out r h, fam0_out r h]
    refine ⟨⟨by simp [isort, ins], rfl⟩, by simp [isort, ins], fun x hx => ?_, .inr (.inr rfl)⟩
    have : x = r := by simpa [isort, ins] using hx
    rw [this, cap_out r h]
theorem fam_same {a b : Int} (h : capF a = capF b) : famF a = famF b := by unfold famF; rw [h]
theorem mem_fam {r x : Int} : x ∈ famF r ↔ capF x = capF r := by
  constructor
  · exact (fam_facts r).2.2.1 x
  · intro h
    have := (fam_facts x).2.1
    rwa [fam_same h] at this
theorem strict_getD : ∀ {l : List Int}, strict l = true → ∀ {i j : Nat}, i < j → j < l.length → l.getD i 0 < l.getD j 0
  | [], _, i, j, h1, h2 => by simp at h2
  | [x], _, i, j, h1, h2 => by simp at h2; omega
  | x :: y :: t, h, i, j, h1, h2 => by
    have hx : x < y ∧ strict (y :: t) = true := by simpa [strict] using h
    have ih := fun {i j : Nat} => strict_getD hx.2 (i := i) (j := j)
    cases j with
    | zero => omega
    | succ j =>
      cases i with
      | zero =>
        cases j with
        | zero => simpa using hx.1
        | succ j =>
          have := ih (i := 0) (j := j + 1) (by omega) (by simpa using h2)
          simp at this ⊢
          omega
      | succ i =>
        have := ih (i := i) (j := j) (by omega) (by simpa using h2)
        simpa using this
end Go.Proofs.YthblpnfkdkhcpaaX
