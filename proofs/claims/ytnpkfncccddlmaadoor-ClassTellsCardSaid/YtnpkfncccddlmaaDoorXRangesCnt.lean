import Derived.Test.YtnpkfncccddlmaaDoorXRangesNorm
namespace Go.Proofs.YtnpkfncccddlmaaDoorX
set_option linter.unusedVariables false
/-! How many numbers a list holds. -/
def cnt (n : Nat) (p : Int → Bool) : Nat := (List.range n).countP (fun i : Nat => p (i : Int))
theorem cp_or_and {α : Type} (p q : α → Bool) : ∀ l : List α, l.countP (fun x => p x || q x) + l.countP (fun x => p x && q x) = l.countP p + l.countP q
  | [] => rfl
  | x :: t => by
    have ih := cp_or_and p q t
    simp only [List.countP_cons]
    cases p x <;> cases q x <;> simp <;> omega
theorem cp_not {α : Type} (p : α → Bool) : ∀ l : List α, l.countP p + l.countP (fun x => !p x) = l.length
  | [] => rfl
  | x :: t => by
    have ih := cp_not p t
    simp only [List.countP_cons, List.length_cons]
    cases p x <;> simp <;> omega
theorem cp_congr {α : Type} {p q : α → Bool} : ∀ {l : List α}, (∀ x ∈ l, p x = q x) → l.countP p = l.countP q
  | [], _ => rfl
  | x :: t, h => by
    simp only [List.countP_cons]
    rw [cp_congr (fun y hy => h y (List.mem_cons_of_mem _ hy)), h x (by simp)]
theorem cnt_or_and (n : Nat) (p q : Int → Bool) : cnt n (fun r => p r || q r) + cnt n (fun r => p r && q r) = cnt n p + cnt n q := cp_or_and (fun i : Nat => p i) (fun i : Nat => q i) _
theorem cnt_not (n : Nat) (p : Int → Bool) : cnt n p + cnt n (fun r => !p r) = n := by
  have := cp_not (fun i : Nat => p i) (List.range n)
  rw [List.length_range] at this
  exact this
theorem cnt_congr {n : Nat} {p q : Int → Bool} (h : ∀ r : Int, 0 ≤ r → r < n → p r = q r) : cnt n p = cnt n q :=
  cp_congr (fun x hx => h x (by omega) (by have := List.mem_range.1 hx; omega))
theorem cnt_le (n : Nat) (p : Int → Bool) : cnt n p ≤ n := by
  have := cnt_not n p
  omega
theorem cnt_none (n : Nat) : cnt n (fun _ => false) = 0 := by
  unfold cnt
  simp
theorem cnt_between (a b : Int) (h0 : 0 ≤ a) (h1 : a ≤ b) : ∀ n : Nat, (cnt n (fun r => decide (a ≤ r) && decide (r ≤ b)) : Int) = if (n : Int) ≤ a then 0 else if (n : Int) ≤ b + 1 then n - a else b - a + 1
  | 0 => by rw [if_pos (by omega)]; rfl
  | n + 1 => by
    have ih := cnt_between a b h0 h1 n
    unfold cnt at ih ⊢
    rw [List.range_succ, List.countP_append]
    have e : ([n].countP (fun i : Nat => decide (a ≤ (i : Int)) && decide ((i : Int) ≤ b)) : Nat) = if a ≤ (n : Int) ∧ (n : Int) ≤ b then 1 else 0 := by
      by_cases x : a ≤ (n : Int) <;> by_cases y : (n : Int) ≤ b <;> simp [x, y]
    rw [e]
    push_cast
    rw [ih]
    split <;> split <;> (try split) <;> (try split) <;> (try split) <;> omega
def sizeL : List (Int × Int) → Int
  | [] => 0
  | x :: t => (x.2 - x.1 + 1) + sizeL t
theorem sizeL_count : ∀ {l : List (Int × Int)}, Nrm l → sizeL l = (cnt 1114112 (inL l) : Int)
  | [], _ => by
    have : cnt 1114112 (inL []) = 0 := cnt_none _
    rw [this]; rfl
  | x :: t, h => by
    have hx := h.inr x (by simp)
    have ih := sizeL_count h.tail
    have e := cnt_or_and 1114112 (fun r => decide (x.1 ≤ r) && decide (r ≤ x.2)) (inL t)
    have z : cnt 1114112 (fun r => (decide (x.1 ≤ r) && decide (r ≤ x.2)) && inL t r) = 0 := by
      rw [cnt_congr (q := fun _ => false) (fun r _ _ => ?_), cnt_none]
      by_cases hi : inL t r = true
      · have := nrm_head h hi
        rw [decide_eq_false (show ¬ r ≤ x.2 by omega)]
        simp
      · rw [Bool.not_eq_true] at hi
        rw [hi, Bool.and_false]
    have b := cnt_between x.1 x.2 hx.1 hx.2.1 1114112
    rw [if_neg (by omega)] at b
    have c : cnt 1114112 (inL (x :: t)) = cnt 1114112 (fun r => (decide (x.1 ≤ r) && decide (r ≤ x.2)) || inL t r) := rfl
    rw [c]
    unfold sizeL
    rw [ih]
    split at b <;> omega
theorem size_norm (l : List (Int × Int)) : sizeL (normL l) = (cnt 1114112 (hasL l) : Int) := by
  rw [sizeL_count (normL_nrm l), cnt_congr (fun r _ _ => normL_in l r)]
theorem size_le {l : List (Int × Int)} (h : Nrm l) : sizeL l ≤ 1114112 := by
  have := cnt_le 1114112 (inL l)
  rw [sizeL_count h]
  omega
end Go.Proofs.YtnpkfncccddlmaaDoorX
