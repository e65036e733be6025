import Derived.Test.YtjajehjhonabdaaXVerifyOrdered
namespace Go.Proofs.YtjajehjhonabdaaX
open Go.RowKit Go.Proofs.YtjajehjhonabdaaW.PrintWords Go.Proofs.YtjajehjhonabdaaW.PrintLast Go.Proofs.YtjajehjhonabdaaW.PrintMore
set_option linter.unusedVariables false
set_option linter.unusedSimpArgs false
theorem incs_len (ts : List Int) : ∀ ins : List Int, (ts.foldl incAt ins).length = ins.length := by
  induction ts with
  | nil => intro ins; rfl
  | cons t ts ih => intro ins; rw [List.foldl_cons, ih]; unfold incAt; rw [List.length_set]
theorem inc_in {ins : List Int} {t B : Int} (h : ∀ v ∈ ins, 0 ≤ v ∧ v ≤ B) (hB : 0 ≤ B) : ∀ v ∈ incAt ins t, 0 ≤ v ∧ v ≤ B + 1 := by
  intro v hv
  unfold incAt at hv
  rcases List.mem_or_eq_of_mem_set hv with hv | rfl
  · have := h v hv; omega
  · by_cases ht : t.toNat < ins.length
    · rw [List.getD_eq_getElem?_getD, List.getElem?_eq_getElem ht]
      have := h _ (List.getElem_mem ht)
      simp only [Option.getD_some]
      omega
    · rw [List.getD_eq_getElem?_getD, List.getElem?_eq_none (by omega)]
      simp only [Option.getD_none]
      omega
theorem incs_in (ts : List Int) : ∀ {ins : List Int} {B : Int}, (∀ v ∈ ins, 0 ≤ v ∧ v ≤ B) → 0 ≤ B → ∀ v ∈ ts.foldl incAt ins, 0 ≤ v ∧ v ≤ B + ts.length := by
  induction ts with
  | nil => intro ins B h hB v hv; have := h v hv; simp; omega
  | cons t ts ih =>
    intro ins B h hB v hv
    rw [List.foldl_cons] at hv
    have := ih (inc_in (t := t) h hB) (by omega) v hv
    rw [List.length_cons]
    omega
theorem frees_len (l : List I5) : (l.flatMap freeN).length ≤ 2 * l.length := by
  induction l with
  | nil => simp
  | cons x t ih =>
    rw [List.flatMap_cons, List.length_append, List.length_cons]
    have : (freeN x).length ≤ 2 := by
      unfold freeN
      split
      · simp
      · exact leads_len x
    omega
theorem freeL_len (l : List I5) : (freeL l).length = l.length := by
  unfold freeL
  rw [incs_len, List.length_replicate]
theorem freeL_in (l : List I5) (h : l.length ≤ 4000) : ∀ v ∈ freeL l, 0 ≤ v ∧ v ≤ 8000 := by
  intro v hv
  have := incs_in (l.flatMap freeN) (ins := List.replicate l.length 0) (B := 0) (fun v hv => by rw [(List.mem_replicate.1 hv).2]; omega) (by omega) v hv
  have := frees_len l
  omega
/-- Do all instructions lead to instructions? -/
def ledB (l : List I5) : Bool := l.all fun x => (leadsV x).1.all fun t => decide (0 ≤ t) && decide (t < l.length)
theorem ledB_iff {l : List I5} : ledB l = true ↔ ∀ x ∈ l, ∀ t ∈ (leadsV x).1, 0 ≤ t ∧ t < l.length := by
  unfold ledB
  simp only [List.all_eq_true, Bool.and_eq_true, decide_eq_true_eq]
end Go.Proofs.YtjajehjhonabdaaX
