/- RangesPoints: the memberships of the results; no condition. -/
import Derived.Test.YtedilngdbmfhaaaHRangesPointsx5
import Derived.Test.YtedilngdbmfhaaaXRangesPure
namespace Go.Proofs.Ytedilngdbmfhaaa.Pure
open Go.RowKit Go.Proofs.Ytedilngdbmfhaaa.HRangesPoints Go.Proofs.YtedilngdbmfhaaaW.PrintWords Go.Proofs.YtedilngdbmfhaaaW.PrintLast
open Go.Proofs.YtedilngdbmfhaaaX

theorem has_f (l : List S36) (r : Int) : ranges_Has.f l r = some (hasL (l.map ofRg) r) := rfl
theorem has_to (l : List (Int × Int)) (r : Int) (hl : Nrm l) : ranges_Has.f (l.map toRg) r = some (inL l r) := by
  rw [has_f, map_forth, hasL_nrm hl]
theorem not_l0 (s : List (Int × Int)) (hs : ∀ x ∈ s, 0 ≤ x.1 ∧ x.1 ≤ x.2 ∧ x.2 ≤ 1114111) (hn : s.length ≤ 900000) (d : Nat) : ∀ (i : Nat) (p : List (Int × Int)) (f : Int), i ≤ s.length → s.length - i = d → p.length + d ≤ 900000 → 0 ≤ f → f ≤ 1114112 →
    Ev (fun k => ranges_Not.l0 k (p.map toRg) f (s.map toRg) (s.length : Int) i) ((p ++ notG f (s.drop i)).map toRg) := by
  induction d with
  | zero =>
    intro i p f hi hd hp h0 h1
    have e : i = s.length := by omega
    subst e
    refine Ev.step (fun k => ?_) (Ev.now _)
    simp only [ranges_Not.l0]
    rw [if_neg (by omega), List.drop_of_length_le (Nat.le_refl _)]
    by_cases hf : f ≤ 1114111
    · rw [if_pos hf, if_pos (by simp; omega), notG, if_pos hf]
      simp [toRg]
    · rw [if_neg hf, notG, if_neg hf, List.append_nil]
  | succ d ih =>
    intro i p f hi hd hp h0 h1
    have hlt : i < s.length := by omega
    have hx := hs _ (List.getElem_mem hlt)
    have hstep : ∀ k, ranges_Not.l0 (k + 1) (p.map toRg) f (s.map toRg) (s.length : Int) i = if s[i].1 > f then ranges_Not.l0 k ((p ++ [(f, s[i].1 - 1)]).map toRg) (s[i].2 + 1) (s.map toRg) (s.length : Int) ((i + 1 : Nat) : Int) else ranges_Not.l0 k (p.map toRg) (s[i].2 + 1) (s.map toRg) (s.length : Int) ((i + 1 : Nat) : Int) := by
      intro k
      simp only [ranges_Not.l0]
      rw [if_pos (by omega), if_pos (by omega), if_pos (by simp; omega), rd_rg s i hlt]
      rw [show (toRg s[i]).f0 = s[i].1 from rfl, show (toRg s[i]).f1 = s[i].2 from rfl, wrap_rg (x := s[i].1 - 1) (by omega) (by omega), wrap_rg (x := s[i].2 + 1) (by omega) (by omega), wrap_rg (x := (i : Int) + 1) (by omega) (by omega), show (i : Int) + 1 = ((i + 1 : Nat) : Int) by omega]
      rw [if_pos (c := (List.map toRg p).length < 8796093022208) (by simp; omega)]
      simp [toRg]
    rw [List.drop_eq_getElem_cons hlt, notG]
    by_cases h : s[i].1 > f
    · rw [if_pos h]
      have := ih (i + 1) (p ++ [(f, s[i].1 - 1)]) (s[i].2 + 1) (by omega) (by omega) (by simp; omega) (by omega) (by omega)
      rw [List.append_assoc] at this
      exact Ev.step (fun k => by rw [hstep k, if_pos h]) this
    · rw [if_neg h]
      exact Ev.step (fun k => by rw [hstep k, if_neg h]) (ih (i + 1) p (s[i].2 + 1) (by omega) (by omega) (by omega) (by omega) (by omega))
theorem not_ev (l : List S36) (hn : l.length ≤ 900000) : Ev (fun k => ranges_Not.f k l) ((notL (l.map ofRg)).map toRg) := by
  have hl := normL_len (l.map ofRg)
  rw [List.length_map] at hl
  have hN := normL_nrm (l.map ofRg)
  have := not_l0 (normL (l.map ofRg)) (fun x hx => hN.inr x hx) (by omega) _ 0 [] 0 (Nat.zero_le _) rfl (by simp; omega) (by omega) (by omega)
  unfold ranges_Not.f
  refine Ev.bind (norm_ev l hn) ?_
  simpa [notL] using this
theorem minus_ev (l0 l1 : List S36) (h0 : l0.length ≤ 900) (h1 : l1.length ≤ 800) : Ev (fun k => ranges_Minus.f k l0 l1) ((minusL (l0.map ofRg) (l1.map ofRg)).map toRg) := by
  have hl := notL_len (l1.map ofRg)
  rw [List.length_map] at hl
  unfold ranges_Minus.f
  refine Ev.bind (not_ev l1 (by omega)) (Ev.congr (fun k => ?_) (Ev.now _))
  unfold ranges_Both.f
  rw [if_pos (by simp; omega), map_forth]
  rfl
theorem works_ev : Ev burinlaw02_works.f true := Ev.of burinlaw02_works.mono (k := 12) (by decide +kernel)
theorem union_f (l0 l1 : List S36) (h0 : l0.length ≤ 400000) (h1 : l1.length ≤ 400000) : ranges_Union.f l0 l1 = some ((unionL (l0.map ofRg) (l1.map ofRg)).map toRg) := by unfold ranges_Union.f; rw [if_pos ⟨h0, h1⟩]
theorem both_f (l0 l1 : List S36) (h0 : l0.length ≤ 900) (h1 : l1.length ≤ 900) : ranges_Both.f l0 l1 = some ((bothF (l0.map ofRg) (l1.map ofRg)).map toRg) := by unfold ranges_Both.f; rw [if_pos ⟨h0, h1⟩]
theorem RangesPoints (l0 l1 : List S36) (a2 : Int) : ∃ k, burinlaw02_RangesPoints.f k l0 l1 a2 = some true := by
  obtain ⟨K0, hw⟩ := works_ev
  by_cases h0 : l0.length ≤ 60
  · by_cases h1 : l1.length ≤ 60
    · obtain ⟨K1, hM⟩ := minus_ev l0 l1 (by omega) (by omega)
      obtain ⟨K2, hN⟩ := not_ev l0 (by omega)
      refine ⟨K0 + K1 + K2 + 2, ?_⟩
      simp only [burinlaw02_RangesPoints.f]
      rw [hw _ (by omega), Option.bind_some, if_pos rfl, if_neg (by omega), decide_eq_false (by omega)]
      simp only [burinlaw02_RangesPoints.j0, burinlaw02_RangesPoints.j1]
      have hM' : ranges_Minus.f (K0 + K1 + K2) l0 l1 = _ := hM _ (by omega)
      have hN' : ranges_Not.f (K0 + K1 + K2) l0 = _ := hN _ (by omega)
      rw [hM', hN', union_f l0 l1 (by omega) (by omega), both_f l0 l1 (by omega) (by omega)]
      simp only [Option.bind_some, has_f l0, has_f l1]
      rw [has_to _ _ (unionL_nrm _ _), has_to _ _ (bothF_nrm _ _), has_to _ _ (minusL_nrm _ _), has_to _ _ (notL_nrm _), unionL_in, bothF_in, minusL_in, notL_in]
      simp only [Option.bind_some]
      have hh : hasL (l0.map ofRg) a2 = (decide (0 ≤ a2) && (decide (a2 ≤ 1114111) && inL (l0.map ofRg) a2)) := rfl
      rw [hh]
      generalize inL (l0.map ofRg) a2 = m0
      generalize hasL (l1.map ofRg) a2 = m1
      by_cases g0 : 0 ≤ a2 <;> by_cases g1 : a2 ≤ 1114111 <;> cases m0 <;> cases m1 <;> simp [g0, g1]
    · refine ⟨K0 + 1, ?_⟩
      simp only [burinlaw02_RangesPoints.f]
      rw [hw _ (by omega), Option.bind_some, if_pos rfl, if_neg (by omega), decide_eq_true (by omega)]
      simp [burinlaw02_RangesPoints.j0]
  · refine ⟨K0 + 1, ?_⟩
    simp only [burinlaw02_RangesPoints.f]
    rw [hw _ (by omega), Option.bind_some, if_pos rfl, if_pos (by omega)]
    simp [burinlaw02_RangesPoints.j0]
end Go.Proofs.Ytedilngdbmfhaaa.Pure
