/- RangesRight: the results are normalized; no condition. -/
import Derived.Test.YtedilngdbmfhaaaHRangesRightx5
import Derived.Test.YtedilngdbmfhaaaXRangesSize
namespace Go.Proofs.Ytedilngdbmfhaaa.Pure
open Go.RowKit Go.Proofs.Ytedilngdbmfhaaa.HRangesRight Go.Proofs.YtedilngdbmfhaaaW.PrintWords Go.Proofs.YtedilngdbmfhaaaW.PrintLast
open Go.Proofs.YtedilngdbmfhaaaX

theorem has_f (l : List S36) (r : Int) : ranges_Has.f l r = some (hasL (l.map ofRg) r) := rfl
theorem has_to (l : List (Int × Int)) (r : Int) (hl : Nrm l) : ranges_Has.f (l.map toRg) r = some (inL l r) := by
  rw [has_f, map_forth, hasL_nrm hl]
theorem not_l0 (s : List (Int × Int)) (hs : ∀ x ∈ s, 0 ≤ x.1 ∧ x.1 ≤ x.2 ∧ x.2 ≤ 1114111) (hn : s.length ≤ 900000) (d : Nat) : ∀ (i : Nat) (p : List (Int × Int)) (f : Int), i ≤ s.length → s.length - i = d → p.length + d ≤ 900000 → 0 ≤ f → f ≤ 1114112 →
    Ev (fun k => ranges_Not.l0 k (p.map toRg) f (s.map toRg) (s.length : Int) i) ((p ++ notG f (s.drop i)).map toRg) := by
  induction d with
  | zero =>
    intro i p f hi hd hp h0 h1
    have e : i = s.length := by omega
    subst e
    refine Ev.step (fun k => ?_) (Ev.now _)
    simp only [ranges_Not.l0]
    rw [if_neg (by omega), List.drop_of_length_le (Nat.le_refl _)]
    by_cases hf : f ≤ 1114111
    · rw [if_pos hf, if_pos (by simp; omega), notG, if_pos hf]
      simp [toRg]
    · rw [if_neg hf, notG, if_neg hf, List.append_nil]
  | succ d ih =>
    intro i p f hi hd hp h0 h1
    have hlt : i < s.length := by omega
    have hx := hs _ (List.getElem_mem hlt)
    have hstep : ∀ k, ranges_Not.l0 (k + 1) (p.map toRg) f (s.map toRg) (s.length : Int) i = if s[i].1 > f then ranges_Not.l0 k ((p ++ [(f, s[i].1 - 1)]).map toRg) (s[i].2 + 1) (s.map toRg) (s.length : Int) ((i + 1 : Nat) : Int) else ranges_Not.l0 k (p.map toRg) (s[i].2 + 1) (s.map toRg) (s.length : Int) ((i + 1 : Nat) : Int) := by
      intro k
      simp only [ranges_Not.l0]
      rw [if_pos (by omega), if_pos (by omega), if_pos (by simp; omega), rd_rg s i hlt]
      rw [show (toRg s[i]).f0 = s[i].1 from rfl, show (toRg s[i]).f1 = s[i].2 from rfl, wrap_rg (x := s[i].1 - 1) (by omega) (by omega), wrap_rg (x := s[i].2 + 1) (by omega) (by omega), wrap_rg (x := (i : Int) + 1) (by omega) (by omega), show (i : Int) + 1 = ((i + 1 : Nat) : Int) by omega]
      rw [if_pos (c := (List.map toRg p).length < 8796093022208) (by simp; omega)]
      simp [toRg]
    rw [List.drop_eq_getElem_cons hlt, notG]
    by_cases h : s[i].1 > f
    · rw [if_pos h]
      have := ih (i + 1) (p ++ [(f, s[i].1 - 1)]) (s[i].2 + 1) (by omega) (by omega) (by simp; omega) (by omega) (by omega)
      rw [List.append_assoc] at this
      exact Ev.step (fun k => by rw [hstep k, if_pos h]) this
    · rw [if_neg h]
      exact Ev.step (fun k => by rw [hstep k, if_neg h]) (ih (i + 1) p (s[i].2 + 1) (by omega) (by omega) (by omega) (by omega) (by omega))
theorem not_ev (l : List S36) (hn : l.length ≤ 900000) : Ev (fun k => ranges_Not.f k l) ((notL (l.map ofRg)).map toRg) := by
  have hl := normL_len (l.map ofRg)
  rw [List.length_map] at hl
  have hN := normL_nrm (l.map ofRg)
  have := not_l0 (normL (l.map ofRg)) (fun x hx => hN.inr x hx) (by omega) _ 0 [] 0 (Nat.zero_le _) rfl (by simp; omega) (by omega) (by omega)
  unfold ranges_Not.f
  refine Ev.bind (norm_ev l hn) ?_
  simpa [notL] using this
theorem minus_ev (l0 l1 : List S36) (h0 : l0.length ≤ 900) (h1 : l1.length ≤ 800) : Ev (fun k => ranges_Minus.f k l0 l1) ((minusL (l0.map ofRg) (l1.map ofRg)).map toRg) := by
  have hl := notL_len (l1.map ofRg)
  rw [List.length_map] at hl
  unfold ranges_Minus.f
  refine Ev.bind (not_ev l1 (by omega)) (Ev.congr (fun k => ?_) (Ev.now _))
  unfold ranges_Both.f
  rw [if_pos (by simp; omega), map_forth]
  rfl
theorem works_ev : Ev burinlaw02_works.f true := Ev.of burinlaw02_works.mono (k := 12) (by decide +kernel)
theorem union_f (l0 l1 : List S36) (h0 : l0.length ≤ 400000) (h1 : l1.length ≤ 400000) : ranges_Union.f l0 l1 = some ((unionL (l0.map ofRg) (l1.map ofRg)).map toRg) := by unfold ranges_Union.f; rw [if_pos ⟨h0, h1⟩]
theorem both_f (l0 l1 : List S36) (h0 : l0.length ≤ 900) (h1 : l1.length ≤ 900) : ranges_Both.f l0 l1 = some ((bothF (l0.map ofRg) (l1.map ofRg)).map toRg) := by unfold ranges_Both.f; rw [if_pos ⟨h0, h1⟩]
theorem same_l0 (s : List S36) (hn : s.length ≤ 900000) (d : Nat) : ∀ i : Nat, i ≤ s.length → s.length - i = d → Ev (fun k => burinbook_SameRanges.l0 k s s true i) true := by
  induction d with
  | zero =>
    intro i hi hd
    refine Ev.step (fun k => ?_) (Ev.now _)
    simp only [burinbook_SameRanges.l0]
    rw [if_pos trivial, if_neg (by omega)]
  | succ d ih =>
    intro i hi hd
    refine Ev.step (fun k => ?_) (ih (i + 1) (by omega) (by omega))
    simp only [burinbook_SameRanges.l0]
    rw [if_pos trivial, if_pos (by omega), if_pos (by omega), if_pos (by omega), wrap_rg (x := (i : Int) + 1) (by omega) (by omega), show (i : Int) + 1 = ((i + 1 : Nat) : Int) by omega]
    simp
theorem same_ev (s : List S36) (hn : s.length ≤ 900000) : Ev (fun k => burinbook_SameRanges.f k s s) true := by
  have := same_l0 s hn _ 0 (Nat.zero_le _) rfl
  unfold burinbook_SameRanges.f
  simpa using this
def chk (p : Int) : List (Int × Int) → Int
  | [] => 0
  | x :: t => if x.1 < 0 ∨ x.1 > 1114111 ∨ x.2 < 0 ∨ x.2 > 1114111 then 1 else if x.1 > x.2 then 4 else if x.1 ≤ p + 1 then 4 else chk x.2 t
theorem chk_nrm : ∀ {l : List (Int × Int)} {p : Int}, Nrm l → (∀ x ∈ l, p + 1 < x.1) → chk p l = 0
  | [], _, _, _ => rfl
  | x :: t, p, h, hp => by
    have hx := h.inr x (by simp)
    have h1 := hp x (by simp)
    unfold chk
    rw [if_neg (by omega), if_neg (by omega), if_neg (by omega)]
    exact chk_nrm h.tail (fun y hy => (List.pairwise_cons.1 h.apart).1 y hy)
theorem nrm_chk : ∀ {l : List (Int × Int)} {p : Int}, chk p l = 0 → Nrm l ∧ ∀ x ∈ l, p + 1 < x.1
  | [], _, _ => ⟨Nrm.nil, fun x hx => by cases hx⟩
  | x :: t, p, h => by
    unfold chk at h
    split at h
    · omega
    · split at h
      · omega
      · split at h
        · omega
        · obtain ⟨h1, h2⟩ := nrm_chk h
          refine ⟨⟨fun y hy => ?_, List.pairwise_cons.2 ⟨h2, h1.apart⟩⟩, fun y hy => ?_⟩
          · rcases List.mem_cons.1 hy with rfl | hy
            · omega
            · exact h1.inr y hy
          · rcases List.mem_cons.1 hy with rfl | hy
            · omega
            · have := h2 y hy
              omega
theorem check_l0 (s : List (Int × Int)) (hn : s.length ≤ 900000) (d : Nat) : ∀ (i : Nat) (p : Int), i ≤ s.length → s.length - i = d → -2 ≤ p → p ≤ 1114111 →
    Ev (fun k => ranges_Check.l0 k p (s.map toRg) (s.length : Int) i) (chk p (s.drop i)) := by
  induction d with
  | zero =>
    intro i p hi hd h0 h1
    have e : i = s.length := by omega
    subst e
    refine Ev.step (fun k => ?_) (Ev.now _)
    simp only [ranges_Check.l0]
    rw [if_neg (by omega), List.drop_of_length_le (Nat.le_refl _)]
    rfl
  | succ d ih =>
    intro i p hi hd h0 h1
    have hlt : i < s.length := by omega
    rw [List.drop_eq_getElem_cons hlt, chk]
    have hd : ∀ k, ranges_Check.l0 (k + 1) p (s.map toRg) (s.length : Int) i = ranges_Check.j1 k p (s.map toRg) (s.length : Int) i (decide (s[i].1 < 0 ∨ s[i].1 > 1114111 ∨ s[i].2 < 0 ∨ s[i].2 > 1114111)) s[i].1 s[i].2 := by
      intro k
      simp only [ranges_Check.l0]
      rw [if_pos (by omega), if_pos (by omega), if_pos (by simp; omega), rd_rg s i hlt]
      rw [show (toRg s[i]).f0 = s[i].1 from rfl, show (toRg s[i]).f1 = s[i].2 from rfl]
      by_cases x0 : s[i].1 < 0
      · rw [if_pos x0, decide_eq_true (by omega)]
      · rw [if_neg x0]
        by_cases x1 : s[i].1 > 1114111
        · rw [if_pos x1, decide_eq_true (by omega)]
        · rw [if_neg x1]
          by_cases x2 : s[i].2 < 0
          · rw [if_pos x2, decide_eq_true (by omega)]
          · rw [if_neg x2]
            by_cases x3 : s[i].2 > 1114111
            · rw [decide_eq_true x3, decide_eq_true (by omega)]
            · rw [decide_eq_false x3, decide_eq_false (by omega)]
    by_cases c1 : s[i].1 < 0 ∨ s[i].1 > 1114111 ∨ s[i].2 < 0 ∨ s[i].2 > 1114111
    · rw [if_pos c1]
      refine Ev.step hd (Ev.step (fun k => ?_) (Ev.now _))
      simp only [ranges_Check.j1]
      rw [decide_eq_true c1, if_pos rfl]
    · rw [if_neg c1]
      by_cases c2 : s[i].1 > s[i].2
      · rw [if_pos c2]
        refine Ev.step hd (Ev.step (fun k => ?_) (Ev.now _))
        simp only [ranges_Check.j1]
        rw [decide_eq_false c1, if_neg (by simp), if_pos c2]
      · rw [if_neg c2]
        by_cases c3 : s[i].1 ≤ p + 1
        · rw [if_pos c3]
          refine Ev.step hd (Ev.step (fun k => ?_) (Ev.now _))
          simp only [ranges_Check.j1]
          rw [decide_eq_false c1, if_neg (by simp), if_neg c2, wrap_rg (x := p + 1) (by omega) (by omega), if_pos c3]
        · rw [if_neg c3]
          refine Ev.step hd (Ev.step (fun k => ?_) (ih (i + 1) s[i].2 (by omega) (by omega) (by omega) (by omega)))
          simp only [ranges_Check.j1]
          rw [decide_eq_false c1, if_neg (by simp), if_neg c2, wrap_rg (x := p + 1) (by omega) (by omega), if_neg c3, wrap_rg (x := (i : Int) + 1) (by omega) (by omega), show (i : Int) + 1 = ((i + 1 : Nat) : Int) by omega]
theorem check_ev (s : List (Int × Int)) (hn : s.length ≤ 900000) : Ev (fun k => ranges_Check.f k (s.map toRg)) (chk (-2) s) := by
  have := check_l0 s hn _ 0 (-2) (Nat.zero_le _) rfl (by omega) (by omega)
  unfold ranges_Check.f
  simpa using this
theorem right_last (s : List (Int × Int)) (hn : s.length ≤ 900000) : Ev (fun k => (ranges_Check.f k (s.map toRg)).bind fun t => if t = 0 then (burinbook_SameRanges.f k ((normL s).map toRg) (s.map toRg)).bind fun u => some u else some true) true := by
  refine Ev.bind (check_ev s hn) ?_
  by_cases h : chk (-2) s = 0
  · simp only [h, if_true]
    rw [normL_self (nrm_chk h).1]
    exact Ev.bind (same_ev _ (by simpa using hn)) (Ev.now _)
  · simp only [h, if_false]
    exact Ev.now _
theorem right_loop (s : List (Int × Int)) (hn : s.length ≤ 900000) (ys : List (List (Int × Int))) (hl : ys.length ≤ 100) (hy : ∀ y ∈ ys, Nrm y ∧ y.length ≤ 900000) (d : Nat) : ∀ i : Nat, i ≤ ys.length → ys.length - i = d →
    Ev (fun k => burinlaw02_RangesRight.l0 k (s.map toRg) ((normL s).map toRg) (ys.map (List.map toRg)) (ys.length : Int) i) true := by
  induction d with
  | zero =>
    intro i hi hd
    refine Ev.step (fun k => ?_) (right_last s hn)
    simp only [burinlaw02_RangesRight.l0]
    rw [if_neg (by omega)]
  | succ d ih =>
    intro i hi hd
    have hlt : i < ys.length := by omega
    obtain ⟨hN, hL⟩ := hy _ (List.getElem_mem hlt)
    have hr : rd_L2 (ys.map (List.map toRg)) (i : Int) = ys[i].map toRg := by simp [rd_L2, hlt]
    have e1 := check_ev ys[i] hL
    rw [chk_nrm hN (fun x hx => by have := (hN.inr x hx).1; omega)] at e1
    have e2 := norm_ev (ys[i].map toRg) (by simpa using hL)
    rw [map_forth, normL_self hN] at e2
    have e3 := same_ev (ys[i].map toRg) (by simpa using hL)
    refine Ev.step (fun k => ?_) (Ev.bind e1 (f := fun k t => if t = 0 then (ranges_Norm.f k (ys[i].map toRg)).bind fun u => (burinbook_SameRanges.f k u (ys[i].map toRg)).bind fun v => if v = true then burinlaw02_RangesRight.l0 k (s.map toRg) ((normL s).map toRg) (ys.map (List.map toRg)) (ys.length : Int) ((i + 1 : Nat) : Int) else some false else some false) ?_)
    · simp only [burinlaw02_RangesRight.l0]
      rw [if_pos (by omega), if_pos (by omega), if_pos (by simp; omega), hr, wrap_rg (x := (i : Int) + 1) (by omega) (by omega), show (i : Int) + 1 = ((i + 1 : Nat) : Int) by omega]
    · simp only [if_true]
      refine Ev.bind e2 (Ev.bind e3 ?_)
      simp only [if_true]
      exact ih (i + 1) (by omega) (by omega)
theorem RangesRight (l0 l1 : List S36) : ∃ k, burinlaw02_RangesRight.f k l0 l1 = some true := by
  obtain ⟨K0, hw⟩ := works_ev
  by_cases h0 : l0.length ≤ 60
  · by_cases h1 : l1.length ≤ 60
    · obtain ⟨a, rfl⟩ : ∃ a, l0 = a.map toRg := ⟨l0.map ofRg, (map_back l0).symm⟩
      obtain ⟨b, rfl⟩ : ∃ b, l1 = b.map toRg := ⟨l1.map ofRg, (map_back l1).symm⟩
      rw [List.length_map] at h0 h1
      have lU := unionL_len a b
      have lB := bothF_len a b
      have lB2 : a.length * b.length ≤ 60 * 60 := Nat.mul_le_mul h0 h1
      have lNa := notL_len a
      have lNb := notL_len b
      have lM := bothF_len a (notL b)
      have lM2 : a.length * (notL b).length ≤ 60 * 61 := Nat.mul_le_mul h0 (by omega)
      have lM3 : (minusL a b).length = (bothF a (notL b)).length := rfl
      have lna := normL_len a
      obtain ⟨K2, g2⟩ := not_ev (a.map toRg) (by simp; omega)
      obtain ⟨K5, g5⟩ := norm_ev (a.map toRg) (by simp; omega)
      obtain ⟨K13, g13⟩ := minus_ev (a.map toRg) (b.map toRg) (by simp; omega) (by simp; omega)
      have g := union_f (a.map toRg) (b.map toRg) (by simp; omega) (by simp; omega)
      have g' := both_f (a.map toRg) (b.map toRg) (by simp; omega) (by simp; omega)
      simp only [map_forth] at g2 g5 g13 g g'
      obtain ⟨K14, g14⟩ := right_loop a (by omega) [normL a, unionL a b, bothF a b, minusL a b, notL a] (by simp) (fun y hy => by
        simp only [List.mem_cons, List.not_mem_nil, or_false] at hy
        rcases hy with rfl | rfl | rfl | rfl | rfl
        · exact ⟨normL_nrm _, by omega⟩
        · exact ⟨unionL_nrm _ _, by omega⟩
        · exact ⟨bothF_nrm _ _, by omega⟩
        · exact ⟨minusL_nrm _ _, by omega⟩
        · exact ⟨notL_nrm _, by omega⟩) _ 0 (Nat.zero_le _) rfl
      obtain ⟨K, hK⟩ : ∃ K, K = K0 + K2 + K5 + K13 + K14 := ⟨_, rfl⟩
      refine ⟨K + 1, ?_⟩
      simp only [burinlaw02_RangesRight.f]
      rw [hw _ (by omega), Option.bind_some, if_pos rfl, if_neg (by simp; omega), decide_eq_false (by simp; omega)]
      simp only [burinlaw02_RangesRight.j0]
      rw [if_neg (by simp), g5 _ (by omega), Option.bind_some, g, Option.bind_some, g', Option.bind_some, g13 _ (by omega), Option.bind_some, g2 _ (by omega), Option.bind_some, Option.bind_some]
      have := g14 K (by omega)
      simpa using this
    · refine ⟨K0 + 1, ?_⟩
      simp only [burinlaw02_RangesRight.f]
      rw [hw _ (by omega), Option.bind_some, if_pos rfl, if_neg (by omega), decide_eq_true (by omega)]
      simp [burinlaw02_RangesRight.j0]
  · refine ⟨K0 + 1, ?_⟩
    simp only [burinlaw02_RangesRight.f]
    rw [hw _ (by omega), Option.bind_some, if_pos rfl, if_pos (by omega)]
    simp [burinlaw02_RangesRight.j0]
end Go.Proofs.Ytedilngdbmfhaaa.Pure
