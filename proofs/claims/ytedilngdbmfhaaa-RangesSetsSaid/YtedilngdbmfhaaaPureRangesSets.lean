/- RangesSets: the laws of sets and of their sizes; no condition. -/
import Derived.Test.YtedilngdbmfhaaaHRangesSetsx5
import Derived.Test.YtedilngdbmfhaaaXRangesSize
namespace Go.Proofs.Ytedilngdbmfhaaa.Pure
open Go.RowKit Go.Proofs.Ytedilngdbmfhaaa.HRangesSets Go.Proofs.YtedilngdbmfhaaaW.PrintWords Go.Proofs.YtedilngdbmfhaaaW.PrintLast
open Go.Proofs.YtedilngdbmfhaaaX

theorem has_f (l : List S36) (r : Int) : ranges_Has.f l r = some (hasL (l.map ofRg) r) := rfl
theorem has_to (l : List (Int × Int)) (r : Int) (hl : Nrm l) : ranges_Has.f (l.map toRg) r = some (inL l r) := by
  rw [has_f, map_forth, hasL_nrm hl]
theorem not_l0 (s : List (Int × Int)) (hs : ∀ x ∈ s, 0 ≤ x.1 ∧ x.1 ≤ x.2 ∧ x.2 ≤ 1114111) (hn : s.length ≤ 900000) (d : Nat) : ∀ (i : Nat) (p : List (Int × Int)) (f : Int), i ≤ s.length → s.length - i = d → p.length + d ≤ 900000 → 0 ≤ f → f ≤ 1114112 →
    Ev (fun k => ranges_Not.l0 k (p.map toRg) f (s.map toRg) (s.length : Int) i) ((p ++ notG f (s.drop i)).map toRg) := by
  induction d with
  | zero =>
    intro i p f hi hd hp h0 h1
    have e : i = s.length := by omega
    subst e
    refine Ev.step (fun k => ?_) (Ev.now _)
    simp only [ranges_Not.l0]
    rw [if_neg (by omega), List.drop_of_length_le (Nat.le_refl _)]
    by_cases hf : f ≤ 1114111
    · rw [if_pos hf, if_pos (by simp; omega), notG, if_pos hf]
      simp [toRg]
    · rw [if_neg hf, notG, if_neg hf, List.append_nil]
  | succ d ih =>
    intro i p f hi hd hp h0 h1
    have hlt : i < s.length := by omega
    have hx := hs _ (List.getElem_mem hlt)
    have hstep : ∀ k, ranges_Not.l0 (k + 1) (p.map toRg) f (s.map toRg) (s.length : Int) i = if s[i].1 > f then ranges_Not.l0 k ((p ++ [(f, s[i].1 - 1)]).map toRg) (s[i].2 + 1) (s.map toRg) (s.length : Int) ((i + 1 : Nat) : Int) else ranges_Not.l0 k (p.map toRg) (s[i].2 + 1) (s.map toRg) (s.length : Int) ((i + 1 : Nat) : Int) := by
      intro k
      simp only [ranges_Not.l0]
      rw [if_pos (by omega), if_pos (by omega), if_pos (by simp; omega), rd_rg s i hlt]
      rw [show (toRg s[i]).f0 = s[i].1 from rfl, show (toRg s[i]).f1 = s[i].2 from rfl, wrap_rg (x := s[i].1 - 1) (by omega) (by omega), wrap_rg (x := s[i].2 + 1) (by omega) (by omega), wrap_rg (x := (i : Int) + 1) (by omega) (by omega), show (i : Int) + 1 = ((i + 1 : Nat) : Int) by omega]
      rw [if_pos (c := (List.map toRg p).length < 8796093022208) (by simp; omega)]
      simp [toRg]
    rw [List.drop_eq_getElem_cons hlt, notG]
    by_cases h : s[i].1 > f
    · rw [if_pos h]
      have := ih (i + 1) (p ++ [(f, s[i].1 - 1)]) (s[i].2 + 1) (by omega) (by omega) (by simp; omega) (by omega) (by omega)
      rw [List.append_assoc] at this
      exact Ev.step (fun k => by rw [hstep k, if_pos h]) this
    · rw [if_neg h]
      exact Ev.step (fun k => by rw [hstep k, if_neg h]) (ih (i + 1) p (s[i].2 + 1) (by omega) (by omega) (by omega) (by omega) (by omega))
theorem not_ev (l : List S36) (hn : l.length ≤ 900000) : Ev (fun k => ranges_Not.f k l) ((notL (l.map ofRg)).map toRg) := by
  have hl := normL_len (l.map ofRg)
  rw [List.length_map] at hl
  have hN := normL_nrm (l.map ofRg)
  have := not_l0 (normL (l.map ofRg)) (fun x hx => hN.inr x hx) (by omega) _ 0 [] 0 (Nat.zero_le _) rfl (by simp; omega) (by omega) (by omega)
  unfold ranges_Not.f
  refine Ev.bind (norm_ev l hn) ?_
  simpa [notL] using this
theorem minus_ev (l0 l1 : List S36) (h0 : l0.length ≤ 900) (h1 : l1.length ≤ 800) : Ev (fun k => ranges_Minus.f k l0 l1) ((minusL (l0.map ofRg) (l1.map ofRg)).map toRg) := by
  have hl := notL_len (l1.map ofRg)
  rw [List.length_map] at hl
  unfold ranges_Minus.f
  refine Ev.bind (not_ev l1 (by omega)) (Ev.congr (fun k => ?_) (Ev.now _))
  unfold ranges_Both.f
  rw [if_pos (by simp; omega), map_forth]
  rfl
theorem works_ev : Ev burinlaw02_works.f true := Ev.of burinlaw02_works.mono (k := 12) (by decide +kernel)
theorem union_f (l0 l1 : List S36) (h0 : l0.length ≤ 400000) (h1 : l1.length ≤ 400000) : ranges_Union.f l0 l1 = some ((unionL (l0.map ofRg) (l1.map ofRg)).map toRg) := by unfold ranges_Union.f; rw [if_pos ⟨h0, h1⟩]
theorem both_f (l0 l1 : List S36) (h0 : l0.length ≤ 900) (h1 : l1.length ≤ 900) : ranges_Both.f l0 l1 = some ((bothF (l0.map ofRg) (l1.map ofRg)).map toRg) := by unfold ranges_Both.f; rw [if_pos ⟨h0, h1⟩]
theorem count_l0 (s : List (Int × Int)) (hs : ∀ x ∈ s, 0 ≤ x.1 ∧ x.1 ≤ x.2 ∧ x.2 ≤ 1114111) (hn : s.length ≤ 900000) (d : Nat) : ∀ (i : Nat) (a : Int), i ≤ s.length → s.length - i = d → 0 ≤ a → a + sizeL (s.drop i) ≤ 1114112 →
    Ev (fun k => ranges_Count.l0 k a (s.map toRg) (s.length : Int) i) (a + sizeL (s.drop i)) := by
  induction d with
  | zero =>
    intro i a hi hd h0 h1
    have e : i = s.length := by omega
    subst e
    refine Ev.step (fun k => ?_) (Ev.now _)
    simp only [ranges_Count.l0]
    rw [if_neg (by omega), List.drop_of_length_le (Nat.le_refl _)]
    simp [sizeL]
  | succ d ih =>
    intro i a hi hd h0 h1
    have hlt : i < s.length := by omega
    have hx := hs _ (List.getElem_mem hlt)
    rw [List.drop_eq_getElem_cons hlt, sizeL] at h1 ⊢
    have hp : 0 ≤ sizeL (s.drop (i + 1)) := sizeL_pos (fun x hx => (hs x (List.mem_of_mem_drop hx)).2.1)
    have := ih (i + 1) (a + (s[i].2 - s[i].1 + 1)) (by omega) (by omega) (by omega) (by omega)
    rw [← Int.add_assoc]
    refine Ev.step (fun k => ?_) this
    simp only [ranges_Count.l0]
    rw [if_pos (by omega), if_pos (by omega), if_pos (by simp; omega), rd_rg s i hlt]
    rw [show (toRg s[i]).f0 = s[i].1 from rfl, show (toRg s[i]).f1 = s[i].2 from rfl, wrap_rg (x := s[i].2 - s[i].1) (by omega) (by omega), wrap_rg (x := s[i].2 - s[i].1 + 1) (by omega) (by omega), wrap_rg (x := a + (s[i].2 - s[i].1 + 1)) (by omega) (by omega), wrap_rg (x := (i : Int) + 1) (by omega) (by omega), show (i : Int) + 1 = ((i + 1 : Nat) : Int) by omega]
theorem count_ev (l : List S36) (hn : l.length ≤ 900000) : Ev (fun k => ranges_Count.f k l) (sizeL (normL (l.map ofRg))) := by
  have hl := normL_len (l.map ofRg)
  rw [List.length_map] at hl
  have hN := normL_nrm (l.map ofRg)
  have := count_l0 (normL (l.map ofRg)) (fun x hx => hN.inr x hx) (by omega) _ 0 0 (Nat.zero_le _) rfl (by omega) (by have := (size_norm_le (l.map ofRg)).2; simpa using this)
  unfold ranges_Count.f
  refine Ev.bind (norm_ev l hn) ?_
  simpa using this
theorem same_l0 (s : List S36) (hn : s.length ≤ 900000) (d : Nat) : ∀ i : Nat, i ≤ s.length → s.length - i = d → Ev (fun k => burinbook_SameRanges.l0 k s s true i) true := by
  induction d with
  | zero =>
    intro i hi hd
    refine Ev.step (fun k => ?_) (Ev.now _)
    simp only [burinbook_SameRanges.l0]
    rw [if_pos trivial, if_neg (by omega)]
  | succ d ih =>
    intro i hi hd
    refine Ev.step (fun k => ?_) (ih (i + 1) (by omega) (by omega))
    simp only [burinbook_SameRanges.l0]
    rw [if_pos trivial, if_pos (by omega), if_pos (by omega), if_pos (by omega), wrap_rg (x := (i : Int) + 1) (by omega) (by omega), show (i : Int) + 1 = ((i + 1 : Nat) : Int) by omega]
    simp
theorem same_ev (s : List S36) (hn : s.length ≤ 900000) : Ev (fun k => burinbook_SameRanges.f k s s) true := by
  have := same_l0 s hn _ 0 (Nat.zero_le _) rfl
  unfold burinbook_SameRanges.f
  simpa using this
/-- by its numbers -/
theorem at_pairs (l : List (Int × Int)) : (l.map toRg).map ofRg = l := map_forth l
theorem RangesSets (l0 l1 : List S36) : ∃ k, burinlaw02_RangesSets.f k l0 l1 = some true := by
  obtain ⟨K0, hw⟩ := works_ev
  by_cases h0 : l0.length ≤ 60
  · by_cases h1 : l1.length ≤ 60
    · obtain ⟨a, rfl⟩ : ∃ a, l0 = a.map toRg := ⟨l0.map ofRg, (map_back l0).symm⟩
      obtain ⟨b, rfl⟩ : ∃ b, l1 = b.map toRg := ⟨l1.map ofRg, (map_back l1).symm⟩
      rw [List.length_map] at h0 h1
      have lU := unionL_len a b
      have lB := bothF_len a b
      have lB2 : a.length * b.length ≤ 60 * 60 := Nat.mul_le_mul h0 h1
      have lNa := notL_len a
      have lNb := notL_len b
      have lM := bothF_len a (notL b)
      have lM2 : a.length * (notL b).length ≤ 60 * 61 := Nat.mul_le_mul h0 (by omega)
      have lM3 : (minusL a b).length = (bothF a (notL b)).length := rfl
      have lnn := notL_len (notL a)
      have lna := normL_len a
      have lNB := bothF_len (notL a) (notL b)
      have lNB2 : (notL a).length * (notL b).length ≤ 61 * 61 := Nat.mul_le_mul (by omega) (by omega)
      obtain ⟨K1, g1⟩ := not_ev ((unionL a b).map toRg) (by simp; omega)
      obtain ⟨K2, g2⟩ := not_ev (a.map toRg) (by simp; omega)
      obtain ⟨K3, g3⟩ := not_ev (b.map toRg) (by simp; omega)
      obtain ⟨K4, g4⟩ := not_ev ((notL a).map toRg) (by simp; omega)
      obtain ⟨K5, g5⟩ := norm_ev (a.map toRg) (by simp; omega)
      obtain ⟨K6, g6⟩ := same_ev ((bothF (notL a) (notL b)).map toRg) (by simp; omega)
      obtain ⟨K7, g7⟩ := same_ev ((normL a).map toRg) (by simp; omega)
      obtain ⟨K8, g8⟩ := count_ev ((unionL a b).map toRg) (by simp; omega)
      obtain ⟨K9, g9⟩ := count_ev ((bothF a b).map toRg) (by simp; omega)
      obtain ⟨K10, g10⟩ := count_ev (a.map toRg) (by simp; omega)
      obtain ⟨K11, g11⟩ := count_ev (b.map toRg) (by simp; omega)
      obtain ⟨K12, g12⟩ := count_ev ((notL a).map toRg) (by simp; omega)
      obtain ⟨K13, g13⟩ := minus_ev (a.map toRg) (b.map toRg) (by simp; omega) (by simp; omega)
      have g := union_f (a.map toRg) (b.map toRg) (by simp; omega) (by simp; omega)
      have g' := both_f (a.map toRg) (b.map toRg) (by simp; omega) (by simp; omega)
      have g'' := both_f ((notL a).map toRg) ((notL b).map toRg) (by simp; omega) (by simp; omega)
      have g3' := union_f ((minusL a b).map toRg) ((bothF a b).map toRg) (by simp; omega) (by simp; omega)
      simp only [at_pairs] at g1 g2 g3 g4 g5 g6 g7 g8 g9 g10 g11 g12 g13 g g' g'' g3'
      rw [not_union] at g1
      rw [not_not] at g4
      rw [minus_both] at g3'
      have e1 := size_union_both a b
      have e2 := size_not a
      have b1 := size_norm_le a
      have b2 := size_norm_le b
      have b3 := size_norm_le (unionL a b)
      have b4 := size_norm_le (bothF a b)
      generalize sizeL (normL (unionL a b)) = s1 at g8 e1 b3
      generalize sizeL (normL (bothF a b)) = s2 at g9 e1 b4
      generalize sizeL (normL a) = s3 at g10 e1 e2 b1
      generalize sizeL (normL b) = s4 at g11 e1 b2
      generalize sizeL (normL (notL a)) = s5 at g12 e2
      obtain ⟨K, hK⟩ : ∃ K, K = K0 + K1 + K2 + K3 + K4 + K5 + K6 + K7 + K8 + K9 + K10 + K11 + K12 + K13 := ⟨_, rfl⟩
      refine ⟨K + 2, ?_⟩
      simp only [burinlaw02_RangesSets.f]
      rw [hw _ (by omega), Option.bind_some, if_pos rfl, if_neg (by simp; omega), decide_eq_false (by simp; omega)]
      simp only [burinlaw02_RangesSets.j0]
      rw [if_neg (by simp), g, Option.bind_some, g', Option.bind_some, g1 _ (by omega), Option.bind_some, g2 _ (by omega), Option.bind_some, g3 _ (by omega), Option.bind_some, g'', Option.bind_some, g6 _ (by omega), Option.bind_some, if_pos rfl, Option.bind_some, g4 _ (by omega), Option.bind_some, g5 _ (by omega), Option.bind_some, g7 _ (by omega), Option.bind_some]
      simp only [burinlaw02_RangesSets.j1]
      rw [if_neg (by simp), g8 _ (by omega), Option.bind_some, g9 _ (by omega), Option.bind_some, g10 _ (by omega), Option.bind_some, g11 _ (by omega), Option.bind_some, wrap_rg (x := s1 + s2) (by omega) (by omega), wrap_rg (x := s3 + s4) (by omega) (by omega), if_pos e1, Option.bind_some, g2 _ (by omega), Option.bind_some, g12 _ (by omega), Option.bind_some, wrap_rg (x := s3 + s5) (by omega) (by omega), if_pos e2, g13 _ (by omega), Option.bind_some, g3', Option.bind_some, g5 _ (by omega), Option.bind_some, g7 _ (by omega), Option.bind_some]
    · refine ⟨K0 + 1, ?_⟩
      simp only [burinlaw02_RangesSets.f]
      rw [hw _ (by omega), Option.bind_some, if_pos rfl, if_neg (by omega), decide_eq_true (by omega)]
      simp [burinlaw02_RangesSets.j0]
  · refine ⟨K0 + 1, ?_⟩
    simp only [burinlaw02_RangesSets.f]
    rw [hw _ (by omega), Option.bind_some, if_pos rfl, if_pos (by omega)]
    simp [burinlaw02_RangesSets.j0]
end Go.Proofs.Ytedilngdbmfhaaa.Pure
