/- FoldClosed: what is closed is closed; no condition. -/
import Derived.Test.YthblpnfkdkhcpaaHFoldClosedx5
import Derived.Test.YthblpnfkdkhcpaaXFoldClosePure
namespace Go.Proofs.Ythblpnfkdkhcpaa.Pure
open Go.RowKit Go.Proofs.Ythblpnfkdkhcpaa.HFoldClosed Go.Proofs.YthblpnfkdkhcpaaW.PrintWords Go.Proofs.YthblpnfkdkhcpaaW.PrintLast
open Go.Proofs.YthblpnfkdkhcpaaX
set_option linter.unusedVariables false

theorem fam75 : famF 75 = [75, 107, 8490] := by unfold famF; rw [merge_isort]; rfl
theorem fam107 : famF 107 = [75, 107, 8490] := by unfold famF; rw [merge_isort]; rfl
theorem fam8490 : famF 8490 = [75, 107, 8490] := by unfold famF; rw [merge_isort]; rfl
theorem works_ok : burinlaw03_works.f 5 = some true := by
  simp only [burinlaw03_works.f, fold_Family.f, fold_Next.f, nextF, fam75, fam107, fam8490]
  decide +kernel
theorem works_at (k : Nat) (hk : 5 ≤ k) : burinlaw03_works.f k = some true := by
  have mono : ∀ d, burinlaw03_works.f (5 + d) = some true := fun d => by
    induction d with
    | zero => exact works_ok
    | succ d ih => exact burinlaw03_works.mono _ _ ih
  have := mono (k - 5)
  rwa [show 5 + (k - 5) = k by omega] at this
theorem has_f (l : List S55) (r : Int) : ranges_Has.f l r = some (hasL (l.map ofRg) r) := rfl
theorem has_to (l : List (Int × Int)) (r : Int) (hl : Nrm l) : ranges_Has.f (l.map toRg) r = some (inL l r) := by
  rw [has_f, map_forth, hasL_nrm hl]
theorem not_l0 (s : List (Int × Int)) (hs : ∀ x ∈ s, 0 ≤ x.1 ∧ x.1 ≤ x.2 ∧ x.2 ≤ 1114111) (hn : s.length ≤ 900000) (d : Nat) : ∀ (i : Nat) (p : List (Int × Int)) (f : Int), i ≤ s.length → s.length - i = d → p.length + d ≤ 900000 → 0 ≤ f → f ≤ 1114112 →
    Ev (fun k => ranges_Not.l0 k (p.map toRg) f (s.map toRg) (s.length : Int) i) ((p ++ notG f (s.drop i)).map toRg) := by
  induction d with
  | zero =>
    intro i p f hi hd hp h0 h1
    have e : i = s.length := by omega
    subst e
    refine Ev.step (fun k => ?_) (Ev.now _)
    simp only [ranges_Not.l0]
    rw [if_neg (by omega), List.drop_of_length_le (Nat.le_refl _)]
    by_cases hf : f ≤ 1114111
    · rw [if_pos hf, if_pos (by simp; omega), notG, if_pos hf]
      simp [toRg]
    · rw [if_neg hf, notG, if_neg hf, List.append_nil]
  | succ d ih =>
    intro i p f hi hd hp h0 h1
    have hlt : i < s.length := by omega
    have hx := hs _ (List.getElem_mem hlt)
    have hstep : ∀ k, ranges_Not.l0 (k + 1) (p.map toRg) f (s.map toRg) (s.length : Int) i = if s[i].1 > f then ranges_Not.l0 k ((p ++ [(f, s[i].1 - 1)]).map toRg) (s[i].2 + 1) (s.map toRg) (s.length : Int) ((i + 1 : Nat) : Int) else ranges_Not.l0 k (p.map toRg) (s[i].2 + 1) (s.map toRg) (s.length : Int) ((i + 1 : Nat) : Int) := by
      intro k
      simp only [ranges_Not.l0]
      rw [if_pos (by omega), if_pos (by omega), if_pos (by simp; omega), rd_rg s i hlt]
      rw [show (toRg s[i]).f0 = s[i].1 from rfl, show (toRg s[i]).f1 = s[i].2 from rfl, wrap_rg (x := s[i].1 - 1) (by omega) (by omega), wrap_rg (x := s[i].2 + 1) (by omega) (by omega), wrap_rg (x := (i : Int) + 1) (by omega) (by omega), show (i : Int) + 1 = ((i + 1 : Nat) : Int) by omega]
      rw [if_pos (c := (List.map toRg p).length < 8796093022208) (by simp; omega)]
      simp [toRg]
    rw [List.drop_eq_getElem_cons hlt, notG]
    by_cases h : s[i].1 > f
    · rw [if_pos h]
      have := ih (i + 1) (p ++ [(f, s[i].1 - 1)]) (s[i].2 + 1) (by omega) (by omega) (by simp; omega) (by omega) (by omega)
      rw [List.append_assoc] at this
      exact Ev.step (fun k => by rw [hstep k, if_pos h]) this
    · rw [if_neg h]
      exact Ev.step (fun k => by rw [hstep k, if_neg h]) (ih (i + 1) p (s[i].2 + 1) (by omega) (by omega) (by omega) (by omega) (by omega))
theorem not_ev (l : List S55) (hn : l.length ≤ 900000) : Ev (fun k => ranges_Not.f k l) ((notL (l.map ofRg)).map toRg) := by
  have hl := normL_len (l.map ofRg)
  rw [List.length_map] at hl
  have hN := normL_nrm (l.map ofRg)
  have := not_l0 (normL (l.map ofRg)) (fun x hx => hN.inr x hx) (by omega) _ 0 [] 0 (Nat.zero_le _) rfl (by simp; omega) (by omega) (by omega)
  unfold ranges_Not.f
  refine Ev.bind (norm_ev l hn) ?_
  simpa [notL] using this
theorem minus_ev (l0 l1 : List S55) (h0 : l0.length ≤ 900) (h1 : l1.length ≤ 800) : Ev (fun k => ranges_Minus.f k l0 l1) ((minusL (l0.map ofRg) (l1.map ofRg)).map toRg) := by
  have hl := notL_len (l1.map ofRg)
  rw [List.length_map] at hl
  unfold ranges_Minus.f
  refine Ev.bind (not_ev l1 (by omega)) (Ev.congr (fun k => ?_) (Ev.now _))
  unfold ranges_Both.f
  rw [if_pos (by simp; omega), map_forth]
  rfl
theorem union_f (l0 l1 : List S55) (h0 : l0.length ≤ 400000) (h1 : l1.length ≤ 400000) : ranges_Union.f l0 l1 = some ((unionL (l0.map ofRg) (l1.map ofRg)).map toRg) := by unfold ranges_Union.f; rw [if_pos ⟨h0, h1⟩]
theorem both_f (l0 l1 : List S55) (h0 : l0.length ≤ 900) (h1 : l1.length ≤ 900) : ranges_Both.f l0 l1 = some ((bothF (l0.map ofRg) (l1.map ofRg)).map toRg) := by unfold ranges_Both.f; rw [if_pos ⟨h0, h1⟩]
theorem same_l0 (s : List S55) (hn : s.length ≤ 2000000) (d : Nat) : ∀ i : Nat, i ≤ s.length → s.length - i = d → Ev (fun k => burinbook_SameRanges.l0 k s s true i) true := by
  induction d with
  | zero =>
    intro i hi hd
    refine Ev.step (fun k => ?_) (Ev.now _)
    simp only [burinbook_SameRanges.l0]
    rw [if_pos trivial, if_neg (by omega)]
  | succ d ih =>
    intro i hi hd
    refine Ev.step (fun k => ?_) (ih (i + 1) (by omega) (by omega))
    simp only [burinbook_SameRanges.l0]
    rw [if_pos trivial, if_pos (by omega), if_pos (by omega), if_pos (by omega), wrap_rg (x := (i : Int) + 1) (by omega) (by omega), show (i : Int) + 1 = ((i + 1 : Nat) : Int) by omega]
    simp
theorem same_ev (s : List S55) (hn : s.length ≤ 2000000) : Ev (fun k => burinbook_SameRanges.f k s s) true := by
  have := same_l0 s hn _ 0 (Nat.zero_le _) rfl
  unfold burinbook_SameRanges.f
  simpa using this
def chk (p : Int) : List (Int × Int) → Int
  | [] => 0
  | x :: t => if x.1 < 0 ∨ x.1 > 1114111 ∨ x.2 < 0 ∨ x.2 > 1114111 then 1 else if x.1 > x.2 then 4 else if x.1 ≤ p + 1 then 4 else chk x.2 t
theorem chk_nrm : ∀ {l : List (Int × Int)} {p : Int}, Nrm l → (∀ x ∈ l, p + 1 < x.1) → chk p l = 0
  | [], _, _, _ => rfl
  | x :: t, p, h, hp => by
    have hx := h.inr x (by simp)
    have h1 := hp x (by simp)
    unfold chk
    rw [if_neg (by omega), if_neg (by omega), if_neg (by omega)]
    exact chk_nrm h.tail (fun y hy => (List.pairwise_cons.1 h.apart).1 y hy)
theorem nrm_chk : ∀ {l : List (Int × Int)} {p : Int}, chk p l = 0 → Nrm l ∧ ∀ x ∈ l, p + 1 < x.1
  | [], _, _ => ⟨Nrm.nil, fun x hx => by cases hx⟩
  | x :: t, p, h => by
    unfold chk at h
    split at h
    · omega
    · split at h
      · omega
      · split at h
        · omega
        · obtain ⟨h1, h2⟩ := nrm_chk h
          refine ⟨⟨fun y hy => ?_, List.pairwise_cons.2 ⟨h2, h1.apart⟩⟩, fun y hy => ?_⟩
          · rcases List.mem_cons.1 hy with rfl | hy
            · omega
            · exact h1.inr y hy
          · rcases List.mem_cons.1 hy with rfl | hy
            · omega
            · have := h2 y hy
              omega
theorem check_l0 (s : List (Int × Int)) (hn : s.length ≤ 900000) (d : Nat) : ∀ (i : Nat) (p : Int), i ≤ s.length → s.length - i = d → -2 ≤ p → p ≤ 1114111 →
    Ev (fun k => ranges_Check.l0 k p (s.map toRg) (s.length : Int) i) (chk p (s.drop i)) := by
  induction d with
  | zero =>
    intro i p hi hd h0 h1
    have e : i = s.length := by omega
    subst e
    refine Ev.step (fun k => ?_) (Ev.now _)
    simp only [ranges_Check.l0]
    rw [if_neg (by omega), List.drop_of_length_le (Nat.le_refl _)]
    rfl
  | succ d ih =>
    intro i p hi hd h0 h1
    have hlt : i < s.length := by omega
    rw [List.drop_eq_getElem_cons hlt, chk]
    have hd : ∀ k, ranges_Check.l0 (k + 1) p (s.map toRg) (s.length : Int) i = ranges_Check.j1 k p (s.map toRg) (s.length : Int) i (decide (s[i].1 < 0 ∨ s[i].1 > 1114111 ∨ s[i].2 < 0 ∨ s[i].2 > 1114111)) s[i].1 s[i].2 := by
      intro k
      simp only [ranges_Check.l0]
      rw [if_pos (by omega), if_pos (by omega), if_pos (by simp; omega), rd_rg s i hlt]
      rw [show (toRg s[i]).f0 = s[i].1 from rfl, show (toRg s[i]).f1 = s[i].2 from rfl]
      by_cases x0 : s[i].1 < 0
      · rw [if_pos x0, decide_eq_true (by omega)]
      · rw [if_neg x0]
        by_cases x1 : s[i].1 > 1114111
        · rw [if_pos x1, decide_eq_true (by omega)]
        · rw [if_neg x1]
          by_cases x2 : s[i].2 < 0
          · rw [if_pos x2, decide_eq_true (by omega)]
          · rw [if_neg x2]
            by_cases x3 : s[i].2 > 1114111
            · rw [decide_eq_true x3, decide_eq_true (by omega)]
            · rw [decide_eq_false x3, decide_eq_false (by omega)]
    by_cases c1 : s[i].1 < 0 ∨ s[i].1 > 1114111 ∨ s[i].2 < 0 ∨ s[i].2 > 1114111
    · rw [if_pos c1]
      refine Ev.step hd (Ev.step (fun k => ?_) (Ev.now _))
      simp only [ranges_Check.j1]
      rw [decide_eq_true c1, if_pos rfl]
    · rw [if_neg c1]
      by_cases c2 : s[i].1 > s[i].2
      · rw [if_pos c2]
        refine Ev.step hd (Ev.step (fun k => ?_) (Ev.now _))
        simp only [ranges_Check.j1]
        rw [decide_eq_false c1, if_neg (by simp), if_pos c2]
      · rw [if_neg c2]
        by_cases c3 : s[i].1 ≤ p + 1
        · rw [if_pos c3]
          refine Ev.step hd (Ev.step (fun k => ?_) (Ev.now _))
          simp only [ranges_Check.j1]
          rw [decide_eq_false c1, if_neg (by simp), if_neg c2, wrap_rg (x := p + 1) (by omega) (by omega), if_pos c3]
        · rw [if_neg c3]
          refine Ev.step hd (Ev.step (fun k => ?_) (ih (i + 1) s[i].2 (by omega) (by omega) (by omega) (by omega)))
          simp only [ranges_Check.j1]
          rw [decide_eq_false c1, if_neg (by simp), if_neg c2, wrap_rg (x := p + 1) (by omega) (by omega), if_neg c3, wrap_rg (x := (i : Int) + 1) (by omega) (by omega), show (i : Int) + 1 = ((i + 1 : Nat) : Int) by omega]
theorem check_ev (s : List (Int × Int)) (hn : s.length ≤ 900000) : Ev (fun k => ranges_Check.f k (s.map toRg)) (chk (-2) s) := by
  have := check_l0 s hn _ 0 (-2) (Nat.zero_le _) rfl (by omega) (by omega)
  unfold ranges_Check.f
  simpa using this
theorem close_f (l : List (Int × Int)) (h : l.length ≤ 100000) : fold_Close.f (l.map toRg) = some ((closeL l).map toRg) := by unfold fold_Close.f; rw [if_pos (by simpa using h), map_forth]
theorem j3_ev (a b : List (Int × Int)) (ha : a.length ≤ 6) (hb : b.length ≤ 6) (r : Int) : Ev (fun k => burinlaw03_FoldClosed.j3 k (a.map toRg) (b.map toRg) r ((closeL a).map toRg) (inL (closeL a) r)) true := by
  have la := close_len a
  have lb := close_len b
  have lu := unionL_len a b
  have lc := close_len (unionL a b)
  obtain ⟨K1, g1⟩ := check_ev (closeL a) (by omega)
  obtain ⟨K2, g2⟩ := minus_ev (a.map toRg) ((closeL a).map toRg) (by simp; omega) (by simp; omega)
  obtain ⟨K3, g3⟩ := same_ev ((closeL a).map toRg) (by simp; omega)
  obtain ⟨K4, g4⟩ := same_ev ((closeL (unionL a b)).map toRg) (by simp; omega)
  have u1 := union_f (a.map toRg) (b.map toRg) (by simp; omega) (by simp; omega)
  have u2 := union_f ((closeL a).map toRg) ((closeL b).map toRg) (by simp; omega) (by simp; omega)
  simp only [map_forth] at g2 u1 u2
  rw [close_minus] at g2
  rw [← close_union] at u2
  have hc := chk_nrm (closeL_nrm a) (p := -2) (fun x hx => by have := (closeL_nrm a).inr x hx; omega)
  rw [hc] at g1
  simp only [] at g1 g3 g4
  refine ⟨K1 + K2 + K3 + K4 + 1, fun k hk => ?_⟩
  obtain ⟨k, rfl⟩ : ∃ j, k = j + 1 := ⟨k - 1, by omega⟩
  simp only [burinlaw03_FoldClosed.j3]
  rw [g1 _ (by omega), Option.bind_some, if_pos rfl, g2 _ (by omega), Option.bind_some, if_pos (show ((List.map toRg ([] : List (Int × Int))).length : Int) = 0 from rfl), has_to _ _ (closeL_nrm a), Option.bind_some, if_pos (by simp), close_f (closeL a) (by omega), close_twice, Option.bind_some, g3 _ (by omega), Option.bind_some, if_pos rfl, u1, Option.bind_some, close_f (unionL a b) (by omega), Option.bind_some, close_f b (by omega), Option.bind_some, u2, Option.bind_some, g4 _ (by omega), Option.bind_some]
theorem l0_ev (a b : List (Int × Int)) (ha : a.length ≤ 6) (hb : b.length ≤ 6) (r : Int) (fam : List Int) (hn : fam.length ≤ 100) (hall : inL (closeL a) r = (decide (0 ≤ r) && (decide (r ≤ 1114111) && fam.any (hasL a)))) (d : Nat) : ∀ (i : Nat) (q : Bool), i ≤ fam.length → fam.length - i = d → (fam.any (hasL a) = (q || (fam.drop i).any (hasL a))) →
    Ev (fun k => burinlaw03_FoldClosed.l0 k (a.map toRg) (b.map toRg) r ((closeL a).map toRg) q fam (fam.length : Int) i) true := by
  have h3 := j3_ev a b ha hb r
  induction d with
  | zero =>
    intro i q hi hd hq
    have e : i = fam.length := by omega
    subst e
    rw [List.drop_of_length_le (Nat.le_refl _), List.any_nil, Bool.or_false] at hq
    rw [hall, hq] at h3
    have h2 : ∀ x : Bool, x = decide (r < 0 ∨ r > 1114111) → Ev (fun k => burinlaw03_FoldClosed.j2 k (a.map toRg) (b.map toRg) r ((closeL a).map toRg) q x) true := by
      intro x hx
      by_cases h0 : r < 0 ∨ r > 1114111
      · rw [decide_eq_true h0] at hx
        subst hx
        have e2 : (decide (0 ≤ r) && (decide (r ≤ 1114111) && q)) = false := by
          rcases h0 with h0 | h0
          · rw [decide_eq_false (show ¬ 0 ≤ r by omega)]; rfl
          · rw [decide_eq_false (show ¬ r ≤ 1114111 by omega)]; simp
        rw [e2] at h3
        refine Ev.step (fun k => ?_) h3
        simp only [burinlaw03_FoldClosed.j2]
        rw [if_pos trivial]
      · rw [decide_eq_false h0] at hx
        subst hx
        have e2 : (decide (0 ≤ r) && (decide (r ≤ 1114111) && q)) = q := by
          rw [decide_eq_true (show 0 ≤ r by omega), decide_eq_true (show r ≤ 1114111 by omega)]; rfl
        rw [e2] at h3
        refine Ev.step (fun k => ?_) h3
        simp only [burinlaw03_FoldClosed.j2]
        rw [if_neg (by simp)]
    by_cases h0 : r < 0
    · refine Ev.step (fun k => ?_) (h2 true (by simp [h0]))
      simp only [burinlaw03_FoldClosed.l0]
      rw [if_neg (by omega), if_pos h0]
    · refine Ev.step (fun k => ?_) (h2 (decide (r > 1114111)) (by simp [h0]))
      simp only [burinlaw03_FoldClosed.l0]
      rw [if_neg (by omega), if_neg h0]
  | succ d ih =>
    intro i q hi hd hq
    have hlt : i < fam.length := by omega
    have hrd : rd fam (i : Int) = fam[i] := by simp [rd, hlt]
    rw [List.drop_eq_getElem_cons hlt, List.any_cons] at hq
    cases q with
    | true =>
      refine Ev.step (fun k => ?_) (ih (i + 1) true (by omega) (by omega) (by rw [hq]; rfl))
      simp only [burinlaw03_FoldClosed.l0]
      rw [if_pos (by omega), if_pos (by omega), if_pos (by omega), if_pos trivial, wrap_rg (x := (i : Int) + 1) (by omega) (by omega), show (i : Int) + 1 = ((i + 1 : Nat) : Int) by omega]
    | false =>
      refine Ev.step (fun k => ?_) (ih (i + 1) (hasL a fam[i]) (by omega) (by omega) (by rw [hq, Bool.false_or]))
      simp only [burinlaw03_FoldClosed.l0]
      rw [if_pos (by omega), if_pos (by omega), if_pos (by omega), if_neg (by simp), wrap_rg (x := (i : Int) + 1) (by omega) (by omega), show (i : Int) + 1 = ((i + 1 : Nat) : Int) by omega, hrd, has_f, map_forth, Option.bind_some]
theorem FoldClosed (l0 l1 : List S55) (a2 : Int) : ∃ k, burinlaw03_FoldClosed.f k l0 l1 a2 = some true := by
  by_cases h0 : l0.length ≤ 6
  · by_cases h1 : l1.length ≤ 6
    · obtain ⟨a, rfl⟩ : ∃ a, l0 = a.map toRg := ⟨l0.map ofRg, (map_back l0).symm⟩
      obtain ⟨b, rfl⟩ : ∃ b, l1 = b.map toRg := ⟨l1.map ofRg, (map_back l1).symm⟩
      rw [List.length_map] at h0 h1
      obtain ⟨K, g⟩ := l0_ev a b h0 h1 a2 (famF a2) (by have := (fam_facts a2).1.1; omega) (closeL_in a a2) _ 0 false (Nat.zero_le _) rfl (by rw [List.drop_zero, Bool.false_or])
      refine ⟨K + 6, ?_⟩
      simp only [burinlaw03_FoldClosed.f]
      rw [works_at _ (by omega), Option.bind_some, if_pos rfl, if_neg (by simp; omega), decide_eq_false (by simp; omega)]
      simp only [burinlaw03_FoldClosed.j0]
      rw [if_neg (by simp), close_f a (by omega), Option.bind_some]
      unfold fold_Family.f
      rw [Option.bind_some]
      exact g _ (by omega)
    · refine ⟨6, ?_⟩
      simp only [burinlaw03_FoldClosed.f]
      rw [works_at _ (by omega), Option.bind_some, if_pos rfl, if_neg (by omega), decide_eq_true (by omega)]
      simp [burinlaw03_FoldClosed.j0]
  · refine ⟨6, ?_⟩
    simp only [burinlaw03_FoldClosed.f]
    rw [works_at _ (by omega), Option.bind_some, if_pos rfl, if_pos (by omega)]
    simp [burinlaw03_FoldClosed.j0]
end Go.Proofs.Ythblpnfkdkhcpaa.Pure
