/- RangesTells: Check, Norm, Has, Count by the reference; the argument is kept; no condition. -/
import Derived.Test.YtedilngdbmfhaaaHRangesTellsx7
import Derived.Test.YtedilngdbmfhaaaXRangesEdge
import Derived.Test.YtedilngdbmfhaaaXRangesLend
namespace Go.Proofs.Ytedilngdbmfhaaa.Pure
open Go.RowKit Go.Proofs.Ytedilngdbmfhaaa.HRangesTells Go.Proofs.YtedilngdbmfhaaaW.PrintWords Go.Proofs.YtedilngdbmfhaaaW.PrintLast
open Go.Proofs.YtedilngdbmfhaaaX
set_option linter.unusedVariables false

theorem has_f (l : List S36) (r : Int) : ranges_Has.f l r = some (hasL (l.map ofRg) r) := rfl
theorem has_to (l : List (Int × Int)) (r : Int) (hl : Nrm l) : ranges_Has.f (l.map toRg) r = some (inL l r) := by
  rw [has_f, map_forth, hasL_nrm hl]
theorem not_l0 (s : List (Int × Int)) (hs : ∀ x ∈ s, 0 ≤ x.1 ∧ x.1 ≤ x.2 ∧ x.2 ≤ 1114111) (hn : s.length ≤ 900000) (d : Nat) : ∀ (i : Nat) (p : List (Int × Int)) (f : Int), i ≤ s.length → s.length - i = d → p.length + d ≤ 900000 → 0 ≤ f → f ≤ 1114112 →
    Ev (fun k => ranges_Not.l0 k (p.map toRg) f (s.map toRg) (s.length : Int) i) ((p ++ notG f (s.drop i)).map toRg) := by
  induction d with
  | zero =>
    intro i p f hi hd hp h0 h1
    have e : i = s.length := by omega
    subst e
    refine Ev.step (fun k => ?_) (Ev.now _)
    simp only [ranges_Not.l0]
    rw [if_neg (by omega), List.drop_of_length_le (Nat.le_refl _)]
    by_cases hf : f ≤ 1114111
    · rw [if_pos hf, if_pos (by simp; omega), notG, if_pos hf]
      simp [toRg]
    · rw [if_neg hf, notG, if_neg hf, List.append_nil]
  | succ d ih =>
    intro i p f hi hd hp h0 h1
    have hlt : i < s.length := by omega
    have hx := hs _ (List.getElem_mem hlt)
    have hstep : ∀ k, ranges_Not.l0 (k + 1) (p.map toRg) f (s.map toRg) (s.length : Int) i = if s[i].1 > f then ranges_Not.l0 k ((p ++ [(f, s[i].1 - 1)]).map toRg) (s[i].2 + 1) (s.map toRg) (s.length : Int) ((i + 1 : Nat) : Int) else ranges_Not.l0 k (p.map toRg) (s[i].2 + 1) (s.map toRg) (s.length : Int) ((i + 1 : Nat) : Int) := by
      intro k
      simp only [ranges_Not.l0]
      rw [if_pos (by omega), if_pos (by omega), if_pos (by simp; omega), rd_rg s i hlt]
      rw [show (toRg s[i]).f0 = s[i].1 from rfl, show (toRg s[i]).f1 = s[i].2 from rfl, wrap_rg (x := s[i].1 - 1) (by omega) (by omega), wrap_rg (x := s[i].2 + 1) (by omega) (by omega), wrap_rg (x := (i : Int) + 1) (by omega) (by omega), show (i : Int) + 1 = ((i + 1 : Nat) : Int) by omega]
      rw [if_pos (c := (List.map toRg p).length < 8796093022208) (by simp; omega)]
      simp [toRg]
    rw [List.drop_eq_getElem_cons hlt, notG]
    by_cases h : s[i].1 > f
    · rw [if_pos h]
      have := ih (i + 1) (p ++ [(f, s[i].1 - 1)]) (s[i].2 + 1) (by omega) (by omega) (by simp; omega) (by omega) (by omega)
      rw [List.append_assoc] at this
      exact Ev.step (fun k => by rw [hstep k, if_pos h]) this
    · rw [if_neg h]
      exact Ev.step (fun k => by rw [hstep k, if_neg h]) (ih (i + 1) p (s[i].2 + 1) (by omega) (by omega) (by omega) (by omega) (by omega))
theorem not_ev (l : List S36) (hn : l.length ≤ 900000) : Ev (fun k => ranges_Not.f k l) ((notL (l.map ofRg)).map toRg) := by
  have hl := normL_len (l.map ofRg)
  rw [List.length_map] at hl
  have hN := normL_nrm (l.map ofRg)
  have := not_l0 (normL (l.map ofRg)) (fun x hx => hN.inr x hx) (by omega) _ 0 [] 0 (Nat.zero_le _) rfl (by simp; omega) (by omega) (by omega)
  unfold ranges_Not.f
  refine Ev.bind (norm_ev l hn) ?_
  simpa [notL] using this
theorem works_ev : Ev burinlaw02_works.f true := Ev.of burinlaw02_works.mono (k := 12) (by decide +kernel)
theorem count_l0 (s : List (Int × Int)) (hs : ∀ x ∈ s, 0 ≤ x.1 ∧ x.1 ≤ x.2 ∧ x.2 ≤ 1114111) (hn : s.length ≤ 900000) (d : Nat) : ∀ (i : Nat) (a : Int), i ≤ s.length → s.length - i = d → 0 ≤ a → a + sizeL (s.drop i) ≤ 1114112 →
    Ev (fun k => ranges_Count.l0 k a (s.map toRg) (s.length : Int) i) (a + sizeL (s.drop i)) := by
  induction d with
  | zero =>
    intro i a hi hd h0 h1
    have e : i = s.length := by omega
    subst e
    refine Ev.step (fun k => ?_) (Ev.now _)
    simp only [ranges_Count.l0]
    rw [if_neg (by omega), List.drop_of_length_le (Nat.le_refl _)]
    simp [sizeL]
  | succ d ih =>
    intro i a hi hd h0 h1
    have hlt : i < s.length := by omega
    have hx := hs _ (List.getElem_mem hlt)
    rw [List.drop_eq_getElem_cons hlt, sizeL] at h1 ⊢
    have hp : 0 ≤ sizeL (s.drop (i + 1)) := sizeL_pos (fun x hx => (hs x (List.mem_of_mem_drop hx)).2.1)
    have := ih (i + 1) (a + (s[i].2 - s[i].1 + 1)) (by omega) (by omega) (by omega) (by omega)
    rw [← Int.add_assoc]
    refine Ev.step (fun k => ?_) this
    simp only [ranges_Count.l0]
    rw [if_pos (by omega), if_pos (by omega), if_pos (by simp; omega), rd_rg s i hlt]
    rw [show (toRg s[i]).f0 = s[i].1 from rfl, show (toRg s[i]).f1 = s[i].2 from rfl, wrap_rg (x := s[i].2 - s[i].1) (by omega) (by omega), wrap_rg (x := s[i].2 - s[i].1 + 1) (by omega) (by omega), wrap_rg (x := a + (s[i].2 - s[i].1 + 1)) (by omega) (by omega), wrap_rg (x := (i : Int) + 1) (by omega) (by omega), show (i : Int) + 1 = ((i + 1 : Nat) : Int) by omega]
theorem count_ev (l : List S36) (hn : l.length ≤ 900000) : Ev (fun k => ranges_Count.f k l) (sizeL (normL (l.map ofRg))) := by
  have hl := normL_len (l.map ofRg)
  rw [List.length_map] at hl
  have hN := normL_nrm (l.map ofRg)
  have := count_l0 (normL (l.map ofRg)) (fun x hx => hN.inr x hx) (by omega) _ 0 0 (Nat.zero_le _) rfl (by omega) (by have := (size_norm_le (l.map ofRg)).2; simpa using this)
  unfold ranges_Count.f
  refine Ev.bind (norm_ev l hn) ?_
  simpa using this
theorem same_l0 (s : List S36) (hn : s.length ≤ 900000) (d : Nat) : ∀ i : Nat, i ≤ s.length → s.length - i = d → Ev (fun k => burinbook_SameRanges.l0 k s s true i) true := by
  induction d with
  | zero =>
    intro i hi hd
    refine Ev.step (fun k => ?_) (Ev.now _)
    simp only [burinbook_SameRanges.l0]
    rw [if_pos trivial, if_neg (by omega)]
  | succ d ih =>
    intro i hi hd
    refine Ev.step (fun k => ?_) (ih (i + 1) (by omega) (by omega))
    simp only [burinbook_SameRanges.l0]
    rw [if_pos trivial, if_pos (by omega), if_pos (by omega), if_pos (by omega), wrap_rg (x := (i : Int) + 1) (by omega) (by omega), show (i : Int) + 1 = ((i + 1 : Nat) : Int) by omega]
    simp
theorem same_ev (s : List S36) (hn : s.length ≤ 900000) : Ev (fun k => burinbook_SameRanges.f k s s) true := by
  have := same_l0 s hn _ 0 (Nat.zero_le _) rfl
  unfold burinbook_SameRanges.f
  simpa using this
def chk (p : Int) : List (Int × Int) → Int
  | [] => 0
  | x :: t => if x.1 < 0 ∨ x.1 > 1114111 ∨ x.2 < 0 ∨ x.2 > 1114111 then 1 else if x.1 > x.2 then 4 else if x.1 ≤ p + 1 then 4 else chk x.2 t
theorem chk_nrm : ∀ {l : List (Int × Int)} {p : Int}, Nrm l → (∀ x ∈ l, p + 1 < x.1) → chk p l = 0
  | [], _, _, _ => rfl
  | x :: t, p, h, hp => by
    have hx := h.inr x (by simp)
    have h1 := hp x (by simp)
    unfold chk
    rw [if_neg (by omega), if_neg (by omega), if_neg (by omega)]
    exact chk_nrm h.tail (fun y hy => (List.pairwise_cons.1 h.apart).1 y hy)
theorem nrm_chk : ∀ {l : List (Int × Int)} {p : Int}, chk p l = 0 → Nrm l ∧ ∀ x ∈ l, p + 1 < x.1
  | [], _, _ => ⟨Nrm.nil, fun x hx => by cases hx⟩
  | x :: t, p, h => by
    unfold chk at h
    split at h
    · omega
    · split at h
      · omega
      · split at h
        · omega
        · obtain ⟨h1, h2⟩ := nrm_chk h
          refine ⟨⟨fun y hy => ?_, List.pairwise_cons.2 ⟨h2, h1.apart⟩⟩, fun y hy => ?_⟩
          · rcases List.mem_cons.1 hy with rfl | hy
            · omega
            · exact h1.inr y hy
          · rcases List.mem_cons.1 hy with rfl | hy
            · omega
            · have := h2 y hy
              omega
theorem check_l0 (s : List (Int × Int)) (hn : s.length ≤ 900000) (d : Nat) : ∀ (i : Nat) (p : Int), i ≤ s.length → s.length - i = d → -2 ≤ p → p ≤ 1114111 →
    Ev (fun k => ranges_Check.l0 k p (s.map toRg) (s.length : Int) i) (chk p (s.drop i)) := by
  induction d with
  | zero =>
    intro i p hi hd h0 h1
    have e : i = s.length := by omega
    subst e
    refine Ev.step (fun k => ?_) (Ev.now _)
    simp only [ranges_Check.l0]
    rw [if_neg (by omega), List.drop_of_length_le (Nat.le_refl _)]
    rfl
  | succ d ih =>
    intro i p hi hd h0 h1
    have hlt : i < s.length := by omega
    rw [List.drop_eq_getElem_cons hlt, chk]
    have hd : ∀ k, ranges_Check.l0 (k + 1) p (s.map toRg) (s.length : Int) i = ranges_Check.j1 k p (s.map toRg) (s.length : Int) i (decide (s[i].1 < 0 ∨ s[i].1 > 1114111 ∨ s[i].2 < 0 ∨ s[i].2 > 1114111)) s[i].1 s[i].2 := by
      intro k
      simp only [ranges_Check.l0]
      rw [if_pos (by omega), if_pos (by omega), if_pos (by simp; omega), rd_rg s i hlt]
      rw [show (toRg s[i]).f0 = s[i].1 from rfl, show (toRg s[i]).f1 = s[i].2 from rfl]
      by_cases x0 : s[i].1 < 0
      · rw [if_pos x0, decide_eq_true (by omega)]
      · rw [if_neg x0]
        by_cases x1 : s[i].1 > 1114111
        · rw [if_pos x1, decide_eq_true (by omega)]
        · rw [if_neg x1]
          by_cases x2 : s[i].2 < 0
          · rw [if_pos x2, decide_eq_true (by omega)]
          · rw [if_neg x2]
            by_cases x3 : s[i].2 > 1114111
            · rw [decide_eq_true x3, decide_eq_true (by omega)]
            · rw [decide_eq_false x3, decide_eq_false (by omega)]
    by_cases c1 : s[i].1 < 0 ∨ s[i].1 > 1114111 ∨ s[i].2 < 0 ∨ s[i].2 > 1114111
    · rw [if_pos c1]
      refine Ev.step hd (Ev.step (fun k => ?_) (Ev.now _))
      simp only [ranges_Check.j1]
      rw [decide_eq_true c1, if_pos rfl]
    · rw [if_neg c1]
      by_cases c2 : s[i].1 > s[i].2
      · rw [if_pos c2]
        refine Ev.step hd (Ev.step (fun k => ?_) (Ev.now _))
        simp only [ranges_Check.j1]
        rw [decide_eq_false c1, if_neg (by simp), if_pos c2]
      · rw [if_neg c2]
        by_cases c3 : s[i].1 ≤ p + 1
        · rw [if_pos c3]
          refine Ev.step hd (Ev.step (fun k => ?_) (Ev.now _))
          simp only [ranges_Check.j1]
          rw [decide_eq_false c1, if_neg (by simp), if_neg c2, wrap_rg (x := p + 1) (by omega) (by omega), if_pos c3]
        · rw [if_neg c3]
          refine Ev.step hd (Ev.step (fun k => ?_) (ih (i + 1) s[i].2 (by omega) (by omega) (by omega) (by omega)))
          simp only [ranges_Check.j1]
          rw [decide_eq_false c1, if_neg (by simp), if_neg c2, wrap_rg (x := p + 1) (by omega) (by omega), if_neg c3, wrap_rg (x := (i : Int) + 1) (by omega) (by omega), show (i : Int) + 1 = ((i + 1 : Nat) : Int) by omega]
theorem check_ev (s : List (Int × Int)) (hn : s.length ≤ 900000) : Ev (fun k => ranges_Check.f k (s.map toRg)) (chk (-2) s) := by
  have := check_l0 s hn _ 0 (-2) (Nat.zero_le _) rfl (by omega) (by omega)
  unfold ranges_Check.f
  simpa using this
theorem rhas_l0 (s : List (Int × Int)) (r : Int) (hn : s.length ≤ 900000) (d : Nat) : ∀ i : Nat, i ≤ s.length → s.length - i = d → Ev (fun k => burinref02_Has.l0 k (s.map toRg) r i) (hasL (s.drop i) r) := by
  induction d with
  | zero =>
    intro i hi hd
    have e : i = s.length := by omega
    subst e
    rw [List.drop_of_length_le (Nat.le_refl _)]
    refine Ev.step (f := fun k => burinref02_Has.j1 k (s.map toRg) r (s.length : Int) false) (fun k => ?_) (Ev.step (fun k => ?_) (Ev.now _))
    · simp only [burinref02_Has.l0]
      rw [if_neg (by simp)]
    · simp only [burinref02_Has.j1]
      rw [if_neg (by simp)]
      unfold hasL
      rw [inL_nil]
      simp
  | succ d ih =>
    intro i hi hd
    have hlt : i < s.length := by omega
    have h0 : ∀ k, burinref02_Has.l0 (k + 1) (s.map toRg) r i = burinref02_Has.j1 k (s.map toRg) r (i : Int) (decide (0 ≤ r ∧ r ≤ 1114111)) := by
      intro k
      simp only [burinref02_Has.l0]
      rw [if_pos (by simp; omega)]
      by_cases c : r ≥ 0
      · rw [if_pos c]
        congr 1
        rw [decide_eq_decide]
        omega
      · rw [if_neg c, decide_eq_false (by omega)]
    by_cases c : 0 ≤ r ∧ r ≤ 1114111
    · have hd' : hasL (s.drop i) r = ((decide (s[i].1 ≤ r) && decide (r ≤ s[i].2)) || hasL (s.drop (i + 1)) r) := by
        unfold hasL
        rw [decide_eq_true c.1, decide_eq_true c.2, List.drop_eq_getElem_cons hlt, inL_cons]
        rfl
      rw [hd']
      have hr := ih (i + 1) (by omega) (by omega)
      have h1 : ∀ k, burinref02_Has.j1 (k + 1) (s.map toRg) r (i : Int) true = if s[i].1 ≤ r ∧ r ≤ s[i].2 then some true else burinref02_Has.l0 k (s.map toRg) r ((i + 1 : Nat) : Int) := by
        intro k
        simp only [burinref02_Has.j1]
        rw [if_pos trivial, if_pos (by omega), if_pos (by simp; omega), rd_rg s i hlt, wrap_rg (x := (i : Int) + 1) (by omega) (by omega), show (i : Int) + 1 = ((i + 1 : Nat) : Int) by omega]
        rw [show (toRg s[i]).f0 = s[i].1 from rfl, show (toRg s[i]).f1 = s[i].2 from rfl]
        by_cases a : s[i].1 ≤ r
        · by_cases b : r ≤ s[i].2
          · rw [if_pos a, if_pos b, if_pos ⟨a, b⟩]
          · rw [if_pos a, if_neg b, if_neg (fun h => b h.2)]
        · rw [if_neg a, if_neg (fun h => a h.1)]
      rw [decide_eq_true c] at h0
      by_cases q : s[i].1 ≤ r ∧ r ≤ s[i].2
      · rw [decide_eq_true q.1, decide_eq_true q.2]
        exact Ev.step h0 (Ev.step (fun k => by rw [h1 k, if_pos q]; rfl) (Ev.now _))
      · have : (decide (s[i].1 ≤ r) && decide (r ≤ s[i].2)) = false := by
          rw [← Bool.not_eq_true, Bool.and_eq_true, decide_eq_true_eq, decide_eq_true_eq]
          exact q
        rw [this, Bool.false_or]
        exact Ev.step h0 (Ev.step (fun k => by rw [h1 k, if_neg q]) hr)
    · rw [decide_eq_false c] at h0
      refine Ev.step h0 (Ev.step (fun k => ?_) (Ev.now _))
      simp only [burinref02_Has.j1]
      rw [if_neg (by simp)]
      have : hasL (s.drop i) r = false := by
        unfold hasL
        by_cases c1 : 0 ≤ r
        · rw [decide_eq_false (show ¬ r ≤ 1114111 by omega)]; simp
        · rw [decide_eq_false c1]; simp
      rw [this]
theorem rhas_ev (s : List (Int × Int)) (r : Int) (hn : s.length ≤ 900000) : Ev (fun k => burinref02_Has.f k (s.map toRg) r) (hasL s r) := by
  have := rhas_l0 s r hn _ 0 (Nat.zero_le _) rfl
  unfold burinref02_Has.f
  simpa using this
theorem edge_l0 (s : List (Int × Int)) (at_ : Int) (h0 : 0 ≤ at_) (hn : s.length ≤ 900000) (d : Nat) : ∀ (i : Nat) (n : Int), i ≤ s.length → s.length - i = d → Ev (fun k => burinref02_edge.l0 k (s.map toRg) at_ n i) (edgeG at_ n (s.drop i)) := by
  induction d with
  | zero =>
    intro i n hi hd
    have e : i = s.length := by omega
    subst e
    rw [List.drop_of_length_le (Nat.le_refl _)]
    refine Ev.step (fun k => ?_) (Ev.now _)
    simp only [burinref02_edge.l0]
    rw [if_neg (by simp)]
    rfl
  | succ d ih =>
    intro i n hi hd
    have hlt : i < s.length := by omega
    rw [List.drop_eq_getElem_cons hlt, edgeG]
    have h1 : ∀ k, burinref02_edge.l0 (k + 1) (s.map toRg) at_ n i = burinref02_edge.j1 k (s.map toRg) at_ n i (decide (s[i].1 > at_ ∧ s[i].1 < n)) := by
      intro k
      simp only [burinref02_edge.l0]
      rw [if_pos (by simp; omega), if_pos (by omega), rd_rg s i hlt, show (toRg s[i]).f0 = s[i].1 from rfl]
      by_cases c : s[i].1 > at_
      · rw [if_pos c]
        congr 1
        rw [decide_eq_decide]
        omega
      · rw [if_neg c, decide_eq_false (by omega)]
    refine Ev.step h1 (Ev.step (fun k => ?_) (ih (i + 1) (edgeS at_ n s[i]) (by omega) (by omega)))
    have hw : at_ ≤ s[i].2 → s[i].2 < 1114111 → wrap64 (s[i].2 + 1) = s[i].2 + 1 := fun a b => wrap_rg (by omega) (by omega)
    simp only [burinref02_edge.j1]
    rw [rd_rg s i hlt, show (toRg s[i]).f0 = s[i].1 from rfl, show (toRg s[i]).f1 = s[i].2 from rfl, wrap_rg (x := (i : Int) + 1) (by omega) (by omega), show (i : Int) + 1 = ((i + 1 : Nat) : Int) by omega]
    have hi0 : (0 : Int) ≤ (i : Int) := by omega
    have hi1 : (i : Int) < ((s.map toRg).length : Int) := by simp; omega
    simp only [if_pos hi0, if_pos hi1, edgeS]
    by_cases c : s[i].1 > at_ ∧ s[i].1 < n
    · rw [decide_eq_true c]
      simp only [if_pos c, if_true]
      by_cases a : s[i].2 ≥ at_
      · rw [if_pos a]
        by_cases b : s[i].2 < 1114111
        · rw [if_pos b, hw a b]
          by_cases e : s[i].2 + 1 < s[i].1
          · rw [if_pos e, if_pos ⟨a, b, e⟩]
          · rw [if_neg e, if_neg (fun h => e h.2.2)]
        · rw [if_neg b, if_neg (fun h => b h.2.1)]
      · rw [if_neg a, if_neg (fun h => a h.1)]
    · rw [decide_eq_false c]
      simp only [if_neg c]
      rw [if_neg (by simp)]
      by_cases a : s[i].2 ≥ at_
      · rw [if_pos a]
        by_cases b : s[i].2 < 1114111
        · rw [if_pos b, hw a b]
          by_cases e : s[i].2 + 1 < n
          · rw [if_pos e, if_pos ⟨a, b, e⟩]
          · rw [if_neg e, if_neg (fun h => e h.2.2)]
        · rw [if_neg b, if_neg (fun h => b h.2.1)]
      · rw [if_neg a, if_neg (fun h => a h.1)]
theorem edge_ev (s : List (Int × Int)) (at_ : Int) (h0 : 0 ≤ at_) (hn : s.length ≤ 900000) : Ev (fun k => burinref02_edge.f k (s.map toRg) at_) (edgeL s at_) := by
  have := edge_l0 s at_ h0 hn _ 0 1114112 (Nat.zero_le _) rfl
  unfold burinref02_edge.f edgeL
  simpa using this
/-- The three ways of making. -/
def madeBy (op : Int) (x y : Bool) : Bool := (decide (op = 1) && (x || y)) || ((decide (op = 2) && (x && y)) || (decide (op = 3) && (x && !y)))
theorem make_j2 (op : Int) (a b : List (Int × Int)) (G : Int → Bool) (p : List (Int × Int)) (at_ next : Int) (hU : Upto G at_ p) (h0 : 0 ≤ at_) (h1 : at_ < next) (h2 : next ≤ 1114112) (hG : ∀ r, at_ ≤ r → r < next → G r = G at_) :
    ∃ q, Upto G next q ∧ ∀ k, burinref02_Make.j2 (k + 1) op (a.map toRg) (b.map toRg) (p.map toRg) at_ next (G at_) = burinref02_Make.l0 k op (a.map toRg) (b.map toRg) (q.map toRg) next := by
  by_cases g : G at_ = true
  · rw [g] at hG
    have hlen := nrm_len hU.nrm
    have happ : (p.map toRg).length < 8796093022208 := by simp; omega
    rcases List.eq_nil_or_concat p with rfl | ⟨p', c, rfl⟩
    · refine ⟨[(at_, next - 1)], hU.more h0 h1 h2 hG (fun x hx => by cases hx), fun k => ?_⟩
      simp only [burinref02_Make.j2]
      rw [g, if_pos rfl, if_neg (by simp), if_pos happ, wrap_rg (x := next - 1) (by omega) (by omega)]
      rfl
    · rw [List.concat_eq_append] at *
      have hl : (((p' ++ [c]).map toRg).length : Int) = p'.length + 1 := by simp
      have hp' : p'.length + 1 ≤ 1114112 := by simpa using hlen
      have hlast : rd_T36 ((p' ++ [c]).map toRg) (p'.length : Int) = toRg c := by
        rw [rd_rg (p' ++ [c]) p'.length (by simp)]; simp
      have hc := hU.nrm.inr c (by simp)
      by_cases e : c.2 + 1 = at_
      · refine ⟨p' ++ [(c.1, next - 1)], hU.join h0 h1 h2 hG e, fun k => ?_⟩
        simp only [burinref02_Make.j2]
        rw [g, if_pos rfl, hl, if_pos (by omega), wrap_rg (x := (p'.length : Int) + 1 - 1) (by omega) (by omega), show (p'.length : Int) + 1 - 1 = p'.length by omega, if_pos (by omega), if_pos (by omega), hlast]
        rw [show (toRg c).f1 = c.2 from rfl, show (toRg c).f0 = c.1 from rfl, wrap_rg (x := c.2 + 1) (by omega) (by omega), if_pos e, wrap_rg (x := next - 1) (by omega) (by omega)]
        congr 1
        rw [Int.toNat_natCast, List.map_append, List.map_append, List.set_append_right _ _ (by simp)]
        simp [toRg]
      · refine ⟨(p' ++ [c]) ++ [(at_, next - 1)], hU.more h0 h1 h2 hG (fun x hx => ?_), fun k => ?_⟩
        · rcases List.mem_append.1 hx with hx | hx
          · have := (List.pairwise_append.1 hU.nrm.apart).2.2 x hx c (by simp)
            have := hU.lt c (by simp)
            omega
          · simp only [List.mem_singleton] at hx; subst hx; exact e
        · simp only [burinref02_Make.j2]
          rw [g, if_pos rfl, hl, if_pos (by omega), wrap_rg (x := (p'.length : Int) + 1 - 1) (by omega) (by omega), show (p'.length : Int) + 1 - 1 = p'.length by omega, if_pos (by omega), if_pos (by omega), hlast]
          rw [show (toRg c).f1 = c.2 from rfl, wrap_rg (x := c.2 + 1) (by omega) (by omega), if_neg e, if_pos happ, wrap_rg (x := next - 1) (by omega) (by omega)]
          congr 1
          simp [toRg]
  · rw [Bool.not_eq_true] at g
    rw [g] at hG
    refine ⟨p, hU.skip h1 hG, fun k => ?_⟩
    simp only [burinref02_Make.j2]
    rw [g, if_neg (by simp)]
theorem make_j1 (op : Int) (hop : op = 1 ∨ op = 2 ∨ op = 3) (a b : List S36) (p : List S36) (at_ next : Int) (x y : Bool) {m : List S36} (hx : Ev (fun k => burinref02_Has.f k a at_) x) (hy : Ev (fun k => burinref02_Has.f k b at_) y)
    (h : Ev (fun k => burinref02_Make.j2 k op a b p at_ next (madeBy op x y)) m) : Ev (fun k => burinref02_Make.j1 k op a b p at_ next) m := by
  refine Ev.step (fun k => by simp only [burinref02_Make.j1]; exact rfl) (Ev.bind hx (Ev.bind hy ?_))
  refine Ev.congr (fun k => ?_) h
  rcases hop with rfl | rfl | rfl <;> cases x <;> cases y <;> rfl
theorem make_l0 (op : Int) (hop : op = 1 ∨ op = 2 ∨ op = 3) (a b : List (Int × Int)) (ha : a.length ≤ 900000) (hb : b.length ≤ 900000) (d : Nat) : ∀ (at_ : Int) (p : List (Int × Int)), 0 ≤ at_ → at_ ≤ 1114112 → (1114112 - at_).toNat ≤ d → Upto (fun r => madeBy op (hasL a r) (hasL b r)) at_ p →
    ∃ q, Upto (fun r => madeBy op (hasL a r) (hasL b r)) 1114112 q ∧ Ev (fun k => burinref02_Make.l0 k op (a.map toRg) (b.map toRg) (p.map toRg) at_) (q.map toRg) := by
  induction d with
  | zero =>
    intro at_ p h0 h1 hd hU
    have e : at_ = 1114112 := by omega
    subst e
    refine ⟨p, hU, Ev.step (fun k => ?_) (Ev.now _)⟩
    simp only [burinref02_Make.l0]
    rw [if_neg (by omega)]
  | succ d ih =>
    intro at_ p h0 h1 hd hU
    by_cases c : at_ ≤ 1114111
    · have ea := edge_in a c
      have eb := edge_in b c
      obtain ⟨next, hnext⟩ : ∃ n, n = if edgeL b at_ < edgeL a at_ then edgeL b at_ else edgeL a at_ := ⟨_, rfl⟩
      have hn1 : at_ < next ∧ next ≤ 1114112 ∧ next ≤ edgeL a at_ ∧ next ≤ edgeL b at_ := by
        rw [hnext]; split <;> omega
      obtain ⟨q, hq, hj⟩ := make_j2 op a b (fun r => madeBy op (hasL a r) (hasL b r)) p at_ next hU h0 hn1.1 hn1.2.1 (fun r r0 r1 => by
        show madeBy op (hasL a r) (hasL b r) = madeBy op (hasL a at_) (hasL b at_)
        rw [edge_has h0 r0 (show r < edgeL a at_ by omega), edge_has h0 r0 (show r < edgeL b at_ by omega)])
      obtain ⟨m, hm, hE⟩ := ih next q (by omega) hn1.2.1 (by omega) hq
      refine ⟨m, hm, Ev.step (fun k => by simp only [burinref02_Make.l0]; rw [if_pos c]) (Ev.bind (edge_ev a at_ h0 ha) (Ev.bind (edge_ev b at_ h0 hb) ?_))⟩
      have key : Ev (fun k => burinref02_Make.j1 k op (a.map toRg) (b.map toRg) (p.map toRg) at_ next) (m.map toRg) :=
        make_j1 op hop _ _ _ _ _ _ _ (rhas_ev a at_ ha) (rhas_ev b at_ hb) (Ev.step hj hE)
      refine Ev.congr (fun k => ?_) key
      rw [hnext]
      split <;> rfl
    · have e : at_ = 1114112 := by omega
      subst e
      refine ⟨p, hU, Ev.step (fun k => ?_) (Ev.now _)⟩
      simp only [burinref02_Make.l0]
      rw [if_neg (by omega)]
theorem make_ev (op : Int) (hop : op = 1 ∨ op = 2 ∨ op = 3) (a b : List (Int × Int)) (ha : a.length ≤ 900000) (hb : b.length ≤ 900000) (m : List (Int × Int)) (hm : Nrm m) (hin : ∀ r, inL m r = madeBy op (hasL a r) (hasL b r)) :
    Ev (fun k => burinref02_Make.f k op (a.map toRg) (b.map toRg)) (m.map toRg) := by
  obtain ⟨q, hq, hE⟩ := make_l0 op hop a b ha hb 1114112 0 [] (by omega) (by omega) (by omega) (Upto.start _)
  have e : q = m := nrm_ext hq.nrm hm (fun r => by
    rw [hq.last r, hin r]
    unfold hasL madeBy
    cases decide (0 ≤ r) <;> cases decide (r ≤ 1114111) <;> simp)
  rw [← e]
  exact hE
theorem rnorm_ev (a : List (Int × Int)) (ha : a.length ≤ 900000) : Ev (fun k => burinref02_Norm.f k (a.map toRg)) ((normL a).map toRg) := by
  unfold burinref02_Norm.f
  refine Ev.bind (make_ev 1 (.inl rfl) a [] ha (by simp) (normL a) (normL_nrm a) (fun r => ?_)) (Ev.now _)
  rw [normL_in]
  have : hasL [] r = false := by unfold hasL; rw [inL_nil]; simp
  rw [this]
  unfold madeBy
  simp
theorem rcheck_l0 (s : List (Int × Int)) (hn : s.length ≤ 900000) (d : Nat) : ∀ (i : Nat) (p : Int), i ≤ s.length → s.length - i = d → (i = 0 → p = -2) → (∀ j : Nat, j + 1 = i → ∀ h : j < s.length, p = s[j].2 ∧ 0 ≤ p ∧ p ≤ 1114111) → Ev (fun k => burinref02_Check.l0 k (s.map toRg) i) (chk p (s.drop i)) := by
  induction d with
  | zero =>
    intro i p hi hd _ _
    have e : i = s.length := by omega
    subst e
    rw [List.drop_of_length_le (Nat.le_refl _)]
    refine Ev.step (fun k => ?_) (Ev.now _)
    simp only [burinref02_Check.l0]
    rw [if_neg (by simp)]
    rfl
  | succ d ih =>
    intro i p hi hd hp0 hp1
    have hlt : i < s.length := by omega
    rw [List.drop_eq_getElem_cons hlt, chk]
    have h1 : ∀ k, burinref02_Check.l0 (k + 1) (s.map toRg) i = burinref02_Check.j1 k (s.map toRg) i (decide (s[i].1 < 0 ∨ s[i].1 > 1114111 ∨ s[i].2 < 0 ∨ s[i].2 > 1114111)) := by
      intro k
      simp only [burinref02_Check.l0]
      rw [if_pos (by simp; omega), if_pos (by omega), rd_rg s i hlt, show (toRg s[i]).f0 = s[i].1 from rfl, show (toRg s[i]).f1 = s[i].2 from rfl]
      by_cases x0 : s[i].1 < 0
      · rw [if_pos x0, decide_eq_true (by omega)]
      · rw [if_neg x0]
        by_cases x2 : s[i].2 < 0
        · rw [if_pos x2, decide_eq_true (by omega)]
        · rw [if_neg x2]
          by_cases x1 : s[i].1 > 1114111
          · rw [if_pos x1, decide_eq_true (by omega)]
          · rw [if_neg x1]
            by_cases x3 : s[i].2 > 1114111
            · rw [decide_eq_true x3, decide_eq_true (by omega)]
            · rw [decide_eq_false x3, decide_eq_false (by omega)]
    by_cases c1 : s[i].1 < 0 ∨ s[i].1 > 1114111 ∨ s[i].2 < 0 ∨ s[i].2 > 1114111
    · rw [if_pos c1]
      refine Ev.step h1 (Ev.step (fun k => ?_) (Ev.now _))
      simp only [burinref02_Check.j1]
      rw [decide_eq_true c1, if_pos rfl]
    · rw [if_neg c1]
      have hj : ∀ k, burinref02_Check.j1 (k + 1) (s.map toRg) i false = if s[i].1 > s[i].2 then some 4 else if s[i].1 ≤ p + 1 then some 4 else burinref02_Check.l0 k (s.map toRg) ((i + 1 : Nat) : Int) := by
        intro k
        simp only [burinref02_Check.j1]
        rw [if_neg (by simp), if_pos (by omega), if_pos (by simp; omega), rd_rg s i hlt, show (toRg s[i]).f0 = s[i].1 from rfl, show (toRg s[i]).f1 = s[i].2 from rfl, wrap_rg (x := (i : Int) + 1) (by omega) (by omega), show (i : Int) + 1 = ((i + 1 : Nat) : Int) by omega]
        by_cases c2 : s[i].1 > s[i].2
        · rw [if_pos c2, if_pos c2]
        · rw [if_neg c2, if_neg c2]
          rcases Nat.eq_zero_or_pos i with z | z
          · have := hp0 z
            rw [if_neg (by omega), if_neg (by omega)]
          · obtain ⟨j, rfl⟩ : ∃ j, i = j + 1 := ⟨i - 1, by omega⟩
            obtain ⟨e1, e2, e3⟩ := hp1 j rfl (by omega)
            rw [if_pos (by omega), wrap_rg (x := ((j + 1 : Nat) : Int) - 1) (by omega) (by omega), show ((j + 1 : Nat) : Int) - 1 = ((j : Nat) : Int) by omega, if_pos (by omega), if_pos (by simp; omega), rd_rg s j (by omega), show (toRg s[j]).f1 = s[j].2 from rfl, wrap_rg (x := s[j + 1].1 - 1) (by omega) (by omega), ← e1]
            by_cases c3 : s[j + 1].1 - 1 ≤ p
            · rw [if_pos c3, if_pos (by omega)]
            · rw [if_neg c3, if_neg (by omega)]
      rw [decide_eq_false c1] at h1
      by_cases c2 : s[i].1 > s[i].2
      · rw [if_pos c2]
        exact Ev.step h1 (Ev.step (fun k => by rw [hj k, if_pos c2]) (Ev.now _))
      · rw [if_neg c2]
        by_cases c3 : s[i].1 ≤ p + 1
        · rw [if_pos c3]
          exact Ev.step h1 (Ev.step (fun k => by rw [hj k, if_neg c2, if_pos c3]) (Ev.now _))
        · rw [if_neg c3]
          refine Ev.step h1 (Ev.step (fun k => by rw [hj k, if_neg c2, if_neg c3]) (ih (i + 1) s[i].2 (by omega) (by omega) (fun h => by omega) (fun j hj' h => ?_)))
          obtain rfl : j = i := by omega
          exact ⟨rfl, by omega, by omega⟩
theorem rcheck_ev (s : List (Int × Int)) (hn : s.length ≤ 900000) : Ev (fun k => burinref02_Check.f k (s.map toRg)) (chk (-2) s) := by
  have := rcheck_l0 s hn _ 0 (-2) (Nat.zero_le _) rfl (fun _ => rfl) (fun j h => by omega)
  unfold burinref02_Check.f
  simpa using this
theorem rcount_l0 (s : List (Int × Int)) (hs : ∀ x ∈ s, 0 ≤ x.1 ∧ x.1 ≤ x.2 ∧ x.2 ≤ 1114111) (hn : s.length ≤ 900000) (d : Nat) : ∀ (i : Nat) (a : Int), i ≤ s.length → s.length - i = d → 0 ≤ a → a + sizeL (s.drop i) ≤ 1114112 →
    Ev (fun k => burinref02_Count.l0 k a (s.map toRg) i) (a + sizeL (s.drop i)) := by
  induction d with
  | zero =>
    intro i a hi hd h0 h1
    have e : i = s.length := by omega
    subst e
    refine Ev.step (fun k => ?_) (Ev.now _)
    simp only [burinref02_Count.l0]
    rw [if_neg (by simp), List.drop_of_length_le (Nat.le_refl _)]
    simp [sizeL]
  | succ d ih =>
    intro i a hi hd h0 h1
    have hlt : i < s.length := by omega
    have hx := hs _ (List.getElem_mem hlt)
    rw [List.drop_eq_getElem_cons hlt, sizeL] at h1 ⊢
    have hp : 0 ≤ sizeL (s.drop (i + 1)) := sizeL_pos (fun x hx => (hs x (List.mem_of_mem_drop hx)).2.1)
    have := ih (i + 1) (a + s[i].2 - s[i].1 + 1) (by omega) (by omega) (by omega) (by omega)
    rw [show a + (s[i].2 - s[i].1 + 1 + sizeL (s.drop (i + 1))) = a + s[i].2 - s[i].1 + 1 + sizeL (s.drop (i + 1)) by omega]
    refine Ev.step (fun k => ?_) this
    simp only [burinref02_Count.l0]
    rw [if_pos (by simp; omega), if_pos (by omega), rd_rg s i hlt]
    rw [show (toRg s[i]).f0 = s[i].1 from rfl, show (toRg s[i]).f1 = s[i].2 from rfl, wrap_rg (x := a + s[i].2) (by omega) (by omega), wrap_rg (x := a + s[i].2 - s[i].1) (by omega) (by omega), wrap_rg (x := a + s[i].2 - s[i].1 + 1) (by omega) (by omega), wrap_rg (x := (i : Int) + 1) (by omega) (by omega), show (i : Int) + 1 = ((i + 1 : Nat) : Int) by omega]
theorem rcount_ev (a : List (Int × Int)) (ha : a.length ≤ 900000) : Ev (fun k => burinref02_Count.f k (a.map toRg)) (sizeL (normL a)) := by
  have hl := normL_len a
  have hN := normL_nrm a
  have := rcount_l0 (normL a) (fun x hx => hN.inr x hx) (by omega) _ 0 0 (Nat.zero_le _) rfl (by omega) (by have := (size_norm_le a).2; simpa using this)
  unfold burinref02_Count.f
  refine Ev.bind (rnorm_ev a ha) ?_
  simpa using this
/-! The contracts, told by pairs. -/
theorem toC {A : Option Addr} {a : List (Int × Int)} {w : World} (h : Kd.C kRg w A a.length a) : Kd.C k36 w A (a.map toRg).length (a.map toRg) := by
  rw [rg_kd, List.length_map]
  exact C_iso.2 (by rw [map_forth]; exact h)
theorem fromR {e base : Nat} {ok : Nat → Prop} {v : Value} {a : List (Int × Int)} {w : World} (h : Kd.R k36 e w base ok v (a.map toRg)) : Kd.R kRg e w base ok v a := by
  have := R_iso.1 (rg_kd ▸ h)
  rwa [map_forth] at this
theorem works_at {w : World} : Calls Try.prog 8 #[] w (fun e w' => e = .returned (.bool true) ∧ Below w.heap.size w w') := by
  obtain ⟨k, hk⟩ := Ev.rounds works_ev
  exact burinlaw02_works.calls k true w hk
theorem same_at {A A' : Option Addr} {c c' : Nat} {a : List (Int × Int)} {w : World} (hn : a.length ≤ 900000) (h : Kd.C kRg w A a.length a) (hc : a.length ≤ c) (h' : Kd.C kRg w A' a.length a) (hc' : a.length ≤ c') :
    Calls Try.prog 11 #[.slice A a.length c, .slice A' a.length c'] w (fun e w' => e = .returned (.bool true) ∧ Below w.heap.size w w') := by
  obtain ⟨k, hk⟩ := Ev.rounds (same_ev (a.map toRg) (by simpa using hn))
  have := burinbook_SameRanges.calls k A c (a.map toRg) A' c' (a.map toRg) true w (toC h) (by simpa using hc) (toC h') (by simpa using hc') hk
  rw [List.length_map] at this
  exact this.mono fun e w' ⟨he, hb⟩ => ⟨he, hb.below⟩
theorem rnorm_at {A : Option Addr} {c : Nat} {a : List (Int × Int)} {w : World} (hn : a.length ≤ 900000) (h : Kd.C kRg w A a.length a) (hc : a.length ≤ c) : Calls Try.prog 12 #[.slice A a.length c] w (BothPost w (normL a)) := by
  obtain ⟨k, hk⟩ := Ev.rounds (rnorm_ev a hn)
  have := burinref02_Norm.calls k A c (a.map toRg) _ w (toC h) (by simpa using hc) hk
  rw [List.length_map] at this
  exact this.mono fun e w' ⟨v, he, hR, hb⟩ => ⟨v, he, fromR hR, hb⟩
theorem check_at {A : Option Addr} {c : Nat} {a : List (Int × Int)} {w : World} (hn : a.length ≤ 900000) (h : Kd.C kRg w A a.length a) (hc : a.length ≤ c) : Calls Try.prog 14 #[.slice A a.length c] w (fun e w' => e = .returned (.int .i64 (chk (-2) a)) ∧ Below w.heap.size w w') := by
  obtain ⟨k, hk⟩ := Ev.rounds (check_ev a hn)
  have := ranges_Check.calls k A c (a.map toRg) _ w (toC h) (by simpa using hc) hk
  rwa [List.length_map] at this
theorem rcheck_at {A : Option Addr} {c : Nat} {a : List (Int × Int)} {w : World} (hn : a.length ≤ 900000) (h : Kd.C kRg w A a.length a) (hc : a.length ≤ c) : Calls Try.prog 15 #[.slice A a.length c] w (fun e w' => e = .returned (.int .i64 (chk (-2) a)) ∧ Below w.heap.size w w') := by
  obtain ⟨k, hk⟩ := Ev.rounds (rcheck_ev a hn)
  have := burinref02_Check.calls k A c (a.map toRg) _ w (toC h) (by simpa using hc) hk
  rw [List.length_map] at this
  exact this.mono fun e w' ⟨he, hb⟩ => ⟨he, hb.below⟩
theorem count_at {A : Option Addr} {c : Nat} {a : List (Int × Int)} {w : World} (hn : a.length ≤ 900000) (h : Kd.C kRg w A a.length a) (hc : a.length ≤ c) : Calls Try.prog 18 #[.slice A a.length c] w (fun e w' => e = .returned (.int .i64 (sizeL (normL a))) ∧ Below w.heap.size w w') := by
  obtain ⟨k, hk⟩ := Ev.rounds (count_ev (a.map toRg) (by simpa using hn))
  rw [map_forth] at hk
  have := ranges_Count.calls k A c (a.map toRg) _ w (toC h) (by simpa using hc) hk
  rwa [List.length_map] at this
theorem rcount_at {A : Option Addr} {c : Nat} {a : List (Int × Int)} {w : World} (hn : a.length ≤ 900000) (h : Kd.C kRg w A a.length a) (hc : a.length ≤ c) : Calls Try.prog 19 #[.slice A a.length c] w (fun e w' => e = .returned (.int .i64 (sizeL (normL a))) ∧ Below w.heap.size w w') := by
  obtain ⟨k, hk⟩ := Ev.rounds (rcount_ev a hn)
  have := burinref02_Count.calls k A c (a.map toRg) _ w (toC h) (by simpa using hc) hk
  rwa [List.length_map] at this
theorem has_at {A : Option Addr} {c : Nat} {a : List (Int × Int)} {w : World} (r : Int) (h : Kd.C kRg w A a.length a) (hc : a.length ≤ c) : Calls Try.prog 16 #[.slice A a.length c, .int .i64 r] w (fun e w' => e = .returned (.bool (hasL a r)) ∧ Below w.heap.size w w') := by
  have := ranges_Has.calls A c (a.map toRg) r (hasL a r) w (toC h) (by simpa using hc) (by rw [has_f, map_forth])
  rwa [List.length_map] at this
theorem rhas_at {A : Option Addr} {c : Nat} {a : List (Int × Int)} {w : World} (r : Int) (hn : a.length ≤ 900000) (h : Kd.C kRg w A a.length a) (hc : a.length ≤ c) : Calls Try.prog 17 #[.slice A a.length c, .int .i64 r] w (fun e w' => e = .returned (.bool (hasL a r)) ∧ Below w.heap.size w w') := by
  obtain ⟨k, hk⟩ := Ev.rounds (rhas_ev a r hn)
  have := burinref02_Has.calls k A c (a.map toRg) r _ w (toC h) (by simpa using hc) hk
  rw [List.length_map] at this
  exact this.mono fun e w' ⟨he, hb⟩ => ⟨he, hb.below⟩
set_option maxHeartbeats 1000000 in
theorem RangesTells_walk (A : Option Addr) (c : Nat) (l : List (Int × Int)) (r : Int) (w : World) (hC : Kd.C kRg w A l.length l) (hc : l.length ≤ c) :
    Calls Try.prog 3 #[.slice A l.length c, .int .i64 r] w (fun e w' => e = .returned (.bool true) ∧ Below w.heap.size w w') := by
  by_cases h60 : l.length ≤ 60
  · have hL := lend_any A c l w hC (by omega)
    have HN := Aside0.mk (fun (A : Option Addr) (c : Nat) (w : World) (h : Kd.C kRg w A l.length l) (hc : l.length ≤ c) => normAt A c l w (by omega) h hc)
    have HRN := Aside0.mk (fun (A : Option Addr) (c : Nat) (w : World) (h : Kd.C kRg w A l.length l) (hc : l.length ≤ c) => rnorm_at (by omega) h hc)
    have HCK := Aside0.mk (fun (A : Option Addr) (c : Nat) (w : World) (h : Kd.C kRg w A l.length l) (hc : l.length ≤ c) => check_at (by omega) h hc)
    have HRCK := Aside0.mk (fun (A : Option Addr) (c : Nat) (w : World) (h : Kd.C kRg w A l.length l) (hc : l.length ≤ c) => rcheck_at (by omega) h hc)
    have HCO := Aside0.mk (fun (A : Option Addr) (c : Nat) (w : World) (h : Kd.C kRg w A l.length l) (hc : l.length ≤ c) => count_at (by omega) h hc)
    have HRCO := Aside0.mk (fun (A : Option Addr) (c : Nat) (w : World) (h : Kd.C kRg w A l.length l) (hc : l.length ≤ c) => rcount_at (by omega) h hc)
    have HH := Aside0.mk (fun (A : Option Addr) (c : Nat) (w : World) (h : Kd.C kRg w A l.length l) (hc : l.length ≤ c) => has_at r h hc)
    have HRH := Aside0.mk (fun (A : Option Addr) (c : Nat) (w : World) (h : Kd.C kRg w A l.length l) (hc : l.length ≤ c) => rhas_at r (by omega) h hc)
    have HS := Aside0.mk (fun (A A' : Option Addr) (c c' : Nat) (w : World) (h : Kd.C kRg w A (normL l).length (normL l)) (hc : (normL l).length ≤ c) (h' : Kd.C kRg w A' (normL l).length (normL l)) (hc' : (normL l).length ≤ c') => same_at (by have := normL_len l; omega) h hc h' hc')
    have HKE := Aside0.mk (fun (w : World) (base : Nat) (v : Value) (A0 : Option Addr) (c0 : Nat) (h : Lent w base v l) (h0 : Kd.C kRg w A0 l.length l) (hc0 : l.length ≤ c0) => kept_any l w base v A0 c0 (fun A c hA hc => same_at (by omega) hA hc h0 hc0) h (by omega))
    have HL := Aside0.mk hL
    have HC := Aside0.mk hC
    clear hL hC
    generalize chk (-2) l = ck at HCK HRCK
    generalize sizeL (normL l) = sz at HCO HRCO
    generalize hasL l r = hv at HH HRH
    generalize normL l = m at HN HRN HS
    obtain ⟨n, hn⟩ : ∃ n, l.length = n := ⟨_, rfl⟩
    have HLN := Aside0.mk hn
    rw [hn] at HN HRN HCK HRCK HCO HRCO HH HRH HKE HL HC h60 hc ⊢
    clear hn
    go_enter Try.func3, Try.ntmps3
    go_wp2_with fail
    refine HL.out.mono ?_
    rintro e w1 ⟨v1, rfl, hl1, hb1⟩
    obtain ⟨A1, c1, hv1, hc1, hC1⟩ := hl1.reads
    rw [HLN.out] at hv1 hc1 hC1
    subst hv1
    have HL1 := Aside0.mk hl1
    have HB1 := Aside0.mk hb1
    have HC1 := Aside0.mk hC1
    have HC0 := Aside0.mk (Kd.C_below HC.out hb1)
    clear hl1 hb1 hC1 HL HC
    go_wp2_with fail
    refine (HN.out A1 c1 w1 HC1.out (by omega)).mono ?_
    rintro e w2 ⟨v2, rfl, hR2, hb2⟩
    obtain ⟨A2, c2, rfl⟩ := Kd.R_slice hR2
    have HR2 := Aside0.mk hR2
    have HB2 := Aside0.mk hb2
    clear hR2 hb2
    go_wp2_with fail
    refine (HRN.out A c w2 (Kd.C_below HC0.out HB2.out) hc).mono ?_
    rintro e w3 ⟨v3, rfl, hR3, hb3⟩
    obtain ⟨A3, c3, rfl⟩ := Kd.R_slice hR3
    have HR3 := Aside0.mk hR3
    have HB3 := Aside0.mk hb3
    clear hR3 hb3
    go_wp2_with fail
    refine (HS.out A2 A3 c2 c3 w3 (Kd.C_below (Kd.R_reads' HR2.out).2.2 HB3.out) (Kd.R_reads' HR2.out).2.1 (Kd.R_reads' HR3.out).2.2 (Kd.R_reads' HR3.out).2.1).mono ?_
    rintro e w4 ⟨rfl, hb4⟩
    have HM4 := Aside0.mk (Kd.R_below (Kd.R_below HR2.out HB3.out) hb4)
    have HB4 := Aside0.mk ((HB2.out.trans (HB3.out.mono HB2.out.size)).trans (hb4.mono (HB2.out.trans (HB3.out.mono HB2.out.size)).size))
    clear HR2 HR3 HB2 HB3 hb4
    go_wp2_with fail
    refine (spoil_any m w4 w1.heap.size _ _ HM4.out).mono ?_
    rintro e w5 ⟨rfl, hb5⟩
    have HBB := Aside0.mk (HB4.out.trans hb5)
    clear HM4 HB4 hb5
    go_wp2_with fail
    refine ((HCK.out A1 c1 _ (Kd.C_below HC1.out HBB.out) (by omega))).mono ?_
    rintro e w' ⟨rfl, hb⟩
    have hbb := HBB.out.trans (hb.mono HBB.out.size)
    clear HBB hb
    have HBB := Aside0.mk hbb
    clear hbb
    go_wp2_with fail
    refine ((HRCK.out A c _ (Kd.C_below HC0.out HBB.out) hc)).mono ?_
    rintro e w' ⟨rfl, hb⟩
    have hbb := HBB.out.trans (hb.mono HBB.out.size)
    clear HBB hb
    have HBB := Aside0.mk hbb
    clear hbb
    go_wp2_with fail
    refine ((HH.out A1 c1 _ (Kd.C_below HC1.out HBB.out) (by omega))).mono ?_
    rintro e w' ⟨rfl, hb⟩
    have hbb := HBB.out.trans (hb.mono HBB.out.size)
    clear HBB hb
    have HBB := Aside0.mk hbb
    clear hbb
    go_wp2_with fail
    refine ((HRH.out A c _ (Kd.C_below HC0.out HBB.out) hc)).mono ?_
    rintro e w' ⟨rfl, hb⟩
    have hbb := HBB.out.trans (hb.mono HBB.out.size)
    clear HBB hb
    have HBB := Aside0.mk hbb
    clear hbb
    go_wp2_with fail
    refine ((HCO.out A1 c1 _ (Kd.C_below HC1.out HBB.out) (by omega))).mono ?_
    rintro e w' ⟨rfl, hb⟩
    have hbb := HBB.out.trans (hb.mono HBB.out.size)
    clear HBB hb
    have HBB := Aside0.mk hbb
    clear hbb
    go_wp2_with fail
    refine ((HRCO.out A c _ (Kd.C_below HC0.out HBB.out) hc)).mono ?_
    rintro e w' ⟨rfl, hb⟩
    have hbb := HBB.out.trans (hb.mono HBB.out.size)
    clear HBB hb
    have HBB := Aside0.mk hbb
    clear hbb
    go_wp2_with fail
    refine (HKE.out _ _ _ A c (HL1.out.below HBB.out) (Kd.C_below HC0.out HBB.out) hc).mono ?_
    rintro e w' ⟨rfl, hb⟩
    have hbb := HBB.out.trans (hb.mono HBB.out.size)
    clear HBB hb
    have HBB := Aside0.mk hbb
    clear hbb
    go_wp2_with fail
    refine (works_at).mono ?_
    rintro e w' ⟨rfl, hb⟩
    have hbb := HBB.out.trans (hb.mono HBB.out.size)
    clear HBB hb
    have HBB := Aside0.mk hbb
    clear hbb
    go_wp2
    go_ret
    exact ⟨rfl, HB1.out.trans (HBB.out.mono HB1.out.size)⟩
  · have HW := Aside0.mk (works_at (w := w))
    generalize l.length = n at *
    clear hC
    go_enter Try.func3, Try.ntmps3
    go_wp2_with fail
    refine HW.out.mono ?_
    rintro e w1 ⟨rfl, hb⟩
    go_wp2
    go_ret
    exact ⟨rfl, hb⟩
end Go.Proofs.Ytedilngdbmfhaaa.Pure
