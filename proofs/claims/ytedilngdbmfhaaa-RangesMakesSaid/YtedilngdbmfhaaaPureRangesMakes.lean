/- RangesMakes: Union, Both, Minus, Not by the reference; the arguments are kept; no condition. -/
import Derived.Test.YtedilngdbmfhaaaHRangesMakesx4
import Derived.Test.YtedilngdbmfhaaaHRangesMakesx6
import Derived.Test.YtedilngdbmfhaaaXRangesEdge
import Derived.Test.YtedilngdbmfhaaaXRangesSpoil
namespace Go.Proofs.Ytedilngdbmfhaaa.Pure
open Go.RowKit Go.Proofs.Ytedilngdbmfhaaa.HRangesMakes Go.Proofs.YtedilngdbmfhaaaW.PrintWords Go.Proofs.YtedilngdbmfhaaaW.PrintLast
open Go.Proofs.YtedilngdbmfhaaaX
set_option linter.unusedVariables false

theorem has_f (l : List S36) (r : Int) : ranges_Has.f l r = some (hasL (l.map ofRg) r) := rfl
theorem has_to (l : List (Int × Int)) (r : Int) (hl : Nrm l) : ranges_Has.f (l.map toRg) r = some (inL l r) := by
  rw [has_f, map_forth, hasL_nrm hl]
theorem not_l0 (s : List (Int × Int)) (hs : ∀ x ∈ s, 0 ≤ x.1 ∧ x.1 ≤ x.2 ∧ x.2 ≤ 1114111) (hn : s.length ≤ 900000) (d : Nat) : ∀ (i : Nat) (p : List (Int × Int)) (f : Int), i ≤ s.length → s.length - i = d → p.length + d ≤ 900000 → 0 ≤ f → f ≤ 1114112 →
    Ev (fun k => ranges_Not.l0 k (p.map toRg) f (s.map toRg) (s.length : Int) i) ((p ++ notG f (s.drop i)).map toRg) := by
  induction d with
  | zero =>
    intro i p f hi hd hp h0 h1
    have e : i = s.length := by omega
    subst e
    refine Ev.step (fun k => ?_) (Ev.now _)
    simp only [ranges_Not.l0]
    rw [if_neg (by omega), List.drop_of_length_le (Nat.le_refl _)]
    by_cases hf : f ≤ 1114111
    · rw [if_pos hf, if_pos (by simp; omega), notG, if_pos hf]
      simp [toRg]
    · rw [if_neg hf, notG, if_neg hf, List.append_nil]
  | succ d ih =>
    intro i p f hi hd hp h0 h1
    have hlt : i < s.length := by omega
    have hx := hs _ (List.getElem_mem hlt)
    have hstep : ∀ k, ranges_Not.l0 (k + 1) (p.map toRg) f (s.map toRg) (s.length : Int) i = if s[i].1 > f then ranges_Not.l0 k ((p ++ [(f, s[i].1 - 1)]).map toRg) (s[i].2 + 1) (s.map toRg) (s.length : Int) ((i + 1 : Nat) : Int) else ranges_Not.l0 k (p.map toRg) (s[i].2 + 1) (s.map toRg) (s.length : Int) ((i + 1 : Nat) : Int) := by
      intro k
      simp only [ranges_Not.l0]
      rw [if_pos (by omega), if_pos (by omega), if_pos (by simp; omega), rd_rg s i hlt]
      rw [show (toRg s[i]).f0 = s[i].1 from rfl, show (toRg s[i]).f1 = s[i].2 from rfl, wrap_rg (x := s[i].1 - 1) (by omega) (by omega), wrap_rg (x := s[i].2 + 1) (by omega) (by omega), wrap_rg (x := (i : Int) + 1) (by omega) (by omega), show (i : Int) + 1 = ((i + 1 : Nat) : Int) by omega]
      rw [if_pos (c := (List.map toRg p).length < 8796093022208) (by simp; omega)]
      simp [toRg]
    rw [List.drop_eq_getElem_cons hlt, notG]
    by_cases h : s[i].1 > f
    · rw [if_pos h]
      have := ih (i + 1) (p ++ [(f, s[i].1 - 1)]) (s[i].2 + 1) (by omega) (by omega) (by simp; omega) (by omega) (by omega)
      rw [List.append_assoc] at this
      exact Ev.step (fun k => by rw [hstep k, if_pos h]) this
    · rw [if_neg h]
      exact Ev.step (fun k => by rw [hstep k, if_neg h]) (ih (i + 1) p (s[i].2 + 1) (by omega) (by omega) (by omega) (by omega) (by omega))
theorem not_ev (l : List S36) (hn : l.length ≤ 900000) : Ev (fun k => ranges_Not.f k l) ((notL (l.map ofRg)).map toRg) := by
  have hl := normL_len (l.map ofRg)
  rw [List.length_map] at hl
  have hN := normL_nrm (l.map ofRg)
  have := not_l0 (normL (l.map ofRg)) (fun x hx => hN.inr x hx) (by omega) _ 0 [] 0 (Nat.zero_le _) rfl (by simp; omega) (by omega) (by omega)
  unfold ranges_Not.f
  refine Ev.bind (norm_ev l hn) ?_
  simpa [notL] using this
theorem works_ev : Ev burinlaw02_works.f true := Ev.of burinlaw02_works.mono (k := 12) (by decide +kernel)
theorem minus_ev (l0 l1 : List S36) (h0 : l0.length ≤ 900) (h1 : l1.length ≤ 800) : Ev (fun k => ranges_Minus.f k l0 l1) ((minusL (l0.map ofRg) (l1.map ofRg)).map toRg) := by
  have hl := notL_len (l1.map ofRg)
  rw [List.length_map] at hl
  unfold ranges_Minus.f
  refine Ev.bind (not_ev l1 (by omega)) (Ev.congr (fun k => ?_) (Ev.now _))
  unfold ranges_Both.f
  rw [if_pos (by simp; omega), map_forth]
  rfl
theorem union_f (l0 l1 : List S36) (h0 : l0.length ≤ 400000) (h1 : l1.length ≤ 400000) : ranges_Union.f l0 l1 = some ((unionL (l0.map ofRg) (l1.map ofRg)).map toRg) := by unfold ranges_Union.f; rw [if_pos ⟨h0, h1⟩]
theorem both_f (l0 l1 : List S36) (h0 : l0.length ≤ 900) (h1 : l1.length ≤ 900) : ranges_Both.f l0 l1 = some ((bothF (l0.map ofRg) (l1.map ofRg)).map toRg) := by unfold ranges_Both.f; rw [if_pos ⟨h0, h1⟩]
theorem same_l0 (s : List S36) (hn : s.length ≤ 2000000) (d : Nat) : ∀ i : Nat, i ≤ s.length → s.length - i = d → Ev (fun k => burinbook_SameRanges.l0 k s s true i) true := by
  induction d with
  | zero =>
    intro i hi hd
    refine Ev.step (fun k => ?_) (Ev.now _)
    simp only [burinbook_SameRanges.l0]
    rw [if_pos trivial, if_neg (by omega)]
  | succ d ih =>
    intro i hi hd
    refine Ev.step (fun k => ?_) (ih (i + 1) (by omega) (by omega))
    simp only [burinbook_SameRanges.l0]
    rw [if_pos trivial, if_pos (by omega), if_pos (by omega), if_pos (by omega), wrap_rg (x := (i : Int) + 1) (by omega) (by omega), show (i : Int) + 1 = ((i + 1 : Nat) : Int) by omega]
    simp
theorem same_ev (s : List S36) (hn : s.length ≤ 2000000) : Ev (fun k => burinbook_SameRanges.f k s s) true := by
  have := same_l0 s hn _ 0 (Nat.zero_le _) rfl
  unfold burinbook_SameRanges.f
  simpa using this
theorem rhas_l0 (s : List (Int × Int)) (r : Int) (hn : s.length ≤ 900000) (d : Nat) : ∀ i : Nat, i ≤ s.length → s.length - i = d → Ev (fun k => burinref02_Has.l0 k (s.map toRg) r i) (hasL (s.drop i) r) := by
  induction d with
  | zero =>
    intro i hi hd
    have e : i = s.length := by omega
    subst e
    rw [List.drop_of_length_le (Nat.le_refl _)]
    refine Ev.step (f := fun k => burinref02_Has.j1 k (s.map toRg) r (s.length : Int) false) (fun k => ?_) (Ev.step (fun k => ?_) (Ev.now _))
    · simp only [burinref02_Has.l0]
      rw [if_neg (by simp)]
    · simp only [burinref02_Has.j1]
      rw [if_neg (by simp)]
      unfold hasL
      rw [inL_nil]
      simp
  | succ d ih =>
    intro i hi hd
    have hlt : i < s.length := by omega
    have h0 : ∀ k, burinref02_Has.l0 (k + 1) (s.map toRg) r i = burinref02_Has.j1 k (s.map toRg) r (i : Int) (decide (0 ≤ r ∧ r ≤ 1114111)) := by
      intro k
      simp only [burinref02_Has.l0]
      rw [if_pos (by simp; omega)]
      by_cases c : r ≥ 0
      · rw [if_pos c]
        congr 1
        rw [decide_eq_decide]
        omega
      · rw [if_neg c, decide_eq_false (by omega)]
    by_cases c : 0 ≤ r ∧ r ≤ 1114111
    · have hd' : hasL (s.drop i) r = ((decide (s[i].1 ≤ r) && decide (r ≤ s[i].2)) || hasL (s.drop (i + 1)) r) := by
        unfold hasL
        rw [decide_eq_true c.1, decide_eq_true c.2, List.drop_eq_getElem_cons hlt, inL_cons]
        rfl
      rw [hd']
      have hr := ih (i + 1) (by omega) (by omega)
      have h1 : ∀ k, burinref02_Has.j1 (k + 1) (s.map toRg) r (i : Int) true = if s[i].1 ≤ r ∧ r ≤ s[i].2 then some true else burinref02_Has.l0 k (s.map toRg) r ((i + 1 : Nat) : Int) := by
        intro k
        simp only [burinref02_Has.j1]
        rw [if_pos trivial, if_pos (by omega), if_pos (by simp; omega), rd_rg s i hlt, wrap_rg (x := (i : Int) + 1) (by omega) (by omega), show (i : Int) + 1 = ((i + 1 : Nat) : Int) by omega]
        rw [show (toRg s[i]).f0 = s[i].1 from rfl, show (toRg s[i]).f1 = s[i].2 from rfl]
        by_cases a : s[i].1 ≤ r
        · by_cases b : r ≤ s[i].2
          · rw [if_pos a, if_pos b, if_pos ⟨a, b⟩]
          · rw [if_pos a, if_neg b, if_neg (fun h => b h.2)]
        · rw [if_neg a, if_neg (fun h => a h.1)]
      rw [decide_eq_true c] at h0
      by_cases q : s[i].1 ≤ r ∧ r ≤ s[i].2
      · rw [decide_eq_true q.1, decide_eq_true q.2]
        exact Ev.step h0 (Ev.step (fun k => by rw [h1 k, if_pos q]; rfl) (Ev.now _))
      · have : (decide (s[i].1 ≤ r) && decide (r ≤ s[i].2)) = false := by
          rw [← Bool.not_eq_true, Bool.and_eq_true, decide_eq_true_eq, decide_eq_true_eq]
          exact q
        rw [this, Bool.false_or]
        exact Ev.step h0 (Ev.step (fun k => by rw [h1 k, if_neg q]) hr)
    · rw [decide_eq_false c] at h0
      refine Ev.step h0 (Ev.step (fun k => ?_) (Ev.now _))
      simp only [burinref02_Has.j1]
      rw [if_neg (by simp)]
      have : hasL (s.drop i) r = false := by
        unfold hasL
        by_cases c1 : 0 ≤ r
        · rw [decide_eq_false (show ¬ r ≤ 1114111 by omega)]; simp
        · rw [decide_eq_false c1]; simp
      rw [this]
theorem rhas_ev (s : List (Int × Int)) (r : Int) (hn : s.length ≤ 900000) : Ev (fun k => burinref02_Has.f k (s.map toRg) r) (hasL s r) := by
  have := rhas_l0 s r hn _ 0 (Nat.zero_le _) rfl
  unfold burinref02_Has.f
  simpa using this
theorem edge_l0 (s : List (Int × Int)) (at_ : Int) (h0 : 0 ≤ at_) (hn : s.length ≤ 900000) (d : Nat) : ∀ (i : Nat) (n : Int), i ≤ s.length → s.length - i = d → Ev (fun k => burinref02_edge.l0 k (s.map toRg) at_ n i) (edgeG at_ n (s.drop i)) := by
  induction d with
  | zero =>
    intro i n hi hd
    have e : i = s.length := by omega
    subst e
    rw [List.drop_of_length_le (Nat.le_refl _)]
    refine Ev.step (fun k => ?_) (Ev.now _)
    simp only [burinref02_edge.l0]
    rw [if_neg (by simp)]
    rfl
  | succ d ih =>
    intro i n hi hd
    have hlt : i < s.length := by omega
    rw [List.drop_eq_getElem_cons hlt, edgeG]
    have h1 : ∀ k, burinref02_edge.l0 (k + 1) (s.map toRg) at_ n i = burinref02_edge.j1 k (s.map toRg) at_ n i (decide (s[i].1 > at_ ∧ s[i].1 < n)) := by
      intro k
      simp only [burinref02_edge.l0]
      rw [if_pos (by simp; omega), if_pos (by omega), rd_rg s i hlt, show (toRg s[i]).f0 = s[i].1 from rfl]
      by_cases c : s[i].1 > at_
      · rw [if_pos c]
        congr 1
        rw [decide_eq_decide]
        omega
      · rw [if_neg c, decide_eq_false (by omega)]
    refine Ev.step h1 (Ev.step (fun k => ?_) (ih (i + 1) (edgeS at_ n s[i]) (by omega) (by omega)))
    have hw : at_ ≤ s[i].2 → s[i].2 < 1114111 → wrap64 (s[i].2 + 1) = s[i].2 + 1 := fun a b => wrap_rg (by omega) (by omega)
    simp only [burinref02_edge.j1]
    rw [rd_rg s i hlt, show (toRg s[i]).f0 = s[i].1 from rfl, show (toRg s[i]).f1 = s[i].2 from rfl, wrap_rg (x := (i : Int) + 1) (by omega) (by omega), show (i : Int) + 1 = ((i + 1 : Nat) : Int) by omega]
    have hi0 : (0 : Int) ≤ (i : Int) := by omega
    have hi1 : (i : Int) < ((s.map toRg).length : Int) := by simp; omega
    simp only [if_pos hi0, if_pos hi1, edgeS]
    by_cases c : s[i].1 > at_ ∧ s[i].1 < n
    · rw [decide_eq_true c]
      simp only [if_pos c, if_true]
      by_cases a : s[i].2 ≥ at_
      · rw [if_pos a]
        by_cases b : s[i].2 < 1114111
        · rw [if_pos b, hw a b]
          by_cases e : s[i].2 + 1 < s[i].1
          · rw [if_pos e, if_pos ⟨a, b, e⟩]
          · rw [if_neg e, if_neg (fun h => e h.2.2)]
        · rw [if_neg b, if_neg (fun h => b h.2.1)]
      · rw [if_neg a, if_neg (fun h => a h.1)]
    · rw [decide_eq_false c]
      simp only [if_neg c]
      rw [if_neg (by simp)]
      by_cases a : s[i].2 ≥ at_
      · rw [if_pos a]
        by_cases b : s[i].2 < 1114111
        · rw [if_pos b, hw a b]
          by_cases e : s[i].2 + 1 < n
          · rw [if_pos e, if_pos ⟨a, b, e⟩]
          · rw [if_neg e, if_neg (fun h => e h.2.2)]
        · rw [if_neg b, if_neg (fun h => b h.2.1)]
      · rw [if_neg a, if_neg (fun h => a h.1)]
theorem edge_ev (s : List (Int × Int)) (at_ : Int) (h0 : 0 ≤ at_) (hn : s.length ≤ 900000) : Ev (fun k => burinref02_edge.f k (s.map toRg) at_) (edgeL s at_) := by
  have := edge_l0 s at_ h0 hn _ 0 1114112 (Nat.zero_le _) rfl
  unfold burinref02_edge.f edgeL
  simpa using this
/-- The three ways of making. -/
def madeBy (op : Int) (x y : Bool) : Bool := (decide (op = 1) && (x || y)) || ((decide (op = 2) && (x && y)) || (decide (op = 3) && (x && !y)))
theorem make_j2 (op : Int) (a b : List (Int × Int)) (G : Int → Bool) (p : List (Int × Int)) (at_ next : Int) (hU : Upto G at_ p) (h0 : 0 ≤ at_) (h1 : at_ < next) (h2 : next ≤ 1114112) (hG : ∀ r, at_ ≤ r → r < next → G r = G at_) :
    ∃ q, Upto G next q ∧ ∀ k, burinref02_Make.j2 (k + 1) op (a.map toRg) (b.map toRg) (p.map toRg) at_ next (G at_) = burinref02_Make.l0 k op (a.map toRg) (b.map toRg) (q.map toRg) next := by
  by_cases g : G at_ = true
  · rw [g] at hG
    have hlen := nrm_len hU.nrm
    have happ : (p.map toRg).length < 8796093022208 := by simp; omega
    rcases List.eq_nil_or_concat p with rfl | ⟨p', c, rfl⟩
    · refine ⟨[(at_, next - 1)], hU.more h0 h1 h2 hG (fun x hx => by cases hx), fun k => ?_⟩
      simp only [burinref02_Make.j2]
      rw [g, if_pos rfl, if_neg (by simp), if_pos happ, wrap_rg (x := next - 1) (by omega) (by omega)]
      rfl
    · rw [List.concat_eq_append] at *
      have hl : (((p' ++ [c]).map toRg).length : Int) = p'.length + 1 := by simp
      have hp' : p'.length + 1 ≤ 1114112 := by simpa using hlen
      have hlast : rd_T36 ((p' ++ [c]).map toRg) (p'.length : Int) = toRg c := by
        rw [rd_rg (p' ++ [c]) p'.length (by simp)]; simp
      have hc := hU.nrm.inr c (by simp)
      by_cases e : c.2 + 1 = at_
      · refine ⟨p' ++ [(c.1, next - 1)], hU.join h0 h1 h2 hG e, fun k => ?_⟩
        simp only [burinref02_Make.j2]
        rw [g, if_pos rfl, hl, if_pos (by omega), wrap_rg (x := (p'.length : Int) + 1 - 1) (by omega) (by omega), show (p'.length : Int) + 1 - 1 = p'.length by omega, if_pos (by omega), if_pos (by omega), hlast]
        rw [show (toRg c).f1 = c.2 from rfl, show (toRg c).f0 = c.1 from rfl, wrap_rg (x := c.2 + 1) (by omega) (by omega), if_pos e, wrap_rg (x := next - 1) (by omega) (by omega)]
        congr 1
        rw [Int.toNat_natCast, List.map_append, List.map_append, List.set_append_right _ _ (by simp)]
        simp [toRg]
      · refine ⟨(p' ++ [c]) ++ [(at_, next - 1)], hU.more h0 h1 h2 hG (fun x hx => ?_), fun k => ?_⟩
        · rcases List.mem_append.1 hx with hx | hx
          · have := (List.pairwise_append.1 hU.nrm.apart).2.2 x hx c (by simp)
            have := hU.lt c (by simp)
            omega
          · simp only [List.mem_singleton] at hx; subst hx; exact e
        · simp only [burinref02_Make.j2]
          rw [g, if_pos rfl, hl, if_pos (by omega), wrap_rg (x := (p'.length : Int) + 1 - 1) (by omega) (by omega), show (p'.length : Int) + 1 - 1 = p'.length by omega, if_pos (by omega), if_pos (by omega), hlast]
          rw [show (toRg c).f1 = c.2 from rfl, wrap_rg (x := c.2 + 1) (by omega) (by omega), if_neg e, if_pos happ, wrap_rg (x := next - 1) (by omega) (by omega)]
          congr 1
          simp [toRg]
  · rw [Bool.not_eq_true] at g
    rw [g] at hG
    refine ⟨p, hU.skip h1 hG, fun k => ?_⟩
    simp only [burinref02_Make.j2]
    rw [g, if_neg (by simp)]
theorem make_j1 (op : Int) (hop : op = 1 ∨ op = 2 ∨ op = 3) (a b : List S36) (p : List S36) (at_ next : Int) (x y : Bool) {m : List S36} (hx : Ev (fun k => burinref02_Has.f k a at_) x) (hy : Ev (fun k => burinref02_Has.f k b at_) y)
    (h : Ev (fun k => burinref02_Make.j2 k op a b p at_ next (madeBy op x y)) m) : Ev (fun k => burinref02_Make.j1 k op a b p at_ next) m := by
  refine Ev.step (fun k => by simp only [burinref02_Make.j1]; exact rfl) (Ev.bind hx (Ev.bind hy ?_))
  refine Ev.congr (fun k => ?_) h
  rcases hop with rfl | rfl | rfl <;> cases x <;> cases y <;> rfl
theorem make_l0 (op : Int) (hop : op = 1 ∨ op = 2 ∨ op = 3) (a b : List (Int × Int)) (ha : a.length ≤ 900000) (hb : b.length ≤ 900000) (d : Nat) : ∀ (at_ : Int) (p : List (Int × Int)), 0 ≤ at_ → at_ ≤ 1114112 → (1114112 - at_).toNat ≤ d → Upto (fun r => madeBy op (hasL a r) (hasL b r)) at_ p →
    ∃ q, Upto (fun r => madeBy op (hasL a r) (hasL b r)) 1114112 q ∧ Ev (fun k => burinref02_Make.l0 k op (a.map toRg) (b.map toRg) (p.map toRg) at_) (q.map toRg) := by
  induction d with
  | zero =>
    intro at_ p h0 h1 hd hU
    have e : at_ = 1114112 := by omega
    subst e
    refine ⟨p, hU, Ev.step (fun k => ?_) (Ev.now _)⟩
    simp only [burinref02_Make.l0]
    rw [if_neg (by omega)]
  | succ d ih =>
    intro at_ p h0 h1 hd hU
    by_cases c : at_ ≤ 1114111
    · have ea := edge_in a c
      have eb := edge_in b c
      obtain ⟨next, hnext⟩ : ∃ n, n = if edgeL b at_ < edgeL a at_ then edgeL b at_ else edgeL a at_ := ⟨_, rfl⟩
      have hn1 : at_ < next ∧ next ≤ 1114112 ∧ next ≤ edgeL a at_ ∧ next ≤ edgeL b at_ := by
        rw [hnext]; split <;> omega
      obtain ⟨q, hq, hj⟩ := make_j2 op a b (fun r => madeBy op (hasL a r) (hasL b r)) p at_ next hU h0 hn1.1 hn1.2.1 (fun r r0 r1 => by
        show madeBy op (hasL a r) (hasL b r) = madeBy op (hasL a at_) (hasL b at_)
        rw [edge_has h0 r0 (show r < edgeL a at_ by omega), edge_has h0 r0 (show r < edgeL b at_ by omega)])
      obtain ⟨m, hm, hE⟩ := ih next q (by omega) hn1.2.1 (by omega) hq
      refine ⟨m, hm, Ev.step (fun k => by simp only [burinref02_Make.l0]; rw [if_pos c]) (Ev.bind (edge_ev a at_ h0 ha) (Ev.bind (edge_ev b at_ h0 hb) ?_))⟩
      have key : Ev (fun k => burinref02_Make.j1 k op (a.map toRg) (b.map toRg) (p.map toRg) at_ next) (m.map toRg) :=
        make_j1 op hop _ _ _ _ _ _ _ (rhas_ev a at_ ha) (rhas_ev b at_ hb) (Ev.step hj hE)
      refine Ev.congr (fun k => ?_) key
      rw [hnext]
      split <;> rfl
    · have e : at_ = 1114112 := by omega
      subst e
      refine ⟨p, hU, Ev.step (fun k => ?_) (Ev.now _)⟩
      simp only [burinref02_Make.l0]
      rw [if_neg (by omega)]
theorem make_ev (op : Int) (hop : op = 1 ∨ op = 2 ∨ op = 3) (a b : List (Int × Int)) (ha : a.length ≤ 900000) (hb : b.length ≤ 900000) (m : List (Int × Int)) (hm : Nrm m) (hin : ∀ r, inL m r = madeBy op (hasL a r) (hasL b r)) :
    Ev (fun k => burinref02_Make.f k op (a.map toRg) (b.map toRg)) (m.map toRg) := by
  obtain ⟨q, hq, hE⟩ := make_l0 op hop a b ha hb 1114112 0 [] (by omega) (by omega) (by omega) (Upto.start _)
  have e : q = m := nrm_ext hq.nrm hm (fun r => by
    rw [hq.last r, hin r]
    unfold hasL madeBy
    cases decide (0 ≤ r) <;> cases decide (r ≤ 1114111) <;> simp)
  rw [← e]
  exact hE
/-! The contracts, told by pairs. -/
theorem toC {A : Option Addr} {a : List (Int × Int)} {w : World} (h : Kd.C kRg w A a.length a) : Kd.C k36 w A (a.map toRg).length (a.map toRg) := by
  rw [rg_kd, List.length_map]
  exact C_iso.2 (by rw [map_forth]; exact h)
theorem fromR {e base : Nat} {ok : Nat → Prop} {v : Value} {a : List (Int × Int)} {w : World} (h : Kd.R k36 e w base ok v (a.map toRg)) : Kd.R kRg e w base ok v a := by
  have := R_iso.1 (rg_kd ▸ h)
  rwa [map_forth] at this
theorem works_at {w : World} : Calls Try.prog 8 #[] w (fun e w' => e = .returned (.bool true) ∧ Below w.heap.size w w') := by
  obtain ⟨k, hk⟩ := Ev.rounds works_ev
  exact burinlaw02_works.calls k true w hk
theorem same_at {A A' : Option Addr} {c c' : Nat} {a : List (Int × Int)} {w : World} (hn : a.length ≤ 2000000) (h : Kd.C kRg w A a.length a) (hc : a.length ≤ c) (h' : Kd.C kRg w A' a.length a) (hc' : a.length ≤ c') :
    Calls Try.prog 11 #[.slice A a.length c, .slice A' a.length c'] w (fun e w' => e = .returned (.bool true) ∧ Below w.heap.size w w') := by
  obtain ⟨k, hk⟩ := Ev.rounds (same_ev (a.map toRg) (by simpa using hn))
  have := burinbook_SameRanges.calls k A c (a.map toRg) A' c' (a.map toRg) true w (toC h) (by simpa using hc) (toC h') (by simpa using hc') hk
  rw [List.length_map] at this
  exact this.mono fun e w' ⟨he, hb⟩ => ⟨he, hb.below⟩
theorem union_at {A B : Option Addr} {c d : Nat} {a b : List (Int × Int)} {w : World} (hn : a.length ≤ 40) (hm : b.length ≤ 40) (h : Kd.C kRg w A a.length a) (hc : a.length ≤ c) (h' : Kd.C kRg w B b.length b) (hd : b.length ≤ d) : Calls Try.prog 21 #[.slice A a.length c, .slice B b.length d] w (BothPost w (unionL a b)) := by
  have := ranges_Union.calls A c (a.map toRg) B d (b.map toRg) ((unionL a b).map toRg) w (toC h) (by simpa using hc) (toC h') (by simpa using hd) (by rw [union_f _ _ (by simp; omega) (by simp; omega), map_forth, map_forth])
  rw [List.length_map, List.length_map] at this
  exact this.mono fun e w' ⟨v, he, hR, hb⟩ => ⟨v, he, fromR hR, hb⟩
theorem both_at {A B : Option Addr} {c d : Nat} {a b : List (Int × Int)} {w : World} (hn : a.length ≤ 40) (hm : b.length ≤ 40) (h : Kd.C kRg w A a.length a) (hc : a.length ≤ c) (h' : Kd.C kRg w B b.length b) (hd : b.length ≤ d) : Calls Try.prog 22 #[.slice A a.length c, .slice B b.length d] w (BothPost w (bothF a b)) := by
  have := ranges_Both.calls A c (a.map toRg) B d (b.map toRg) ((bothF a b).map toRg) w (toC h) (by simpa using hc) (toC h') (by simpa using hd) (by rw [both_f _ _ (by simp; omega) (by simp; omega), map_forth, map_forth])
  rw [List.length_map, List.length_map] at this
  exact this.mono fun e w' ⟨v, he, hR, hb⟩ => ⟨v, he, fromR hR, hb⟩
theorem minus_at {A B : Option Addr} {c d : Nat} {a b : List (Int × Int)} {w : World} (hn : a.length ≤ 40) (hm : b.length ≤ 40) (h : Kd.C kRg w A a.length a) (hc : a.length ≤ c) (h' : Kd.C kRg w B b.length b) (hd : b.length ≤ d) : Calls Try.prog 23 #[.slice A a.length c, .slice B b.length d] w (BothPost w (minusL a b)) := by
  obtain ⟨k, hk⟩ := Ev.rounds (minus_ev (a.map toRg) (b.map toRg) (by simp; omega) (by simp; omega))
  rw [map_forth, map_forth] at hk
  have := ranges_Minus.calls k A c (a.map toRg) B d (b.map toRg) _ w (toC h) (by simpa using hc) (toC h') (by simpa using hd) hk
  rw [List.length_map, List.length_map] at this
  exact this.mono fun e w' ⟨v, he, hR, hb⟩ => ⟨v, he, fromR hR, hb⟩
theorem not_at {A : Option Addr} {c : Nat} {a : List (Int × Int)} {w : World} (hn : a.length ≤ 40) (h : Kd.C kRg w A a.length a) (hc : a.length ≤ c) : Calls Try.prog 24 #[.slice A a.length c] w (BothPost w (notL a)) := by
  obtain ⟨k, hk⟩ := Ev.rounds (not_ev (a.map toRg) (by simp; omega))
  rw [map_forth] at hk
  have := ranges_Not.calls k A c (a.map toRg) _ w (toC h) (by simpa using hc) hk
  rw [List.length_map] at this
  exact this.mono fun e w' ⟨v, he, hR, hb⟩ => ⟨v, he, fromR hR, hb⟩
theorem make_at {A B : Option Addr} {c d : Nat} {a b : List (Int × Int)} {w : World} (op : Int) (hop : op = 1 ∨ op = 2 ∨ op = 3) (m : List (Int × Int)) (hm : Nrm m) (hin : ∀ r, inL m r = madeBy op (hasL a r) (hasL b r)) (hna : a.length ≤ 40) (hnb : b.length ≤ 40) (h : Kd.C kRg w A a.length a) (hc : a.length ≤ c) (h' : Kd.C kRg w B b.length b) (hd : b.length ≤ d) : Calls Try.prog 25 #[.int .i64 op, .slice A a.length c, .slice B b.length d] w (BothPost w m) := by
  obtain ⟨k, hk⟩ := Ev.rounds (make_ev op hop a b (by omega) (by omega) m hm hin)
  have := burinref02_Make.calls k op A c (a.map toRg) B d (b.map toRg) _ w (toC h) (by simpa using hc) (toC h') (by simpa using hd) hk
  rw [List.length_map, List.length_map] at this
  exact this.mono fun e w' ⟨v, he, hR, hb⟩ => ⟨v, he, fromR hR, hb⟩
theorem all_in (r : Int) : hasL [((0 : Int), (1114111 : Int))] r = (decide (0 ≤ r) && decide (r ≤ 1114111)) := by
  unfold hasL
  rw [pair_in]
  cases decide (0 ≤ r) <;> cases decide (r ≤ 1114111) <;> rfl
theorem rnot_ev (a : List (Int × Int)) (ha : a.length ≤ 900000) : Ev (fun k => burinref02_Not.f k (a.map toRg)) ((notL a).map toRg) := by
  unfold burinref02_Not.f
  refine Ev.bind (Ev.now _) (Ev.bind (make_ev 3 (.inr (.inr rfl)) [(0, 1114111)] a (by simp) ha (notL a) (notL_nrm a) (fun r => ?_)) (Ev.now _))
  rw [notL_in, all_in]
  unfold madeBy hasL
  cases decide (0 ≤ r) <;> cases decide (r ≤ 1114111) <;> cases inL a r <;> rfl
theorem rnot_at {A : Option Addr} {c : Nat} {a : List (Int × Int)} {w : World} (hn : a.length ≤ 40) (h : Kd.C kRg w A a.length a) (hc : a.length ≤ c) : Calls Try.prog 26 #[.slice A a.length c] w (BothPost w (notL a)) := by
  obtain ⟨k, hk⟩ := Ev.rounds (rnot_ev a (by omega))
  have := burinref02_Not.calls k A c (a.map toRg) _ w (toC h) (by simpa using hc) hk
  rw [List.length_map] at this
  exact this.mono fun e w' ⟨v, he, hR, hb⟩ => ⟨v, he, fromR hR, hb⟩
set_option maxHeartbeats 2000000 in
theorem RangesMakes_walk (A0 : Option Addr) (c0 : Nat) (a : List (Int × Int)) (B0 : Option Addr) (d0 : Nat) (b : List (Int × Int)) (w : World) (hCa : Kd.C kRg w A0 a.length a) (hca : a.length ≤ c0) (hCb : Kd.C kRg w B0 b.length b) (hcb : b.length ≤ d0) :
    Calls Try.prog 4 #[.slice A0 a.length c0, .slice B0 b.length d0] w (fun e w' => e = .returned (.bool true) ∧ Below w.heap.size w w') := by
  by_cases h40 : a.length ≤ 40 ∧ b.length ≤ 40
  · obtain ⟨ha, hb⟩ := h40
    have hL := lend_any A0 c0 a w hCa (by omega)
    have HLB := Aside0.mk (fun (w : World) (h : Kd.C kRg w B0 b.length b) => lend_any B0 d0 b w h (by omega))
    have HU := Aside0.mk (fun (A : Option Addr) (c : Nat) (B : Option Addr) (d : Nat) (w : World) (h : Kd.C kRg w A a.length a) (hc : a.length ≤ c) (h' : Kd.C kRg w B b.length b) (hd : b.length ≤ d) => union_at ha hb h hc h' hd)
    have HV := Aside0.mk (fun (A : Option Addr) (c : Nat) (B : Option Addr) (d : Nat) (w : World) (h : Kd.C kRg w A a.length a) (hc : a.length ≤ c) (h' : Kd.C kRg w B b.length b) (hd : b.length ≤ d) => both_at ha hb h hc h' hd)
    have HM := Aside0.mk (fun (A : Option Addr) (c : Nat) (B : Option Addr) (d : Nat) (w : World) (h : Kd.C kRg w A a.length a) (hc : a.length ≤ c) (h' : Kd.C kRg w B b.length b) (hd : b.length ≤ d) => minus_at ha hb h hc h' hd)
    have HZ := Aside0.mk (fun (A : Option Addr) (c : Nat) (w : World) (h : Kd.C kRg w A a.length a) (hc : a.length ≤ c) => not_at ha h hc)
    have HMK1 := Aside0.mk (fun (A : Option Addr) (c : Nat) (B : Option Addr) (d : Nat) (w : World) (h : Kd.C kRg w A a.length a) (hc : a.length ≤ c) (h' : Kd.C kRg w B b.length b) (hd : b.length ≤ d) => make_at 1 (.inl rfl) (unionL a b) (unionL_nrm a b) (fun r => by rw [unionL_in]; unfold madeBy; simp) ha hb h hc h' hd)
    have HMK2 := Aside0.mk (fun (A : Option Addr) (c : Nat) (B : Option Addr) (d : Nat) (w : World) (h : Kd.C kRg w A a.length a) (hc : a.length ≤ c) (h' : Kd.C kRg w B b.length b) (hd : b.length ≤ d) => make_at 2 (.inr (.inl rfl)) (bothF a b) (bothF_nrm a b) (fun r => by rw [bothF_in]; unfold madeBy; simp) ha hb h hc h' hd)
    have HMK3 := Aside0.mk (fun (A : Option Addr) (c : Nat) (B : Option Addr) (d : Nat) (w : World) (h : Kd.C kRg w A a.length a) (hc : a.length ≤ c) (h' : Kd.C kRg w B b.length b) (hd : b.length ≤ d) => make_at 3 (.inr (.inr rfl)) (minusL a b) (minusL_nrm a b) (fun r => by rw [minusL_in]; unfold madeBy; simp) ha hb h hc h' hd)
    have HRN := Aside0.mk (fun (A : Option Addr) (c : Nat) (w : World) (h : Kd.C kRg w A a.length a) (hc : a.length ≤ c) => rnot_at ha h hc)
    have HSU := Aside0.mk (fun (A A' : Option Addr) (c c' : Nat) (w : World) (h : Kd.C kRg w A (unionL a b).length (unionL a b)) (hc : (unionL a b).length ≤ c) (h' : Kd.C kRg w A' (unionL a b).length (unionL a b)) (hc' : (unionL a b).length ≤ c') => same_at (by have := nrm_len (unionL_nrm a b); omega) h hc h' hc')
    have HSV := Aside0.mk (fun (A A' : Option Addr) (c c' : Nat) (w : World) (h : Kd.C kRg w A (bothF a b).length (bothF a b)) (hc : (bothF a b).length ≤ c) (h' : Kd.C kRg w A' (bothF a b).length (bothF a b)) (hc' : (bothF a b).length ≤ c') => same_at (by have := nrm_len (bothF_nrm a b); omega) h hc h' hc')
    have HSM := Aside0.mk (fun (A A' : Option Addr) (c c' : Nat) (w : World) (h : Kd.C kRg w A (minusL a b).length (minusL a b)) (hc : (minusL a b).length ≤ c) (h' : Kd.C kRg w A' (minusL a b).length (minusL a b)) (hc' : (minusL a b).length ≤ c') => same_at (by have := nrm_len (minusL_nrm a b); omega) h hc h' hc')
    have HSZ := Aside0.mk (fun (A A' : Option Addr) (c c' : Nat) (w : World) (h : Kd.C kRg w A (notL a).length (notL a)) (hc : (notL a).length ≤ c) (h' : Kd.C kRg w A' (notL a).length (notL a)) (hc' : (notL a).length ≤ c') => same_at (by have := nrm_len (notL_nrm a); omega) h hc h' hc')
    have HKa := Aside0.mk (fun (w : World) (base : Nat) (v : Value) (A : Option Addr) (c : Nat) (h : Lent w base v a) (h0 : Kd.C kRg w A a.length a) (hc0 : a.length ≤ c) => kept_any a w base v A c (fun A' c' hA hc => same_at (by omega) hA hc h0 hc0) h (by omega))
    have HKb := Aside0.mk (fun (w : World) (base : Nat) (v : Value) (A : Option Addr) (c : Nat) (h : Lent w base v b) (h0 : Kd.C kRg w A b.length b) (hc0 : b.length ≤ c) => kept_any b w base v A c (fun A' c' hA hc => same_at (by omega) hA hc h0 hc0) h (by omega))
    have HL := Aside0.mk hL
    have HCa := Aside0.mk hCa
    have HCb := Aside0.mk hCb
    clear hL hCa hCb
    generalize unionL a b = U at HU HMK1 HSU
    generalize bothF a b = V at HV HMK2 HSV
    generalize minusL a b = M at HM HMK3 HSM
    generalize notL a = Z at HZ HRN HSZ
    obtain ⟨n, hn⟩ : ∃ n, a.length = n := ⟨_, rfl⟩
    obtain ⟨m, hm⟩ : ∃ m, b.length = m := ⟨_, rfl⟩
    have HLa := Aside0.mk hn
    have HLb := Aside0.mk hm
    rw [hn] at HU HV HM HMK1 HMK2 HMK3 HZ HRN HKa HL HCa ha hca ⊢
    rw [hm] at HU HV HM HMK1 HMK2 HMK3 HKb HLB HCb hb hcb ⊢
    clear hn hm
    go_enter Try.func4, Try.ntmps4
    go_wp2_with fail
    refine HL.out.mono ?_
    rintro e w1 ⟨v1, rfl, hl1, hb1⟩
    have HL1 := Aside0.mk hl1
    have HB1 := Aside0.mk hb1
    clear hl1 hb1 HL
    go_wp2_with fail
    refine (HLB.out w1 (Kd.C_below HCb.out HB1.out)).mono ?_
    rintro e w2 ⟨v2, rfl, hl2, hb2⟩
    obtain ⟨A1, c1, hv1, hc1, hC1⟩ := (HL1.out.below hb2).reads
    obtain ⟨A2, c2, hv2, hc2, hC2⟩ := hl2.reads
    rw [HLa.out] at hv1 hc1 hC1
    rw [HLb.out] at hv2 hc2 hC2
    subst hv1
    subst hv2
    have HLx := Aside0.mk (HL1.out.below hb2)
    have HLy := Aside0.mk hl2
    have HX := Aside0.mk hC1
    have HY := Aside0.mk hC2
    have HB2 := Aside0.mk (HB1.out.trans (hb2.mono HB1.out.size))
    have HA2 := Aside0.mk (Kd.C_below (Kd.C_below HCa.out HB1.out) hb2)
    have HB2' := Aside0.mk (Kd.C_below (Kd.C_below HCb.out HB1.out) hb2)
    clear hl2 hb2 hC1 hC2 HL1 HB1 HCa HCb HLB
    go_wp2_with fail
    refine (HU.out A1 c1 A2 c2 w2 HX.out (by omega) HY.out (by omega)).mono ?_
    rintro e w3 ⟨u3, rfl, hR3, hb3⟩
    obtain ⟨A3, c3, rfl⟩ := Kd.R_slice hR3
    have HR3 := Aside0.mk hR3
    have HB3 := Aside0.mk hb3
    clear hR3 hb3
    go_wp2_with fail
    refine (HV.out A1 c1 A2 c2 w3 (Kd.C_below HX.out HB3.out) (by omega) (Kd.C_below HY.out HB3.out) (by omega)).mono ?_
    rintro e w4 ⟨u4, rfl, hR4, hb4⟩
    obtain ⟨A4, c4, rfl⟩ := Kd.R_slice hR4
    have HR4 := Aside0.mk hR4
    have HB4 := Aside0.mk hb4
    have HB24 := Aside0.mk (HB3.out.trans (hb4.mono HB3.out.size))
    clear hR4 hb4
    go_wp2_with fail
    refine (HM.out A1 c1 A2 c2 w4 (Kd.C_below HX.out HB24.out) (by omega) (Kd.C_below HY.out HB24.out) (by omega)).mono ?_
    rintro e w5 ⟨u5, rfl, hR5, hb5⟩
    obtain ⟨A5, c5, rfl⟩ := Kd.R_slice hR5
    have HR5 := Aside0.mk hR5
    have HB5 := Aside0.mk hb5
    have HB25 := Aside0.mk (HB24.out.trans (hb5.mono HB24.out.size))
    clear hR5 hb5
    go_wp2_with fail
    refine (HZ.out A1 c1 w5 (Kd.C_below HX.out HB25.out) (by omega)).mono ?_
    rintro e w6 ⟨u6, rfl, hR6, hb6⟩
    obtain ⟨A6, c6, rfl⟩ := Kd.R_slice hR6
    have HU6 := Aside0.mk (Kd.R_below (Kd.R_below (Kd.R_below HR3.out HB4.out) HB5.out) hb6)
    have HV6 := Aside0.mk (Kd.R_below (Kd.R_below HR4.out HB5.out) hb6)
    have HM6 := Aside0.mk (Kd.R_below HR5.out hb6)
    have HZ6 := Aside0.mk hR6
    have HB26 := Aside0.mk (HB25.out.trans (hb6.mono HB25.out.size))
    have HO3 := Aside0.mk (fun k hk => ((Kd.R_bound HR3.out).1 k hk).2.2.1)
    have HO4 := Aside0.mk (fun k hk => ((Kd.R_bound HR4.out).1 k hk).2.2.1)
    have HS34 := Aside0.mk HB4.out.size
    have HW23 := Aside0.mk HB3.out.size
    have HS45 := Aside0.mk HB5.out.size
    clear hR6 hb6 HR3 HR4 HR5 HB3 HB4 HB5 HB24 HB25 HU HV HM HZ
    have HBB := Aside0.mk (Below.refl w6.heap.size w6)
    go_wp2_with fail
    refine (HMK1.out A0 c0 B0 d0 _ (Kd.C_below HA2.out (HB26.out.trans (HBB.out.mono HB26.out.size))) hca (Kd.C_below HB2'.out (HB26.out.trans (HBB.out.mono HB26.out.size))) hcb).mono ?_
    rintro e w' ⟨v', rfl, hR, hb⟩
    obtain ⟨A', c', rfl⟩ := Kd.R_slice hR
    have hbb := HBB.out.trans (hb.mono HBB.out.size)
    clear HBB hb
    have HBB := Aside0.mk hbb
    have HR := Aside0.mk hR
    clear hbb hR
    go_wp2_with fail
    refine (HSU.out A3 A' c3 c' _ (Kd.C_below (Kd.R_reads' HU6.out).2.2 HBB.out) (Kd.R_reads' HU6.out).2.1 (Kd.R_reads' HR.out).2.2 (Kd.R_reads' HR.out).2.1).mono ?_
    rintro e w'' ⟨rfl, hb⟩
    have hbb := HBB.out.trans (hb.mono HBB.out.size)
    clear HBB hb HR
    have HBB := Aside0.mk hbb
    clear hbb
    go_wp2_with fail
    refine (HMK2.out A0 c0 B0 d0 _ (Kd.C_below HA2.out (HB26.out.trans (HBB.out.mono HB26.out.size))) hca (Kd.C_below HB2'.out (HB26.out.trans (HBB.out.mono HB26.out.size))) hcb).mono ?_
    rintro e w' ⟨v', rfl, hR, hb⟩
    obtain ⟨A', c', rfl⟩ := Kd.R_slice hR
    have hbb := HBB.out.trans (hb.mono HBB.out.size)
    clear HBB hb
    have HBB := Aside0.mk hbb
    have HR := Aside0.mk hR
    clear hbb hR
    go_wp2_with fail
    refine (HSV.out A4 A' c4 c' _ (Kd.C_below (Kd.R_reads' HV6.out).2.2 HBB.out) (Kd.R_reads' HV6.out).2.1 (Kd.R_reads' HR.out).2.2 (Kd.R_reads' HR.out).2.1).mono ?_
    rintro e w'' ⟨rfl, hb⟩
    have hbb := HBB.out.trans (hb.mono HBB.out.size)
    clear HBB hb HR
    have HBB := Aside0.mk hbb
    clear hbb
    go_wp2_with fail
    refine (HMK3.out A0 c0 B0 d0 _ (Kd.C_below HA2.out (HB26.out.trans (HBB.out.mono HB26.out.size))) hca (Kd.C_below HB2'.out (HB26.out.trans (HBB.out.mono HB26.out.size))) hcb).mono ?_
    rintro e w' ⟨v', rfl, hR, hb⟩
    obtain ⟨A', c', rfl⟩ := Kd.R_slice hR
    have hbb := HBB.out.trans (hb.mono HBB.out.size)
    clear HBB hb
    have HBB := Aside0.mk hbb
    have HR := Aside0.mk hR
    clear hbb hR
    go_wp2_with fail
    refine (HSM.out A5 A' c5 c' _ (Kd.C_below (Kd.R_reads' HM6.out).2.2 HBB.out) (Kd.R_reads' HM6.out).2.1 (Kd.R_reads' HR.out).2.2 (Kd.R_reads' HR.out).2.1).mono ?_
    rintro e w'' ⟨rfl, hb⟩
    have hbb := HBB.out.trans (hb.mono HBB.out.size)
    clear HBB hb HR
    have HBB := Aside0.mk hbb
    clear hbb
    go_wp2_with fail
    refine (HRN.out A0 c0 _ (Kd.C_below HA2.out (HB26.out.trans (HBB.out.mono HB26.out.size))) hca).mono ?_
    rintro e w' ⟨v', rfl, hR, hb⟩
    obtain ⟨A', c', rfl⟩ := Kd.R_slice hR
    have hbb := HBB.out.trans (hb.mono HBB.out.size)
    clear HBB hb
    have HBB := Aside0.mk hbb
    have HR := Aside0.mk hR
    clear hbb hR
    go_wp2_with fail
    refine (HSZ.out A6 A' c6 c' _ (Kd.C_below (Kd.R_reads' HZ6.out).2.2 HBB.out) (Kd.R_reads' HZ6.out).2.1 (Kd.R_reads' HR.out).2.2 (Kd.R_reads' HR.out).2.1).mono ?_
    rintro e w'' ⟨rfl, hb⟩
    have hbb := HBB.out.trans (hb.mono HBB.out.size)
    clear HBB hb HR
    have HBB := Aside0.mk hbb
    clear hbb
    go_wp2_with fail
    rename_i wk
    have HU7 := Aside0.mk (Kd.R_below HU6.out HBB.out)
    have HV7 := Aside0.mk (Kd.R_below HV6.out HBB.out)
    have HZ7 := Aside0.mk (Kd.R_below HZ6.out HBB.out)
    have HB27 := Aside0.mk (HB26.out.trans (HBB.out.mono HB26.out.size))
    clear HU6 HV6 HM6 HZ6 HBB HB26
    refine (spoil_but _ _ _ _ _ HU7.out).mono ?_
    rintro e w8 ⟨rfl, hb8, hk8⟩
    have HV8 := Aside0.mk (Kd.R_move (Kd.R_bound HV7.out) (fun k hk => hk8 k (fun e => by have := HO3.out k e.symm; have := hk.2.1; omega)))
    have HZ8 := Aside0.mk (Kd.R_move (Kd.R_bound HZ7.out) (fun k hk => hk8 k (fun e => by have := HO3.out k e.symm; have := hk.2.1; have := HS34.out; have := HS45.out; omega)))
    have HB28 := Aside0.mk (HB27.out.trans hb8)
    clear hb8 hk8 HV7 HZ7 HU7 HB27
    go_wp2_with fail
    refine (spoil_but _ _ _ _ _ HV8.out).mono ?_
    rintro e w9 ⟨rfl, hb9, hk9⟩
    have HZ9 := Aside0.mk (Kd.R_move (Kd.R_bound HZ8.out) (fun k hk => hk9 k (fun e => by have := HO4.out k e.symm; have := hk.2.1; have := HS45.out; omega)))
    have HB29 := Aside0.mk (HB28.out.trans (hb9.mono (by have := HW23.out; omega)))
    clear hb9 hk9 HZ8 HV8 HB28
    go_wp2_with fail
    refine (spoil_but _ _ _ _ _ HZ9.out).mono ?_
    rintro e w10 ⟨rfl, hb10, hk10⟩
    have HBB := Aside0.mk (HB29.out.trans (hb10.mono (by have := HW23.out; have := HS34.out; have := HS45.out; omega)))
    clear hb10 hk10 HZ9 HB29
    go_wp2_with fail
    refine (HKa.out _ _ _ A0 c0 (HLx.out.below HBB.out) (Kd.C_below HA2.out HBB.out) hca).mono ?_
    rintro e w' ⟨rfl, hb⟩
    have hbb := HBB.out.trans (hb.mono HBB.out.size)
    clear HBB hb
    have HBB := Aside0.mk hbb
    clear hbb
    go_wp2_with fail
    refine (HKb.out _ _ _ B0 d0 (HLy.out.below HBB.out) (Kd.C_below HB2'.out HBB.out) hcb).mono ?_
    rintro e w' ⟨rfl, hb⟩
    have hbb := HBB.out.trans (hb.mono HBB.out.size)
    clear HBB hb
    have HBB := Aside0.mk hbb
    clear hbb
    go_wp2_with fail
    refine (works_at).mono ?_
    rintro e w' ⟨rfl, hb⟩
    have hbb := HBB.out.trans (hb.mono HBB.out.size)
    clear HBB hb
    have HBB := Aside0.mk hbb
    clear hbb
    go_wp2
    go_ret
    exact ⟨rfl, HB2.out.trans (HBB.out.mono HB2.out.size)⟩
  · have HW := Aside0.mk (works_at (w := w))
    clear hCa hCb
    generalize a.length = n at *
    generalize b.length = m at *
    go_enter Try.func4, Try.ntmps4
    by_cases hn : n ≤ 40
    · have hm : ¬ m ≤ 40 := fun h => h40 ⟨hn, h⟩
      clear h40
      go_wp2_with fail
      refine HW.out.mono ?_
      rintro e w1 ⟨rfl, hb⟩
      go_wp2
      go_ret
      exact ⟨rfl, hb⟩
    · clear h40
      go_wp2_with fail
      refine HW.out.mono ?_
      rintro e w1 ⟨rfl, hb⟩
      go_wp2
      go_ret
      exact ⟨rfl, hb⟩
end Go.Proofs.Ytedilngdbmfhaaa.Pure
