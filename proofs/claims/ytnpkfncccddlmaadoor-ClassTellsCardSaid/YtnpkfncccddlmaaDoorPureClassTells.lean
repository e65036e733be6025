/- ClassTells: the document's sets; no condition. -/
import Derived.Test.YtnpkfncccddlmaaDoorHClassTellsx10
import Derived.Test.YtnpkfncccddlmaaDoorXRangesEdge
namespace Go.Proofs.YtnpkfncccddlmaaDoor.Pure
open Go.RowKit Go.Proofs.YtnpkfncccddlmaaDoor.HClassTells Go.Proofs.YtnpkfncccddlmaaDoorW.PrintWords Go.Proofs.YtnpkfncccddlmaaDoorW.PrintLast
open Go.Proofs.YtnpkfncccddlmaaDoorX

theorem ev_step {α : Type} {g : Nat → Option α} {r : α} (f : Nat → Option α) (h : ∀ k, g (k + 1) = f k) (k : Ev f r) : Ev g r := Ev.step h k
theorem ev_from {α : Type} {g : Nat → Option α} {r : α} (K : Nat) (h : ∀ k, K ≤ k → g k = some r) : Ev g r := ⟨K, h⟩
theorem not_l0 (s : List (Int × Int)) (hs : ∀ x ∈ s, 0 ≤ x.1 ∧ x.1 ≤ x.2 ∧ x.2 ≤ 1114111) (hn : s.length ≤ 900000) (d : Nat) : ∀ (i : Nat) (p : List (Int × Int)) (f : Int), i ≤ s.length → s.length - i = d → p.length + d ≤ 900000 → 0 ≤ f → f ≤ 1114112 →
    Ev (fun k => ranges_Not.l0 k (p.map toRg) f (s.map toRg) (s.length : Int) i) ((p ++ notG f (s.drop i)).map toRg) := by
  induction d with
  | zero =>
    intro i p f hi hd hp h0 h1
    have e : i = s.length := by omega
    subst e
    refine Ev.step (fun k => ?_) (Ev.now _)
    simp only [ranges_Not.l0]
    rw [if_neg (by omega), List.drop_of_length_le (Nat.le_refl _)]
    by_cases hf : f ≤ 1114111
    · rw [if_pos hf, if_pos (by simp; omega), notG, if_pos hf]
      simp [toRg]
    · rw [if_neg hf, notG, if_neg hf, List.append_nil]
  | succ d ih =>
    intro i p f hi hd hp h0 h1
    have hlt : i < s.length := by omega
    have hx := hs _ (List.getElem_mem hlt)
    have hstep : ∀ k, ranges_Not.l0 (k + 1) (p.map toRg) f (s.map toRg) (s.length : Int) i = if s[i].1 > f then ranges_Not.l0 k ((p ++ [(f, s[i].1 - 1)]).map toRg) (s[i].2 + 1) (s.map toRg) (s.length : Int) ((i + 1 : Nat) : Int) else ranges_Not.l0 k (p.map toRg) (s[i].2 + 1) (s.map toRg) (s.length : Int) ((i + 1 : Nat) : Int) := by
      intro k
      simp only [ranges_Not.l0]
      rw [if_pos (by omega), if_pos (by omega), if_pos (by simp; omega), rd_rg s i hlt]
      rw [show (toRg s[i]).f0 = s[i].1 from rfl, show (toRg s[i]).f1 = s[i].2 from rfl, wrap_rg (x := s[i].1 - 1) (by omega) (by omega), wrap_rg (x := s[i].2 + 1) (by omega) (by omega), wrap_rg (x := (i : Int) + 1) (by omega) (by omega), show (i : Int) + 1 = ((i + 1 : Nat) : Int) by omega]
      rw [if_pos (c := (List.map toRg p).length < 8796093022208) (by simp; omega)]
      simp [toRg]
    rw [List.drop_eq_getElem_cons hlt, notG]
    by_cases h : s[i].1 > f
    · rw [if_pos h]
      have := ih (i + 1) (p ++ [(f, s[i].1 - 1)]) (s[i].2 + 1) (by omega) (by omega) (by simp; omega) (by omega) (by omega)
      rw [List.append_assoc] at this
      exact Ev.step (fun k => by rw [hstep k, if_pos h]) this
    · rw [if_neg h]
      exact Ev.step (fun k => by rw [hstep k, if_neg h]) (ih (i + 1) p (s[i].2 + 1) (by omega) (by omega) (by omega) (by omega) (by omega))
theorem not_ev (l : List S42) (hn : l.length ≤ 900000) : Ev (fun k => ranges_Not.f k l) ((notL (l.map ofRg)).map toRg) := by
  have hl := normL_len (l.map ofRg)
  rw [List.length_map] at hl
  have hN := normL_nrm (l.map ofRg)
  have := not_l0 (normL (l.map ofRg)) (fun x hx => hN.inr x hx) (by omega) _ 0 [] 0 (Nat.zero_le _) rfl (by simp; omega) (by omega) (by omega)
  unfold ranges_Not.f
  refine Ev.bind (norm_ev l hn) ?_
  simpa [notL] using this
theorem same_l0 (s : List S42) (hn : s.length ≤ 2000000) (d : Nat) : ∀ i : Nat, i ≤ s.length → s.length - i = d → Ev (fun k => burinbook_SameRanges.l0 k s s true i) true := by
  induction d with
  | zero =>
    intro i hi hd
    refine Ev.step (fun k => ?_) (Ev.now _)
    simp only [burinbook_SameRanges.l0]
    rw [if_pos trivial, if_neg (by omega)]
  | succ d ih =>
    intro i hi hd
    refine Ev.step (fun k => ?_) (ih (i + 1) (by omega) (by omega))
    simp only [burinbook_SameRanges.l0]
    rw [if_pos trivial, if_pos (by omega), if_pos (by omega), if_pos (by omega), wrap_rg (x := (i : Int) + 1) (by omega) (by omega), show (i : Int) + 1 = ((i + 1 : Nat) : Int) by omega]
    simp
theorem same_ev (s : List S42) (hn : s.length ≤ 2000000) : Ev (fun k => burinbook_SameRanges.f k s s) true := by
  have := same_l0 s hn _ 0 (Nat.zero_le _) rfl
  unfold burinbook_SameRanges.f
  simpa using this
theorem rhas_l0 (s : List (Int × Int)) (r : Int) (hn : s.length ≤ 900000) (d : Nat) : ∀ i : Nat, i ≤ s.length → s.length - i = d → Ev (fun k => burinref02_Has.l0 k (s.map toRg) r i) (hasL (s.drop i) r) := by
  induction d with
  | zero =>
    intro i hi hd
    have e : i = s.length := by omega
    subst e
    rw [List.drop_of_length_le (Nat.le_refl _)]
    refine Ev.step (f := fun k => burinref02_Has.j1 k (s.map toRg) r (s.length : Int) false) (fun k => ?_) (Ev.step (fun k => ?_) (Ev.now _))
    · simp only [burinref02_Has.l0]
      rw [if_neg (by simp)]
    · simp only [burinref02_Has.j1]
      rw [if_neg (by simp)]
      unfold hasL
      rw [inL_nil]
      simp
  | succ d ih =>
    intro i hi hd
    have hlt : i < s.length := by omega
    have h0 : ∀ k, burinref02_Has.l0 (k + 1) (s.map toRg) r i = burinref02_Has.j1 k (s.map toRg) r (i : Int) (decide (0 ≤ r ∧ r ≤ 1114111)) := by
      intro k
      simp only [burinref02_Has.l0]
      rw [if_pos (by simp; omega)]
      by_cases c : r ≥ 0
      · rw [if_pos c]
        congr 1
        rw [decide_eq_decide]
        omega
      · rw [if_neg c, decide_eq_false (by omega)]
    by_cases c : 0 ≤ r ∧ r ≤ 1114111
    · have hd' : hasL (s.drop i) r = ((decide (s[i].1 ≤ r) && decide (r ≤ s[i].2)) || hasL (s.drop (i + 1)) r) := by
        unfold hasL
        rw [decide_eq_true c.1, decide_eq_true c.2, List.drop_eq_getElem_cons hlt, inL_cons]
        rfl
      rw [hd']
      have hr := ih (i + 1) (by omega) (by omega)
      have h1 : ∀ k, burinref02_Has.j1 (k + 1) (s.map toRg) r (i : Int) true = if s[i].1 ≤ r ∧ r ≤ s[i].2 then some true else burinref02_Has.l0 k (s.map toRg) r ((i + 1 : Nat) : Int) := by
        intro k
        simp only [burinref02_Has.j1]
        rw [if_pos trivial, if_pos (by omega), if_pos (by simp; omega), rd_rg s i hlt, wrap_rg (x := (i : Int) + 1) (by omega) (by omega), show (i : Int) + 1 = ((i + 1 : Nat) : Int) by omega]
        rw [show (toRg s[i]).f0 = s[i].1 from rfl, show (toRg s[i]).f1 = s[i].2 from rfl]
        by_cases a : s[i].1 ≤ r
        · by_cases b : r ≤ s[i].2
          · rw [if_pos a, if_pos b, if_pos ⟨a, b⟩]
          · rw [if_pos a, if_neg b, if_neg (fun h => b h.2)]
        · rw [if_neg a, if_neg (fun h => a h.1)]
      rw [decide_eq_true c] at h0
      by_cases q : s[i].1 ≤ r ∧ r ≤ s[i].2
      · rw [decide_eq_true q.1, decide_eq_true q.2]
        exact Ev.step h0 (Ev.step (fun k => by rw [h1 k, if_pos q]; rfl) (Ev.now _))
      · have : (decide (s[i].1 ≤ r) && decide (r ≤ s[i].2)) = false := by
          rw [← Bool.not_eq_true, Bool.and_eq_true, decide_eq_true_eq, decide_eq_true_eq]
          exact q
        rw [this, Bool.false_or]
        exact Ev.step h0 (Ev.step (fun k => by rw [h1 k, if_neg q]) hr)
    · rw [decide_eq_false c] at h0
      refine Ev.step h0 (Ev.step (fun k => ?_) (Ev.now _))
      simp only [burinref02_Has.j1]
      rw [if_neg (by simp)]
      have : hasL (s.drop i) r = false := by
        unfold hasL
        by_cases c1 : 0 ≤ r
        · rw [decide_eq_false (show ¬ r ≤ 1114111 by omega)]; simp
        · rw [decide_eq_false c1]; simp
      rw [this]
theorem rhas_ev (s : List (Int × Int)) (r : Int) (hn : s.length ≤ 900000) : Ev (fun k => burinref02_Has.f k (s.map toRg) r) (hasL s r) := by
  have := rhas_l0 s r hn _ 0 (Nat.zero_le _) rfl
  unfold burinref02_Has.f
  simpa using this
theorem edge_l0 (s : List (Int × Int)) (at_ : Int) (h0 : 0 ≤ at_) (hn : s.length ≤ 900000) (d : Nat) : ∀ (i : Nat) (n : Int), i ≤ s.length → s.length - i = d → Ev (fun k => burinref02_edge.l0 k (s.map toRg) at_ n i) (edgeG at_ n (s.drop i)) := by
  induction d with
  | zero =>
    intro i n hi hd
    have e : i = s.length := by omega
    subst e
    rw [List.drop_of_length_le (Nat.le_refl _)]
    refine Ev.step (fun k => ?_) (Ev.now _)
    simp only [burinref02_edge.l0]
    rw [if_neg (by simp)]
    rfl
  | succ d ih =>
    intro i n hi hd
    have hlt : i < s.length := by omega
    rw [List.drop_eq_getElem_cons hlt, edgeG]
    have h1 : ∀ k, burinref02_edge.l0 (k + 1) (s.map toRg) at_ n i = burinref02_edge.j1 k (s.map toRg) at_ n i (decide (s[i].1 > at_ ∧ s[i].1 < n)) := by
      intro k
      simp only [burinref02_edge.l0]
      rw [if_pos (by simp; omega), if_pos (by omega), rd_rg s i hlt, show (toRg s[i]).f0 = s[i].1 from rfl]
      by_cases c : s[i].1 > at_
      · rw [if_pos c]
        congr 1
        rw [decide_eq_decide]
        omega
      · rw [if_neg c, decide_eq_false (by omega)]
    refine Ev.step h1 (Ev.step (fun k => ?_) (ih (i + 1) (edgeS at_ n s[i]) (by omega) (by omega)))
    have hw : at_ ≤ s[i].2 → s[i].2 < 1114111 → wrap64 (s[i].2 + 1) = s[i].2 + 1 := fun a b => wrap_rg (by omega) (by omega)
    simp only [burinref02_edge.j1]
    rw [rd_rg s i hlt, show (toRg s[i]).f0 = s[i].1 from rfl, show (toRg s[i]).f1 = s[i].2 from rfl, wrap_rg (x := (i : Int) + 1) (by omega) (by omega), show (i : Int) + 1 = ((i + 1 : Nat) : Int) by omega]
    have hi0 : (0 : Int) ≤ (i : Int) := by omega
    have hi1 : (i : Int) < ((s.map toRg).length : Int) := by simp; omega
    simp only [if_pos hi0, if_pos hi1, edgeS]
    by_cases c : s[i].1 > at_ ∧ s[i].1 < n
    · rw [decide_eq_true c]
      simp only [if_pos c, if_true]
      by_cases a : s[i].2 ≥ at_
      · rw [if_pos a]
        by_cases b : s[i].2 < 1114111
        · rw [if_pos b, hw a b]
          by_cases e : s[i].2 + 1 < s[i].1
          · rw [if_pos e, if_pos ⟨a, b, e⟩]
          · rw [if_neg e, if_neg (fun h => e h.2.2)]
        · rw [if_neg b, if_neg (fun h => b h.2.1)]
      · rw [if_neg a, if_neg (fun h => a h.1)]
    · rw [decide_eq_false c]
      simp only [if_neg c]
      rw [if_neg (by simp)]
      by_cases a : s[i].2 ≥ at_
      · rw [if_pos a]
        by_cases b : s[i].2 < 1114111
        · rw [if_pos b, hw a b]
          by_cases e : s[i].2 + 1 < n
          · rw [if_pos e, if_pos ⟨a, b, e⟩]
          · rw [if_neg e, if_neg (fun h => e h.2.2)]
        · rw [if_neg b, if_neg (fun h => b h.2.1)]
      · rw [if_neg a, if_neg (fun h => a h.1)]
theorem edge_ev (s : List (Int × Int)) (at_ : Int) (h0 : 0 ≤ at_) (hn : s.length ≤ 900000) : Ev (fun k => burinref02_edge.f k (s.map toRg) at_) (edgeL s at_) := by
  have := edge_l0 s at_ h0 hn _ 0 1114112 (Nat.zero_le _) rfl
  unfold burinref02_edge.f edgeL
  simpa using this
/-- The three ways of making. -/
def madeBy (op : Int) (x y : Bool) : Bool := (decide (op = 1) && (x || y)) || ((decide (op = 2) && (x && y)) || (decide (op = 3) && (x && !y)))
theorem make_j2 (op : Int) (a b : List (Int × Int)) (G : Int → Bool) (p : List (Int × Int)) (at_ next : Int) (hU : Upto G at_ p) (h0 : 0 ≤ at_) (h1 : at_ < next) (h2 : next ≤ 1114112) (hG : ∀ r, at_ ≤ r → r < next → G r = G at_) :
    ∃ q, Upto G next q ∧ ∀ k, burinref02_Make.j2 (k + 1) op (a.map toRg) (b.map toRg) (p.map toRg) at_ next (G at_) = burinref02_Make.l0 k op (a.map toRg) (b.map toRg) (q.map toRg) next := by
  by_cases g : G at_ = true
  · rw [g] at hG
    have hlen := nrm_len hU.nrm
    have happ : (p.map toRg).length < 8796093022208 := by simp; omega
    rcases List.eq_nil_or_concat p with rfl | ⟨p', c, rfl⟩
    · refine ⟨[(at_, next - 1)], hU.more h0 h1 h2 hG (fun x hx => by cases hx), fun k => ?_⟩
      simp only [burinref02_Make.j2]
      rw [g, if_pos rfl, if_neg (by simp), if_pos happ, wrap_rg (x := next - 1) (by omega) (by omega)]
      rfl
    · rw [List.concat_eq_append] at *
      have hl : (((p' ++ [c]).map toRg).length : Int) = p'.length + 1 := by simp
      have hp' : p'.length + 1 ≤ 1114112 := by simpa using hlen
      have hlast : rd_T42 ((p' ++ [c]).map toRg) (p'.length : Int) = toRg c := by
        rw [rd_rg (p' ++ [c]) p'.length (by simp)]; simp
      have hc := hU.nrm.inr c (by simp)
      by_cases e : c.2 + 1 = at_
      · refine ⟨p' ++ [(c.1, next - 1)], hU.join h0 h1 h2 hG e, fun k => ?_⟩
        simp only [burinref02_Make.j2]
        rw [g, if_pos rfl, hl, if_pos (by omega), wrap_rg (x := (p'.length : Int) + 1 - 1) (by omega) (by omega), show (p'.length : Int) + 1 - 1 = p'.length by omega, if_pos (by omega), if_pos (by omega), hlast]
        rw [show (toRg c).f1 = c.2 from rfl, show (toRg c).f0 = c.1 from rfl, wrap_rg (x := c.2 + 1) (by omega) (by omega), if_pos e, wrap_rg (x := next - 1) (by omega) (by omega)]
        congr 1
        rw [Int.toNat_natCast, List.map_append, List.map_append, List.set_append_right _ _ (by simp)]
        simp [toRg]
      · refine ⟨(p' ++ [c]) ++ [(at_, next - 1)], hU.more h0 h1 h2 hG (fun x hx => ?_), fun k => ?_⟩
        · rcases List.mem_append.1 hx with hx | hx
          · have := (List.pairwise_append.1 hU.nrm.apart).2.2 x hx c (by simp)
            have := hU.lt c (by simp)
            omega
          · simp only [List.mem_singleton] at hx; subst hx; exact e
        · simp only [burinref02_Make.j2]
          rw [g, if_pos rfl, hl, if_pos (by omega), wrap_rg (x := (p'.length : Int) + 1 - 1) (by omega) (by omega), show (p'.length : Int) + 1 - 1 = p'.length by omega, if_pos (by omega), if_pos (by omega), hlast]
          rw [show (toRg c).f1 = c.2 from rfl, wrap_rg (x := c.2 + 1) (by omega) (by omega), if_neg e, if_pos happ, wrap_rg (x := next - 1) (by omega) (by omega)]
          congr 1
          simp [toRg]
  · rw [Bool.not_eq_true] at g
    rw [g] at hG
    refine ⟨p, hU.skip h1 hG, fun k => ?_⟩
    simp only [burinref02_Make.j2]
    rw [g, if_neg (by simp)]
theorem make_j1 (op : Int) (hop : op = 1 ∨ op = 2 ∨ op = 3) (a b : List S42) (p : List S42) (at_ next : Int) (x y : Bool) {m : List S42} (hx : Ev (fun k => burinref02_Has.f k a at_) x) (hy : Ev (fun k => burinref02_Has.f k b at_) y)
    (h : Ev (fun k => burinref02_Make.j2 k op a b p at_ next (madeBy op x y)) m) : Ev (fun k => burinref02_Make.j1 k op a b p at_ next) m := by
  refine Ev.step (fun k => by simp only [burinref02_Make.j1]; exact rfl) (Ev.bind hx (Ev.bind hy ?_))
  refine Ev.congr (fun k => ?_) h
  rcases hop with rfl | rfl | rfl <;> cases x <;> cases y <;> rfl
theorem make_l0 (op : Int) (hop : op = 1 ∨ op = 2 ∨ op = 3) (a b : List (Int × Int)) (ha : a.length ≤ 900000) (hb : b.length ≤ 900000) (d : Nat) : ∀ (at_ : Int) (p : List (Int × Int)), 0 ≤ at_ → at_ ≤ 1114112 → (1114112 - at_).toNat ≤ d → Upto (fun r => madeBy op (hasL a r) (hasL b r)) at_ p →
    ∃ q, Upto (fun r => madeBy op (hasL a r) (hasL b r)) 1114112 q ∧ Ev (fun k => burinref02_Make.l0 k op (a.map toRg) (b.map toRg) (p.map toRg) at_) (q.map toRg) := by
  induction d with
  | zero =>
    intro at_ p h0 h1 hd hU
    have e : at_ = 1114112 := by omega
    subst e
    refine ⟨p, hU, Ev.step (fun k => ?_) (Ev.now _)⟩
    simp only [burinref02_Make.l0]
    rw [if_neg (by omega)]
  | succ d ih =>
    intro at_ p h0 h1 hd hU
    by_cases c : at_ ≤ 1114111
    · have ea := edge_in a c
      have eb := edge_in b c
      obtain ⟨next, hnext⟩ : ∃ n, n = if edgeL b at_ < edgeL a at_ then edgeL b at_ else edgeL a at_ := ⟨_, rfl⟩
      have hn1 : at_ < next ∧ next ≤ 1114112 ∧ next ≤ edgeL a at_ ∧ next ≤ edgeL b at_ := by
        rw [hnext]; split <;> omega
      obtain ⟨q, hq, hj⟩ := make_j2 op a b (fun r => madeBy op (hasL a r) (hasL b r)) p at_ next hU h0 hn1.1 hn1.2.1 (fun r r0 r1 => by
        show madeBy op (hasL a r) (hasL b r) = madeBy op (hasL a at_) (hasL b at_)
        rw [edge_has h0 r0 (show r < edgeL a at_ by omega), edge_has h0 r0 (show r < edgeL b at_ by omega)])
      obtain ⟨m, hm, hE⟩ := ih next q (by omega) hn1.2.1 (by omega) hq
      refine ⟨m, hm, Ev.step (fun k => by simp only [burinref02_Make.l0]; rw [if_pos c]) (Ev.bind (edge_ev a at_ h0 ha) (Ev.bind (edge_ev b at_ h0 hb) ?_))⟩
      have key : Ev (fun k => burinref02_Make.j1 k op (a.map toRg) (b.map toRg) (p.map toRg) at_ next) (m.map toRg) :=
        make_j1 op hop _ _ _ _ _ _ _ (rhas_ev a at_ ha) (rhas_ev b at_ hb) (Ev.step hj hE)
      refine Ev.congr (fun k => ?_) key
      rw [hnext]
      split <;> rfl
    · have e : at_ = 1114112 := by omega
      subst e
      refine ⟨p, hU, Ev.step (fun k => ?_) (Ev.now _)⟩
      simp only [burinref02_Make.l0]
      rw [if_neg (by omega)]
theorem make_ev (op : Int) (hop : op = 1 ∨ op = 2 ∨ op = 3) (a b : List (Int × Int)) (ha : a.length ≤ 900000) (hb : b.length ≤ 900000) (m : List (Int × Int)) (hm : Nrm m) (hin : ∀ r, inL m r = madeBy op (hasL a r) (hasL b r)) :
    Ev (fun k => burinref02_Make.f k op (a.map toRg) (b.map toRg)) (m.map toRg) := by
  obtain ⟨q, hq, hE⟩ := make_l0 op hop a b ha hb 1114112 0 [] (by omega) (by omega) (by omega) (Upto.start _)
  have e : q = m := nrm_ext hq.nrm hm (fun r => by
    rw [hq.last r, hin r]
    unfold hasL madeBy
    cases decide (0 ≤ r) <;> cases decide (r ≤ 1114111) <;> simp)
  rw [← e]
  exact hE
theorem rnorm_ev (a : List (Int × Int)) (ha : a.length ≤ 900000) : Ev (fun k => burinref02_Norm.f k (a.map toRg)) ((normL a).map toRg) := by
  unfold burinref02_Norm.f
  refine Ev.bind (make_ev 1 (.inl rfl) a [] ha (by simp) (normL a) (normL_nrm a) (fun r => ?_)) (Ev.now _)
  rw [normL_in]
  have : hasL [] r = false := by unfold hasL; rw [inL_nil]; simp
  rw [this]
  unfold madeBy
  simp
/-- Of a text's first byte. -/
theorem ex01 (c : UInt8) (t : List UInt8) : ((ByteArray.mk ⟨c :: t⟩).extract 0 1).toList = [c] := by
  rw [ByteArray.toList_eq, ByteArray.data_extract]
  simp
theorem ex1n (c : UInt8) (t : List UInt8) : (ByteArray.mk ⟨c :: t⟩).extract 1 (t.length + 1) = ⟨⟨t⟩⟩ := by
  apply ByteArray.ext
  rw [ByteArray.data_extract]
  simp
theorem sz_cons (c : UInt8) (t : List UInt8) : (ByteArray.mk ⟨c :: t⟩).size = t.length + 1 := by
  simp [ByteArray.size]
theorem caret_app (s : ByteArray) : (⟨#[94]⟩ : ByteArray) ++ s = ⟨⟨94 :: s.data.toList⟩⟩ := by
  apply ByteArray.ext
  rw [ByteArray.data_append]
  apply Array.ext'
  simp
theorem prefix_cons (c : UInt8) (t : List UInt8) : stringslite_HasPrefix.f ⟨⟨c :: t⟩⟩ (⟨#[94]⟩ : ByteArray) = some (c == 94) := by
  unfold stringslite_HasPrefix.f
  have h1 : (⟨#[94]⟩ : ByteArray).size = 1 := rfl
  have h2 : (⟨#[94]⟩ : ByteArray).toList = [94] := by rw [ByteArray.toList_eq]
  rw [sz_cons, h1, if_pos (by omega), if_pos (by omega), if_pos (by omega), h2, show (((1 : Nat) : Int)).toNat = 1 from rfl, ex01]
  simp
theorem cut_cons (c : UInt8) (t : List UInt8) : strings_CutPrefix.f ⟨⟨c :: t⟩⟩ (⟨#[94]⟩ : ByteArray) = some (if c = 94 then ((⟨⟨t⟩⟩ : ByteArray), true) else (⟨⟨c :: t⟩⟩, false)) := by
  unfold strings_CutPrefix.f stringslite_CutPrefix.f
  rw [prefix_cons, Option.bind_some]
  have h1 : (⟨#[94]⟩ : ByteArray).size = 1 := rfl
  by_cases h : c = 94
  · rw [if_pos (by simpa using h), h1, if_pos (by omega), sz_cons, if_pos (by omega), show (((1 : Nat) : Int)).toNat = 1 from rfl, ex1n, if_pos h]
    rfl
  · rw [if_neg (by simpa using h), if_neg h]
    rfl
theorem cut_nil : strings_CutPrefix.f ⟨⟨[]⟩⟩ (⟨#[94]⟩ : ByteArray) = some ((⟨⟨[]⟩⟩ : ByteArray), false) := by
  unfold strings_CutPrefix.f stringslite_CutPrefix.f stringslite_HasPrefix.f
  rw [if_neg (by decide)]
  rfl
/-- Whether a text begins with the sign for what a set lacks. -/
def caret (s : ByteArray) : Bool := s.data.toList.head? == some 94
theorem cut_plain {s : ByteArray} (h : caret s = false) : strings_CutPrefix.f s (⟨#[94]⟩ : ByteArray) = some (s, false) := by
  obtain ⟨⟨l⟩⟩ := s
  cases l with
  | nil => exact cut_nil
  | cons c t =>
    rw [cut_cons, if_neg]
    intro e
    subst e
    simp [caret] at h
theorem cut_caret (s : ByteArray) : strings_CutPrefix.f ((⟨#[94]⟩ : ByteArray) ++ s) (⟨#[94]⟩ : ByteArray) = some (s, true) := by
  rw [caret_app, cut_cons, if_pos rfl]
theorem splitB_small (sep : ByteArray) (k : Nat) : ∀ s : ByteArray, ∀ x ∈ Lib.splitB sep 0 k s, x.size ≤ s.size := by
  induction k with
  | zero =>
    intro s x hx
    obtain rfl : x = s := by simpa [Lib.splitB] using hx
    exact Nat.le_refl _
  | succ k ih =>
    intro s x hx
    unfold Lib.splitB at hx
    split at hx
    · obtain rfl : x = s := by simpa using hx
      exact Nat.le_refl _
    · rcases List.mem_cons.1 hx with rfl | hx
      · rw [ByteArray.size_extract]; omega
      · have := ih _ x hx
        rw [ByteArray.size_extract] at this
        omega
theorem split_small {s : ByteArray} (h : s.size ≤ 990) : SmallPieces s ∧ splitN s ≤ 1000 := by
  have hle := Lib.countB_le ⟨#[32]⟩ (by decide) s.size s (Nat.le_refl _)
  refine ⟨⟨by omega, fun x hx => ?_⟩, by unfold splitN; omega⟩
  have := splitB_small ⟨#[32]⟩ _ s x hx
  omega
/-- A table of names: short ones, of which none begins with that sign. -/
def tabOk (l : List S56) : Bool := decide (0 < l.length) && l.all fun x => decide (x.f1.size ≤ 990) && !caret x.f0
theorem tab_good {l : List S56} (h : tabOk l = true) : goodNm (l.map ofNm) = true ∧ ∀ x ∈ l.map ofNm, caret x.1 = false := by
  unfold tabOk at h
  simp only [Bool.and_eq_true, decide_eq_true_eq, List.all_eq_true, Bool.not_eq_true'] at h
  refine ⟨?_, fun x hx => ?_⟩
  · unfold goodNm
    simp only [Bool.and_eq_true, decide_eq_true_eq, List.all_eq_true, List.length_map]
    refine ⟨h.1, fun x hx => ?_⟩
    obtain ⟨y, hy, rfl⟩ := List.mem_map.1 hx
    obtain ⟨h1, h2⟩ := split_small (s := (ofNm y).2) (h.2 y hy).1
    exact ⟨⟨h1.1, h1.2⟩, h2⟩
  · obtain ⟨y, hy, rfl⟩ := List.mem_map.1 hx
    exact (h.2 y hy).2
theorem find_ok {l : List S56} (h : tabOk l = true) (s : ByteArray) : class_find.f l s = some ((findV normL (l.map ofNm) s).1.map toRg, (findV normL (l.map ofNm) s).2) := by
  unfold class_find.f
  rw [if_pos (tab_good h).1]
theorem find_fact {l : List S56} (h : tabOk l = true) (s : ByteArray) : Nrm (findV normL (l.map ofNm) s).1 ∧ (findV normL (l.map ofNm) s).1.length ≤ 900000 ∧ ((findV normL (l.map ofNm) s).2 = 0 ∨ findV normL (l.map ofNm) s = ([], 70)) := by
  obtain ⟨_, hg⟩ := good_nm (tab_good h).1
  unfold findV
  cases hf : (l.map ofNm).find? (isNm s) with
  | none => exact ⟨Nrm.nil, by simp, Or.inr rfl⟩
  | some x => exact ⟨normL_nrm _, Nat.le_trans (normL_len _) (hg x (List.mem_of_find?_eq_some hf)).2.2, Or.inl rfl⟩
theorem find_caret {l : List S56} (h : tabOk l = true) {s : ByteArray} (hs : caret s = true) : findV normL (l.map ofNm) s = ([], 70) := by
  unfold findV
  rw [List.find?_eq_none.2]
  intro x hx e
  have := (tab_good h).2 x hx
  unfold isNm at e
  rw [beq_iff_eq, ByteArray.toList_eq, ByteArray.toList_eq] at e
  unfold caret at this hs
  rw [e, hs] at this
  cases this
/-- What a name stands for with the sign ahead. -/
def lackV (l : List S56) (s : ByteArray) : List (Int × Int) × Int := if (findV normL (l.map ofNm) s).2 = 0 then (notL (findV normL (l.map ofNm) s).1, 0) else ([], 70)
theorem turned_plain {l : List S56} (h : tabOk l = true) {s : ByteArray} (hs : caret s = false) : Ev (fun k => class_turned.f k l s) ((findV normL (l.map ofNm) s).1.map toRg, (findV normL (l.map ofNm) s).2) := by
  refine ev_from 0 fun k _ => ?_
  unfold class_turned.f
  rw [cut_plain hs, Option.bind_some, find_ok h, Option.bind_some]
  dsimp only
  split <;> rfl
theorem turned_caret {l : List S56} (h : tabOk l = true) (s : ByteArray) : Ev (fun k => class_turned.f k l ((⟨#[94]⟩ : ByteArray) ++ s)) ((lackV l s).1.map toRg, (lackV l s).2) := by
  obtain ⟨hN, hl, h2⟩ := find_fact h s
  obtain ⟨K, hK⟩ := not_ev ((findV normL (l.map ofNm) s).1.map toRg) (by rw [List.length_map]; exact hl)
  refine ev_from K fun k hk => ?_
  unfold class_turned.f
  rw [cut_caret, Option.bind_some, find_ok h, Option.bind_some]
  dsimp only
  unfold lackV
  rcases h2 with h2 | h2
  · have hK' : ranges_Not.f k _ = _ := hK k hk
    rw [if_pos h2, if_pos h2, if_pos rfl, hK', Option.bind_some, map_forth, h2]
  · rw [h2]
    rfl
/-- Up to a byte, and what stands behind it. -/
def cutL (c : UInt8) : List UInt8 → List UInt8 × Option (List UInt8)
  | [] => ([], none)
  | b :: t => if b = c then ([], some t) else ((b :: (cutL c t).1), (cutL c t).2)
theorem cutL_spec (c : UInt8) : ∀ s : List UInt8, (Lib.indexByte s c = -1 ∧ cutL c s = (s, none)) ∨ ∃ i : Nat, Lib.indexByte s c = i ∧ cutL c s = (s.take i, some (s.drop (i + 1)))
  | [] => .inl ⟨rfl, rfl⟩
  | b :: t => by
    unfold Lib.indexByte cutL
    by_cases h : b = c
    · refine .inr ⟨0, ?_, ?_⟩
      · rw [if_pos (by simpa using h)]; rfl
      · rw [if_pos h]; rfl
    · rw [if_neg (by simpa using h), if_neg h]
      rcases cutL_spec c t with ⟨h1, h2⟩ | ⟨i, h1, h2⟩
      · refine .inl ⟨by rw [h1]; rfl, by rw [h2]⟩
      · refine .inr ⟨i + 1, ?_, by rw [h2]; rfl⟩
        rw [h1, if_neg (by rw [beq_iff_eq]; omega)]
        omega
/-- The pieces between blanks. -/
def splF : Nat → List UInt8 → List (List UInt8)
  | 0, s => [s]
  | k + 1, s => match (cutL 32 s).2 with
    | none => [(cutL 32 s).1]
    | some t => (cutL 32 s).1 :: splF k t
def cntF : Nat → List UInt8 → Nat
  | 0, _ => 0
  | k + 1, s => match (cutL 32 s).2 with
    | none => 0
    | some t => 1 + cntF k t
theorem splF_eq : ∀ (k : Nat) (s : List UInt8), Lib.splitK [32] 0 k s = splF k s
  | 0, s => rfl
  | k + 1, s => by
    unfold Lib.splitK splF
    rw [Lib.index_one]
    rcases cutL_spec 32 s with ⟨h1, h2⟩ | ⟨i, h1, h2⟩
    · rw [h1, h2]; rfl
    · rw [h1, h2, if_neg (by rw [beq_iff_eq]; omega)]
      have e : ((i : Int)).toNat = i := rfl
      show s.take (i + 0) :: Lib.splitK [32] 0 k (s.drop (i + 1)) = s.take i :: splF k (s.drop (i + 1))
      rw [splF_eq k, Nat.add_zero]
theorem cntF_eq : ∀ (k : Nat) (s : List UInt8), Lib.countFrom [32] k s = cntF k s
  | 0, s => rfl
  | k + 1, s => by
    unfold Lib.countFrom cntF
    rw [Lib.index_one]
    rcases cutL_spec 32 s with ⟨h1, h2⟩ | ⟨i, h1, h2⟩
    · rw [h1, h2]; rfl
    · rw [h1, h2, if_neg (by rw [beq_iff_eq]; omega)]
      show 1 + Lib.countFrom [32] k (s.drop (i + 1)) = 1 + cntF k (s.drop (i + 1))
      rw [cntF_eq k]
def numL (l : List UInt8) : Int := l.foldl numStep 0
def pieceL (l : List UInt8) : Int × Int := match (cutL 45 l).2 with
  | none => (numL (cutL 45 l).1, numL (cutL 45 l).1)
  | some b => (numL (cutL 45 l).1, numL b)
theorem pieceV_eq (s : ByteArray) : pieceV s = pieceL s.data.toList := by
  unfold pieceV cutV pieceL numV
  rcases cutL_spec 45 s.data.toList with ⟨h1, h2⟩ | ⟨i, h1, h2⟩
  · rw [h1, h2, if_neg (by decide)]
    rfl
  · rw [h1, h2, if_pos (by omega)]
    have e : ((i : Int)).toNat = i := rfl
    dsimp only
    rw [if_pos rfl, e, Lib.extract_from_zero]
    unfold numL
    congr 2
    rw [ByteArray.data_extract]
    simp only [Array.toList_extract, List.extract_eq_take_drop]
    rw [List.take_of_length_le]
    rw [List.length_drop]
    exact Nat.le_of_eq rfl
def piecesL (s : List UInt8) : List (Int × Int) := (splF (cntF (s.length + 1) s) s).map pieceL
theorem piecesV_eq (s : ByteArray) : piecesV s = piecesL s.data.toList := by
  unfold piecesV piecesL splitV
  have h1 : Lib.countB s ⟨#[32]⟩ = cntF (s.data.toList.length + 1) s.data.toList := cntF_eq _ _
  have h2 := Lib.splitB_data ⟨#[32]⟩ 0 (Lib.countB s ⟨#[32]⟩) s
  rw [show (⟨#[32]⟩ : ByteArray).data.toList = [32] from rfl, splF_eq, h1] at h2
  rw [← h2, List.map_map, h1]
  exact List.map_congr_left fun x _ => pieceV_eq x
/-- A table looked up. -/
def look {β : Type} : List (List UInt8 × β) → List UInt8 → Option β
  | [], _ => none
  | x :: t, nm => if nm = x.1 then some x.2 else look t nm
theorem look_map {β γ : Type} (g : β → γ) (nm : List UInt8) : ∀ l : List (List UInt8 × β), look (l.map fun x => (x.1, g x.2)) nm = (look l nm).map g
  | [] => rfl
  | x :: t => by
    rw [List.map_cons]
    unfold look
    by_cases h : nm = x.1
    · rw [if_pos h, if_pos h]; rfl
    · rw [if_neg h, if_neg h]; exact look_map g nm t
theorem look_mem {β : Type} {nm : List UInt8} {v : β} : ∀ {l : List (List UInt8 × β)}, look l nm = some v → ∃ x ∈ l, x.2 = v
  | [], h => by cases h
  | x :: t, h => by
    unfold look at h
    by_cases e : nm = x.1
    · rw [if_pos e] at h; exact ⟨x, List.mem_cons_self, Option.some.inj h⟩
    · rw [if_neg e] at h
      obtain ⟨y, hy, hv⟩ := look_mem h
      exact ⟨y, List.mem_cons_of_mem _ hy, hv⟩
def tabL (l : List S56) : List (List UInt8 × List (Int × Int)) := l.map fun x => (x.f0.data.toList, piecesL x.f1.data.toList)
def ansV : Option (List (Int × Int)) → List (Int × Int) × Int
  | none => ([], 70)
  | some p => (normL p, 0)
theorem find_look (s : ByteArray) : ∀ l : List S56, findV normL (l.map ofNm) s = ansV (look (tabL l) s.toList)
  | [] => rfl
  | x :: t => by
    have ih := find_look s t
    unfold findV at ih ⊢
    rw [List.map_cons, List.find?_cons]
    show _ = ansV (look ((x.f0.data.toList, piecesL x.f1.data.toList) :: tabL t) s.toList)
    unfold look isNm
    by_cases h : s.toList = x.f0.data.toList
    · rw [if_pos h]
      have : ((ofNm x).1.toList == s.toList) = true := by rw [h, beq_iff_eq, ByteArray.toList_eq]; rfl
      rw [this]
      show (normL (piecesV x.f1), (0 : Int)) = _
      rw [piecesV_eq]
      rfl
    · rw [if_neg h]
      have : ((ofNm x).1.toList == s.toList) = false := by
        rw [beq_eq_false_iff_ne]
        intro e
        exact h (e.symm.trans (ByteArray.toList_eq _))
      rw [this]
      exact ih
/-- The document's tables. -/
def colonT : List (List UInt8 × List Int) := [([97, 108, 110, 117, 109], [48, 57, 65, 90, 97, 122]), ([97, 108, 112, 104, 97], [65, 90, 97, 122]), ([97, 115, 99, 105, 105], [0, 127]), ([98, 108, 97, 110, 107], [9, 9, 32, 32]), ([99, 110, 116, 114, 108], [0, 31, 127, 127]), ([100, 105, 103, 105, 116], [48, 57]), ([103, 114, 97, 112, 104], [33, 126]), ([108, 111, 119, 101, 114], [97, 122]), ([112, 114, 105, 110, 116], [32, 126]), ([112, 117, 110, 99, 116], [33, 47, 58, 64, 91, 96, 123, 126]), ([115, 112, 97, 99, 101], [9, 13, 32, 32]), ([117, 112, 112, 101, 114], [65, 90]), ([119, 111, 114, 100], [48, 57, 65, 90, 95, 95, 97, 122]), ([120, 100, 105, 103, 105, 116], [48, 57, 65, 70, 97, 102])]
def propertyT : List (List UInt8 × List Int) := [([65, 110, 121], [0, 1114111]), ([67, 121, 114, 105, 108, 108, 105, 99], [1024, 1156, 1159, 1327]), ([71, 114, 101, 101, 107], [880, 883, 885, 887, 890, 893, 895, 895, 900, 900, 902, 902, 904, 906, 908, 908, 910, 929, 931, 993, 1008, 1023, 8486, 8486]), ([76], [65, 90, 192, 214, 216, 222, 376, 376, 913, 929, 931, 939, 1024, 1071, 97, 122, 181, 181, 223, 246, 248, 255, 940, 974, 1072, 1119, 383, 383, 65, 90, 97, 122, 170, 170, 186, 186, 192, 214, 216, 246, 248, 591, 880, 883, 885, 887, 890, 893, 895, 895, 900, 900, 902, 902, 904, 906, 908, 908, 910, 929, 931, 993, 1008, 1023, 8486, 8486, 1024, 1156, 1159, 1327]), ([76, 97, 116, 105, 110], [65, 90, 97, 122, 170, 170, 186, 186, 192, 214, 216, 246, 248, 591]), ([76, 108], [97, 122, 181, 181, 223, 246, 248, 255, 940, 974, 1072, 1119, 383, 383]), ([76, 117], [65, 90, 192, 214, 216, 222, 376, 376, 913, 929, 931, 939, 1024, 1071]), ([78, 100], [48, 57, 1632, 1641, 1776, 1785, 2406, 2415])]
set_option maxRecDepth 100000 in
theorem works_ev : Ev burinlaw04_works.f true := Ev.of burinlaw04_works.mono (k := 40) (by decide +kernel)
theorem all_in (r : Int) : hasL [((0 : Int), (1114111 : Int))] r = (decide (0 ≤ r) && decide (r ≤ 1114111)) := by
  unfold hasL
  rw [inL_cons, inL_nil]
  cases decide (0 ≤ r) <;> cases decide (r ≤ 1114111) <;> rfl
theorem rnot_ev (a : List (Int × Int)) (ha : a.length ≤ 900000) : Ev (fun k => burinref02_Not.f k (a.map toRg)) ((notL a).map toRg) := by
  unfold burinref02_Not.f
  refine Ev.bind (Ev.now _) (Ev.bind (make_ev 3 (.inr (.inr rfl)) [(0, 1114111)] a (by simp) ha (notL a) (notL_nrm a) (fun r => ?_)) (Ev.now _))
  rw [notL_in, all_in]
  unfold madeBy hasL
  cases decide (0 ≤ r) <;> cases decide (r ≤ 1114111) <;> cases inL a r <;> rfl
/-- Numbers, two and two. -/
def pairs : List Int → List (Int × Int)
  | a :: b :: t => (a, b) :: pairs t
  | _ => []
theorem pairs_len : ∀ n : List Int, (pairs n).length ≤ n.length
  | [] => by simp [pairs]
  | [a] => by simp [pairs]
  | a :: b :: t => by have := pairs_len t; simp [pairs]; omega
theorem wrap_in {x : Int} (h0 : -9223372036854775808 ≤ x) (h1 : x ≤ 9223372036854775807) : wrap64 x = x := wrap_rg h0 h1
theorem list_l0 (n : List Int) (hn : n.length ≤ 100000) (d : Nat) : ∀ (i : Nat) (p : List (Int × Int)), n.length - i ≤ d → p.length ≤ i → i ≤ n.length → Ev (fun k => burinref04_list.l0 k n (p.map toRg) i) ((normL (p ++ pairs (n.drop i))).map toRg) := by
  induction d using Nat.strongRecOn with
  | _ d ih =>
  intro i p hd hp hi
  have w1 : wrap64 ((i : Int) + 1) = (i : Int) + 1 := wrap_in (by omega) (by omega)
  have w2 : wrap64 ((i : Int) + 2) = ((i + 2 : Nat) : Int) := by rw [wrap_in (by omega) (by omega)]; omega
  by_cases hlt : i + 1 < n.length
  · have e : n.drop i = n[i] :: n[i + 1] :: n.drop (i + 2) := by
      rw [List.drop_eq_getElem_cons (by omega), List.drop_eq_getElem_cons hlt]
    have r0 : rd n (i : Int) = n[i] := by
      unfold rd
      rw [show ((i : Int)).toNat = i from rfl, List.getD_eq_getElem?_getD, List.getElem?_eq_getElem (by omega)]
      rfl
    have r1 : rd n ((i : Int) + 1) = n[i + 1] := by
      unfold rd
      rw [show ((i : Int) + 1).toNat = i + 1 from rfl, List.getD_eq_getElem?_getD, List.getElem?_eq_getElem hlt]
      rfl
    have h := ih (d - 1) (by omega) (i + 2) (p ++ [(n[i], n[i + 1])]) (by omega) (by simp; omega) (by omega)
    rw [List.append_assoc, List.singleton_append] at h
    rw [e]
    show Ev _ ((normL (p ++ (n[i], n[i + 1]) :: pairs (n.drop (i + 2)))).map toRg)
    refine Ev.step (fun k => ?_) h
    rw [burinref04_list.l0, w1, if_pos (by omega), if_pos (by omega), if_pos (by omega), if_pos (by omega), if_pos (by rw [List.length_map]; omega), r0, r1, w2]
    simp only [List.map_append, List.map_cons, List.map_nil]
    rfl
  · have e : pairs (n.drop i) = [] := by
      have hl : (n.drop i).length ≤ 1 := by rw [List.length_drop]; omega
      generalize n.drop i = q at hl ⊢
      match q, hl with
      | [], _ => rfl
      | [a], _ => rfl
    rw [e, List.append_nil]
    refine Ev.step (fun k => ?_) (Ev.bind (rnorm_ev p (by omega)) (Ev.now _))
    rw [burinref04_list.l0, w1, if_neg (by omega)]
theorem list_ev (n : List Int) (hn : n.length ≤ 100000) : Ev (fun k => burinref04_list.f k n) ((normL (pairs n)).map toRg) := list_l0 n hn n.length 0 [] (by omega) (by simp) (by omega)
theorem bare_caret (t : ByteArray) : burinref04_bare.f ((⟨#[94]⟩ : ByteArray) ++ t) = some (t, true) := by
  obtain ⟨⟨l⟩⟩ := t
  rw [caret_app]
  unfold burinref04_bare.f
  have hb : bt ⟨⟨94 :: l⟩⟩ 0 = 94 := by
    unfold bt
    rw [dif_pos (by simp [sz_cons])]
    rfl
  rw [sz_cons, if_pos (by omega), if_pos (by omega), hb, if_pos rfl, if_pos (by omega), ex1n]
theorem bare_plain {s : ByteArray} (h : caret s = false) : burinref04_bare.f s = some (s, false) := by
  obtain ⟨⟨l⟩⟩ := s
  unfold burinref04_bare.f
  cases l with
  | nil => rw [if_neg (by decide)]
  | cons c t =>
    have hb : bt ⟨⟨c :: t⟩⟩ 0 = (c.toNat : Int) := by
      unfold bt
      rw [dif_pos (by simp [sz_cons])]
      rfl
    rw [sz_cons, if_pos (by omega), if_pos (by omega), hb, if_neg]
    intro e
    have : c = 94 := by
      apply UInt8.toNat_inj.1
      show c.toNat = 94
      omega
    subst this
    simp [caret] at h
def ansN : Option (List Int) → List Int × Bool
  | none => ([], false)
  | some n => (n, true)
/-- What the document's answer does with a table. -/
def refC (k : Nat) (s : ByteArray) (tn : List (List UInt8 × List Int)) : Option (List S42 × Int) := (burinref04_bare.f s).bind fun bt309 => ((some (ansN (look tn bt309.1.toList))).bind fun bt311 => (if bt311.2 = true then (if bt309.2 = true then ((burinref04_list.f k bt311.1).bind fun t315 => ((burinref02_Not.f k t315).bind fun t318 => (some (t318, 0)))) else ((burinref04_list.f k bt311.1).bind fun t321 => (some (t321, 0)))) else (some (([] : List S42), 70))))
theorem both_ev {l : List S56} {tn : List (List UInt8 × List Int)} (ht : tabOk l = true) (htv : tabL l = tn.map fun x => (x.1, pairs x.2)) (hn : ∀ x ∈ tn, x.2.length ≤ 1000) (s : ByteArray) :
    ∃ (L : List S42) (e : Int), L.length ≤ 2000000 ∧ Ev (fun k => class_turned.f k l s) (L, e) ∧ Ev (fun k => refC k s tn) (L, e) := by
  have key : ∀ t : ByteArray, (look tn t.toList = none ∧ findV normL (l.map ofNm) t = ([], 70)) ∨ ∃ n : List Int, n.length ≤ 1000 ∧ look tn t.toList = some n ∧ findV normL (l.map ofNm) t = (normL (pairs n), 0) := fun t => by
    rw [find_look, htv, look_map]
    cases hlk : look tn t.toList with
    | none => exact .inl ⟨rfl, rfl⟩
    | some n =>
      obtain ⟨x, hx, rfl⟩ := look_mem hlk
      exact .inr ⟨x.2, hn x hx, rfl, rfl⟩
  cases hca : caret s with
  | true =>
    obtain ⟨t, rfl⟩ : ∃ t, s = (⟨#[94]⟩ : ByteArray) ++ t := by
      obtain ⟨⟨l⟩⟩ := s
      cases l with
      | nil => cases hca
      | cons c t =>
        refine ⟨⟨⟨t⟩⟩, ?_⟩
        rw [caret_app]
        have : c = 94 := by simpa [caret] using hca
        rw [this]
    have g := turned_caret ht t
    unfold lackV at g
    rcases key t with ⟨h1, h2⟩ | ⟨n, hn, h1, h2⟩
    · rw [h2] at g
      refine ⟨[], 70, by simp, g, ?_⟩
      unfold refC
      rw [bare_caret]
      simp only [Option.bind_some]
      rw [h1]
      exact Ev.now _
    · rw [h2, if_pos rfl] at g
      have hl := normL_len (pairs n)
      have hp := pairs_len n
      refine ⟨(notL (normL (pairs n))).map toRg, 0, by rw [List.length_map]; have := notL_len (normL (pairs n)); omega, g, ?_⟩
      unfold refC
      rw [bare_caret]
      simp only [Option.bind_some]
      rw [h1]
      simp only [ansN, if_true]
      exact Ev.bind (list_ev n (by omega)) (Ev.bind (rnot_ev _ (by omega)) (Ev.now _))
  | false =>
    have g := turned_plain ht hca
    rcases key s with ⟨h1, h2⟩ | ⟨n, hn, h1, h2⟩
    · rw [h2] at g
      refine ⟨[], 70, by simp, g, ?_⟩
      unfold refC
      rw [bare_plain hca]
      simp only [Option.bind_some]
      rw [h1]
      exact Ev.now _
    · rw [h2] at g
      have hl := normL_len (pairs n)
      have hp := pairs_len n
      refine ⟨(normL (pairs n)).map toRg, 0, by rw [List.length_map]; omega, g, ?_⟩
      unfold refC
      rw [bare_plain hca]
      simp only [Option.bind_some]
      rw [h1]
      simp only [ansN, if_true, Bool.false_eq_true, if_false]
      exact Ev.bind (list_ev n (by omega)) (Ev.now _)
theorem tab_step {c : Prop} [Decidable c] {X A : Option (List Int × Bool)} {n : List Int} {B : Option (List Int)} (hx : X = some (n, true)) (h : A = some (ansN B)) : (if c then X else A) = some (ansN (if c then some n else B)) := by
  by_cases hc : c
  · rw [if_pos hc, if_pos hc, hx]; rfl
  · rw [if_neg hc, if_neg hc, h]
theorem colon_tab (s : ByteArray) : burinref04_colon.f s = some (ansN (look colonT s.toList)) := by
  unfold burinref04_colon.f colonT
  simp only [look]
  repeat' first
    | refine tab_step rfl ?_
    | rfl
theorem property_tab (s : ByteArray) : burinref04_property.f s = some (ansN (look propertyT s.toList)) := by
  unfold burinref04_property.f propertyT
  simp only [look]
  repeat' first
    | refine tab_step rfl ?_
    | rfl
theorem colons_at : ∃ l, class_colons.f = some l ∧ tabOk l = true ∧ tabL l = colonT.map fun x => (x.1, pairs x.2) := ⟨_, rfl, by decide +kernel, by decide +kernel⟩
theorem properties_at : ∃ l, class_properties.f = some l ∧ tabOk l = true ∧ tabL l = propertyT.map fun x => (x.1, pairs x.2) := ⟨_, rfl, by decide +kernel, by decide +kernel⟩

/-- The answers for a letter, all of them tried. -/
def letterOk (c : Int) : Bool := ((class_Letter.f 90 c).bind fun a => (burinref04_Letter.f 90 c).bind fun b => (burinbook_SameRanges.f 90 a.1 b.1).bind fun t => some (t && decide (a.2 = b.2))) == some true
set_option maxRecDepth 100000 in
theorem letters_ok : (List.range 256).all (fun n => letterOk (n : Int)) = true := by decide +kernel
theorem letter_ev {c : Int} (h0 : 0 ≤ c) (h1 : c < 256) : ∃ a b, a.2 = b.2 ∧ Ev (fun k => class_Letter.f k c) a ∧ Ev (fun k => burinref04_Letter.f k c) b ∧ Ev (fun k => burinbook_SameRanges.f k a.1 b.1) true := by
  have h := List.all_eq_true.1 letters_ok c.toNat (List.mem_range.2 (by omega))
  rw [show ((c.toNat : Nat) : Int) = c by omega] at h
  unfold letterOk at h
  rw [beq_iff_eq] at h
  obtain ⟨a, ha, h⟩ := Option.bind_eq_some_iff.1 h
  obtain ⟨b, hb, h⟩ := Option.bind_eq_some_iff.1 h
  obtain ⟨t, ht, h⟩ := Option.bind_eq_some_iff.1 h
  have h := Option.some.inj h
  rw [Bool.and_eq_true, decide_eq_true_eq] at h
  obtain ⟨rfl, he⟩ := h
  exact ⟨a, b, he, Ev.of (fun k => class_Letter.mono _ k) ha, Ev.of (fun k => burinref04_Letter.mono _ k) hb, Ev.of (fun k => burinbook_SameRanges.mono _ _ k) ht⟩
set_option maxRecDepth 100000 in
theorem names_ev : ∃ a b, burinref04_Names.f = some b ∧ Ev (fun k => class_Names.f k) a ∧ Ev (fun k => burinbook_SameTexts.f k a b) true := by
  have h : ((class_Names.f 40).bind fun a => (burinref04_Names.f).bind fun b => burinbook_SameTexts.f 40 a b) = some true := by decide +kernel
  obtain ⟨a, ha, h⟩ := Option.bind_eq_some_iff.1 h
  obtain ⟨b, hb, h⟩ := Option.bind_eq_some_iff.1 h
  exact ⟨a, b, hb, Ev.of (fun k => class_Names.mono k) ha, Ev.of (fun k => burinbook_SameTexts.mono _ _ k) h⟩
theorem ClassTells : burinlaw04_ClassTells.Pure := by
  intro c s p hc _ _
  have hc : 0 ≤ c ∧ c < 256 := by
    have h : IntKind.u8.min ≤ c ∧ c ≤ IntKind.u8.max := by simpa [Lit.wf] using hc
    have e1 : IntKind.u8.min = 0 := by decide
    have e2 : IntKind.u8.max = 255 := by decide
    omega
  obtain ⟨a, b, he, ⟨K1, g1⟩, ⟨K2, g2⟩, ⟨K3, g3⟩⟩ := letter_ev hc.1 hc.2
  obtain ⟨lc, hlc, tc, vc⟩ := colons_at
  obtain ⟨lp, hlp, tp, vp⟩ := properties_at
  obtain ⟨L, e, bL, ⟨K4, g4⟩, ⟨K5, g5⟩⟩ := both_ev tc vc (by decide) s
  obtain ⟨M, f, bM, ⟨K6, g6⟩, ⟨K7, g7⟩⟩ := both_ev tp vp (by decide) p
  obtain ⟨K8, g8⟩ := same_ev L bL
  obtain ⟨K9, g9⟩ := same_ev M bM
  obtain ⟨x, y, hy, ⟨K10, g10⟩, ⟨K11, g11⟩⟩ := names_ev
  obtain ⟨K12, g12⟩ := works_ev
  let m := K1 + K2 + K3 + K4 + K5 + K6 + K7 + K8 + K9 + K10 + K11 + K12
  have q1 : class_Letter.f m c = _ := g1 m (by omega)
  have q2 : burinref04_Letter.f m c = _ := g2 m (by omega)
  have q3 : burinbook_SameRanges.f m _ _ = _ := g3 m (by omega)
  have q4 : class_turned.f m _ _ = _ := g4 m (by omega)
  have q5 : refC m _ _ = _ := g5 m (by omega)
  have q6 : class_turned.f m _ _ = _ := g6 m (by omega)
  have q7 : refC m _ _ = _ := g7 m (by omega)
  have q8 : burinbook_SameRanges.f m _ _ = _ := g8 m (by omega)
  have q9 : burinbook_SameRanges.f m _ _ = _ := g9 m (by omega)
  have q10 : class_Names.f m = _ := g10 m (by omega)
  have q11 : burinbook_SameTexts.f m _ _ = _ := g11 m (by omega)
  have q12 : burinlaw04_works.f m = _ := g12 m (by omega)
  have c1 : class_Colon.f m s = some (L, e) := by
    unfold class_Colon.f
    rw [hlc, Option.bind_some, q4]
    rfl
  have c2 : burinref04_Colon.f m s = some (L, e) := by
    rw [← q5]
    unfold burinref04_Colon.f refC
    simp only [colon_tab]
  have c3 : class_Property.f m p = some (M, f) := by
    unfold class_Property.f
    rw [hlp, Option.bind_some, q6]
    rfl
  have c4 : burinref04_Property.f m p = some (M, f) := by
    rw [← q7]
    unfold burinref04_Property.f refC
    simp only [property_tab]
  refine ⟨m, ?_⟩
  unfold burinlaw04_ClassTells.f
  rw [q1, Option.bind_some, q2, Option.bind_some, c1, Option.bind_some, c2, Option.bind_some, c3, Option.bind_some, c4, Option.bind_some, q3, Option.bind_some, if_pos rfl, if_pos he]
  dsimp only
  rw [q8, Option.bind_some, if_pos rfl, if_pos rfl, q9, Option.bind_some, if_pos rfl, if_pos rfl, q10, Option.bind_some, hy, Option.bind_some, q11, Option.bind_some, if_pos rfl, q12, Option.bind_some]
end Go.Proofs.YtnpkfncccddlmaaDoor.Pure
