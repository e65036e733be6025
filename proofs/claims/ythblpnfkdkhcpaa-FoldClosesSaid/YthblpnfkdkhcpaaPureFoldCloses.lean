/- FoldCloses: Close by the reference; the argument is kept; no condition. -/
import Derived.Test.YthblpnfkdkhcpaaHFoldClosesx8
import Derived.Test.YthblpnfkdkhcpaaXFoldClosePure
import Derived.Test.YthblpnfkdkhcpaaXRangesEdge
import Derived.Test.YthblpnfkdkhcpaaXRangesSpoil
namespace Go.Proofs.Ythblpnfkdkhcpaa.Pure
open Go.RowKit Go.Proofs.Ythblpnfkdkhcpaa.HFoldCloses Go.Proofs.YthblpnfkdkhcpaaW.PrintWords Go.Proofs.YthblpnfkdkhcpaaW.PrintLast
open Go.Proofs.YthblpnfkdkhcpaaX
set_option linter.unusedVariables false

theorem fam75 : famF 75 = [75, 107, 8490] := by unfold famF; rw [merge_isort]; rfl
theorem fam107 : famF 107 = [75, 107, 8490] := by unfold famF; rw [merge_isort]; rfl
theorem fam8490 : famF 8490 = [75, 107, 8490] := by unfold famF; rw [merge_isort]; rfl
theorem works_ok : burinlaw03_works.f 5 = some true := by
  simp only [burinlaw03_works.f, fold_Family.f, fold_Next.f, nextF, fam75, fam107, fam8490]
  decide +kernel
theorem works_at (k : Nat) (hk : 5 ≤ k) : burinlaw03_works.f k = some true := by
  have mono : ∀ d, burinlaw03_works.f (5 + d) = some true := fun d => by
    induction d with
    | zero => exact works_ok
    | succ d ih => exact burinlaw03_works.mono _ _ ih
  have := mono (k - 5)
  rwa [show 5 + (k - 5) = k by omega] at this
theorem works_ev : Ev burinlaw03_works.f true := ⟨5, works_at⟩
theorem wrap_in {x : Int} (h0 : -9223372036854775808 ≤ x) (h1 : x ≤ 9223372036854775807) : wrap64 x = x := wrap_rg h0 h1
theorem joined_at (l : List Int) (x : Int) (hn : l.length ≤ 4611686018427387904) (d : Nat) : ∀ (k i : Nat), i ≤ l.length → l.length - i = d → d < k → burinref03_joined.l0 k l x i = some (decide (x ∈ l.drop i)) := by
  induction d with
  | zero =>
    intro k i hi hd hk
    obtain ⟨k, rfl⟩ : ∃ m, k = m + 1 := ⟨k - 1, by omega⟩
    have e : i = l.length := by omega
    subst e
    simp only [burinref03_joined.l0]
    rw [if_neg (by omega)]
    simp
  | succ d ih =>
    intro k i hi hd hk
    obtain ⟨k, rfl⟩ : ∃ m, k = m + 1 := ⟨k - 1, by omega⟩
    have h1 : i < l.length := by omega
    have ea : rd l (i : Int) = l[i] := by simp [rd, h1]
    have ed : (x ∈ l.drop i) ↔ (x = l[i] ∨ x ∈ l.drop (i + 1)) := by
      conv => lhs; rw [List.drop_eq_getElem_cons h1, List.mem_cons]
    simp only [burinref03_joined.l0]
    rw [if_pos (by omega), if_pos (by omega), ea]
    by_cases h : l[i] = x
    · rw [if_pos h, decide_eq_true (ed.2 (.inl h.symm))]
    · rw [if_neg h, wrap_in (x := (i : Int) + 1) (by omega) (by omega), show (i : Int) + 1 = ((i + 1 : Nat) : Int) by omega, ih k (i + 1) (by omega) (by omega) (by omega)]
      by_cases h' : x ∈ l.drop (i + 1)
      · rw [decide_eq_true h', decide_eq_true (ed.2 (.inr h'))]
      · rw [decide_eq_false h', decide_eq_false (fun z => (ed.1 z).elim (fun y => h y.symm) h')]
theorem joined_f (l : List Int) (x : Int) (hn : l.length ≤ 4611686018427387904) (k : Nat) (hk : l.length < k) : burinref03_joined.f k l x = some (decide (x ∈ l)) := by
  have := joined_at l x hn l.length k 0 (Nat.zero_le _) (by omega) (by omega)
  unfold burinref03_joined.f
  simpa using this
/-- A number put into a rising list, at its place. -/
def put (x : Int) : List Int → List Int
  | [] => [x]
  | y :: t => if y < x then y :: put x t else x :: y :: t
theorem put_cons (x y : Int) (t : List Int) : put x (y :: t) = if y < x then y :: put x t else x :: y :: t := rfl
def withL (l : List Int) (x : Int) : List Int := if x ∈ l then l else put x l
theorem put_len (x : Int) : ∀ l, (put x l).length = l.length + 1
  | [] => rfl
  | y :: t => by
    unfold put
    split
    · simp [put_len x t]
    · simp
theorem with_at (l : List Int) (x : Int) (hn : l.length ≤ 1000000) (d : Nat) : ∀ (k i : Nat), i ≤ l.length → l.length - i = d → d < k → burinref03_with.l0 k l x (l.take i) i = some (l.take i ++ put x (l.drop i)) := by
  induction d with
  | zero =>
    intro k i hi hd hk
    obtain ⟨k, rfl⟩ : ∃ m, k = m + 1 := ⟨k - 1, by omega⟩
    have e : i = l.length := by omega
    subst e
    simp only [burinref03_with.l0]
    rw [if_neg (by omega), if_pos (by rw [List.length_take]; omega)]
    simp only [Option.bind_some]
    rw [if_pos (by omega), if_pos (by omega), Int.toNat_natCast, if_pos (by simp; omega)]
    simp [put]
  | succ d ih =>
    intro k i hi hd hk
    obtain ⟨k, rfl⟩ : ∃ m, k = m + 1 := ⟨k - 1, by omega⟩
    have h1 : i < l.length := by omega
    have ea : rd l (i : Int) = l[i] := by simp [rd, h1]
    have ed : put x (l.drop i) = if l[i] < x then l[i] :: put x (l.drop (i + 1)) else x :: l.drop i := by
      conv => lhs; rw [List.drop_eq_getElem_cons h1, put_cons]
      rw [← List.drop_eq_getElem_cons h1]
    simp only [burinref03_with.l0]
    rw [if_pos (by omega), if_pos (by omega), ea, ed]
    by_cases h : l[i] < x
    · rw [if_pos h, if_pos h, if_pos (by rw [List.length_take]; omega), wrap_in (x := (i : Int) + 1) (by omega) (by omega), show (i : Int) + 1 = ((i + 1 : Nat) : Int) by omega]
      have et : l.take i ++ [l[i]] = l.take (i + 1) := by simp
      rw [et, ih k (i + 1) (by omega) (by omega) (by omega), ← et, List.append_assoc]
      rfl
    · rw [if_neg h, if_neg h, if_pos (by rw [List.length_take]; omega)]
      simp only [Option.bind_some]
      rw [if_pos (by omega), Int.toNat_natCast, if_pos (by simp; omega)]
      simp
theorem with_f (l : List Int) (x : Int) (hn : l.length ≤ 1000000) (k : Nat) (hk : l.length < k) : burinref03_with.f k l x = some (withL l x) := by
  unfold burinref03_with.f withL
  rw [joined_f l x (by omega) k hk]
  simp only [Option.bind_some]
  by_cases h : x ∈ l
  · rw [if_pos (by simpa using h), if_pos h]
  · rw [if_neg (by simpa using h), if_neg h]
    have := with_at l x hn l.length k 0 (Nat.zero_le _) (by omega) (by omega)
    simpa using this
theorem withL_len (l : List Int) (x : Int) : (withL l x).length ≤ l.length + 1 := by
  unfold withL
  split
  · omega
  · rw [put_len]; omega
def stepP (l : List Int) (p : S52) : List Int :=
  let l1 := if p.f0 ∈ l then withL l p.f1 else l
  if p.f1 ∈ l1 then withL l1 p.f0 else l1
theorem stepP_len (l : List Int) (p : S52) : (stepP l p).length ≤ l.length + 2 := by
  have h : ∀ (l : List Int) (a b : Int), (if a ∈ l then withL l b else l).length ≤ l.length + 1 := fun l a b => by
    split
    · exact withL_len l b
    · omega
  unfold stepP
  have h1 := h l p.f0 p.f1
  have h2 := h (if p.f0 ∈ l then withL l p.f1 else l) p.f1 p.f0
  exact Nat.le_trans h2 (by omega)
/-- One pass over all pairs. -/
theorem pass_at (ps : List S52) (hp : ps.length ≤ 1000) (n : Int) (r : List Int) (d : Nat) : ∀ (i : Nat) (l : List Int), i ≤ ps.length → ps.length - i = d → l.length + 2 * d ≤ 10000 →
    Ev (fun k => burinref03_Family.l0 k ((ps.drop i).foldl stepP l) ps n) r → Ev (fun k => burinref03_Family.l1 k l ps n i) r := by
  induction d with
  | zero =>
    intro i l hi hd hl h
    have e : i = ps.length := by omega
    subst e
    refine Ev.step (fun k => ?_) h
    simp only [burinref03_Family.l1]
    rw [if_neg (by omega)]
    simp
  | succ d ih =>
    intro i l hi hd hl h
    have h1 : i < ps.length := by omega
    have ea : rd_T52 ps (i : Int) = ps[i] := by simp [rd_T52, h1]
    rw [List.drop_eq_getElem_cons h1, List.foldl_cons] at h
    have hs := stepP_len l ps[i]
    obtain ⟨K, hK⟩ := ih (i + 1) (stepP l ps[i]) (by omega) (by omega) (by omega) h
    refine ⟨K + 20003, fun k hk => ?_⟩
    obtain ⟨k, rfl⟩ : ∃ m, k = m + 2 := ⟨k - 2, by omega⟩
    have hl1 : ∀ (l1 : List Int), l1 = (if ps[i].f0 ∈ l then withL l ps[i].f1 else l) → burinref03_Family.j2 (k + 1) l1 ps n i = some r := by
      intro l1 e1
      have hlen : l1.length ≤ l.length + 1 := by
        rw [e1]
        split
        · exact withL_len _ _
        · omega
      have hgo := hK k (by omega)
      have es : stepP l ps[i] = if ps[i].f1 ∈ l1 then withL l1 ps[i].f0 else l1 := by rw [e1]; rfl
      simp only [burinref03_Family.j2]
      rw [if_pos (by omega), if_pos (by omega), ea, joined_f l1 _ (by omega) k (by omega)]
      simp only [Option.bind_some]
      rw [wrap_in (x := (i : Int) + 1) (by omega) (by omega), show (i : Int) + 1 = ((i + 1 : Nat) : Int) by omega]
      by_cases hb : ps[i].f1 ∈ l1
      · rw [if_pos (by simpa using hb), with_f l1 _ (by omega) k (by omega)]
        simp only [Option.bind_some]
        rw [if_pos hb] at es
        rw [← es]
        exact hgo
      · rw [if_neg (by simpa using hb)]
        rw [if_neg hb] at es
        rw [← es]
        exact hgo
    simp only [burinref03_Family.l1]
    rw [if_pos (by omega), if_pos (by omega), ea, joined_f l _ (by omega) (k + 1) (by omega)]
    simp only [Option.bind_some]
    by_cases ha : ps[i].f0 ∈ l
    · rw [if_pos (by simpa using ha), with_f l _ (by omega) (k + 1) (by omega)]
      simp only [Option.bind_some]
      exact hl1 _ (by rw [if_pos ha])
    · rw [if_neg (by simpa using ha)]
      exact hl1 _ (by rw [if_neg ha])
theorem go_on (ps : List S52) (hp : ps.length ≤ 1000) (l r : List Int) (n : Int) (hn : n < l.length) (hl : l.length ≤ 1000) (h : Ev (fun k => burinref03_Family.l0 k (ps.foldl stepP l) ps (l.length : Int)) r) : Ev (fun k => burinref03_Family.l0 k l ps n) r := by
  refine Ev.step (fun k => ?_) (pass_at ps hp (l.length : Int) r ps.length 0 l (Nat.zero_le _) (by omega) (by omega) (by simpa using h))
  simp only [burinref03_Family.l0]
  rw [if_pos hn]
  rfl
theorem stop (ps : List S52) (l : List Int) (n : Int) (hn : ¬ n < l.length) : Ev (fun k => burinref03_Family.l0 k l ps n) l := by
  refine Ev.step (fun k => ?_) (Ev.now l)
  simp only [burinref03_Family.l0]
  rw [if_neg hn]
def spanL (lo hi up : Int) : List S52 := (List.range (hi - lo + 1).toNat).map fun (i : Nat) => ⟨lo + (i : Int), lo + (i : Int) + up⟩
def pairsL : List S52 := spanL 65 90 32 ++ spanL 192 214 32 ++ spanL 216 222 32 ++ spanL 913 929 32 ++ spanL 931 939 32 ++ spanL 1040 1071 32 ++ spanL 1024 1039 80 ++ [⟨376, 255⟩, ⟨924, 181⟩, ⟨931, 962⟩, ⟨75, 8490⟩, ⟨197, 8491⟩, ⟨83, 383⟩, ⟨937, 8486⟩]
theorem pairs_f : burinref03_Pairs.f 40 = some pairsL := by kernel_rfl
/-- Passes, till nothing more comes; at most five. -/
def fam5 (r : Int) : Bool :=
  let l1 := pairsL.foldl stepP [r]
  let l2 := pairsL.foldl stepP l1
  let l3 := pairsL.foldl stepP l2
  (decide (l1.length ≤ 100) && decide (l2.length ≤ 100)) &&
  ((decide (l1.length ≤ 1) && decide (l1 = isort (fam0 (capF r)))) || (decide (1 < l1.length) && ((decide (l2.length ≤ l1.length) && decide (l2 = isort (fam0 (capF r)))) || (decide (l1.length < l2.length) && decide (l3.length ≤ l2.length) && decide (l3 = isort (fam0 (capF r)))))))
theorem fam5_ok (r : Int) (h : fam5 r = true) : Ev (fun k => burinref03_Family.l0 k [r] pairsL 0) (famF r) := by
  have hp : pairsL.length ≤ 1000 := by decide +kernel
  have hf : famF r = isort (fam0 (capF r)) := by unfold famF; rw [merge_isort]
  rw [hf]
  unfold fam5 at h
  generalize isort (fam0 (capF r)) = F at h ⊢
  simp only [Bool.and_eq_true, Bool.or_eq_true, decide_eq_true_eq] at h
  obtain ⟨⟨h1, h2⟩, h⟩ := h
  refine go_on pairsL hp [r] F 0 (by simp) (by simp) ?_
  generalize pairsL.foldl stepP [r] = l1 at h1 h2 h ⊢
  rcases h with ⟨ha, hb⟩ | ⟨ha, h⟩
  · rw [← hb]
    exact stop pairsL l1 _ (by simp; omega)
  · refine go_on pairsL hp l1 F _ (by simp; omega) (by omega) ?_
    generalize pairsL.foldl stepP l1 = l2 at h2 h ⊢
    rcases h with ⟨hb, hc⟩ | ⟨⟨hb, hc⟩, hd⟩
    · rw [← hc]
      exact stop pairsL l2 _ (by omega)
    · refine go_on pairsL hp l2 F _ (by omega) (by omega) ?_
      generalize pairsL.foldl stepP l2 = l3 at hc hd ⊢
      rw [← hd]
      exact stop pairsL l3 _ (by omega)
theorem fam5_blocks : (blocksL.all fun b => (List.range (b.2.1 - b.1 + 1).toNat).all fun (i : Nat) => fam5 (b.1 + (i : Int)) && fam5 (b.1 + b.2.2 + (i : Int))) = true := by decide +kernel
theorem fam5_others : (othersL.all fun o => fam5 o.1 && fam5 o.2) = true := by decide +kernel
theorem pairs_in : (pairsL.all fun p => (inBlocks p.f0 || inOthers p.f0) && (inBlocks p.f1 || inOthers p.f1)) = true := by decide +kernel
theorem pass_out (r : Int) : ∀ (ps : List S52), (∀ p ∈ ps, ¬ p.f0 = r ∧ ¬ p.f1 = r) → ps.foldl stepP [r] = [r]
  | [], _ => rfl
  | p :: ps, h => by
    have hp := h p (by simp)
    have hs : stepP [r] p = [r] := by
      simp only [stepP, List.mem_singleton, hp.1, hp.2, if_false]
    rw [List.foldl_cons, hs]
    exact pass_out r ps (fun q hq => h q (by simp [hq]))
/-- The reference's family is the program's. -/
theorem fam_loops (r : Int) : Ev (fun k => burinref03_Family.l0 k [r] pairsL 0) (famF r) := by
  by_cases h : inBlocks r = true ∨ inOthers r = true
  · refine fam5_ok r ?_
    rcases h with h | h
    · unfold inBlocks at h
      rw [List.any_eq_true] at h
      obtain ⟨b, hb, h⟩ := h
      have h2 := fam5_blocks
      rw [List.all_eq_true] at h2
      have h3 := h2 b hb
      rw [List.all_eq_true] at h3
      simp only [Bool.or_eq_true, Bool.and_eq_true, decide_eq_true_eq] at h
      rcases h with h | h
      · have h4 := h3 (r - b.1).toNat (by rw [List.mem_range]; omega)
        rw [Bool.and_eq_true, show b.1 + ((r - b.1).toNat : Int) = r from by omega] at h4
        exact h4.1
      · have h4 := h3 (r - b.1 - b.2.2).toNat (by rw [List.mem_range]; omega)
        rw [Bool.and_eq_true, show b.1 + b.2.2 + ((r - b.1 - b.2.2).toNat : Int) = r from by omega] at h4
        exact h4.2
    · unfold inOthers at h
      rw [List.any_eq_true] at h
      obtain ⟨o, ho, h⟩ := h
      have h2 := fam5_others
      rw [List.all_eq_true] at h2
      have h3 := h2 o ho
      simp only [Bool.or_eq_true, Bool.and_eq_true, decide_eq_true_eq] at h h3
      rcases h with rfl | rfl
      · exact h3.1
      · exact h3.2
  · have hfam : famF r = [r] := by
      rcases (fam_facts r).2.2.2 with h1 | h1 | h1
      · exact absurd (.inl h1) h
      · exact absurd (.inr h1) h
      · exact h1
    have hout : pairsL.foldl stepP [r] = [r] := by
      refine pass_out r pairsL (fun p hp => ?_)
      have h2 := pairs_in
      rw [List.all_eq_true] at h2
      have h3 := h2 p hp
      simp only [Bool.or_eq_true, Bool.and_eq_true] at h3
      exact ⟨fun e => h (by rw [← e]; exact h3.1), fun e => h (by rw [← e]; exact h3.2)⟩
    rw [hfam]
    refine go_on pairsL (by decide +kernel) [r] [r] 0 (by simp) (by simp) ?_
    rw [hout]
    exact stop pairsL [r] _ (by simp)
theorem ref_fam (r : Int) : Ev (fun k => burinref03_Family.f k r) (famF r) := by
  unfold burinref03_Family.f
  exact Ev.bind (Ev.of (fun k => burinref03_Pairs.mono k) pairs_f) (fam_loops r)
theorem same_l0 (s : List S55) (hn : s.length ≤ 2000000) (d : Nat) : ∀ i : Nat, i ≤ s.length → s.length - i = d → Ev (fun k => burinbook_SameRanges.l0 k s s true i) true := by
  induction d with
  | zero =>
    intro i hi hd
    refine Ev.step (fun k => ?_) (Ev.now _)
    simp only [burinbook_SameRanges.l0]
    rw [if_pos trivial, if_neg (by omega)]
  | succ d ih =>
    intro i hi hd
    refine Ev.step (fun k => ?_) (ih (i + 1) (by omega) (by omega))
    simp only [burinbook_SameRanges.l0]
    rw [if_pos trivial, if_pos (by omega), if_pos (by omega), if_pos (by omega), wrap_rg (x := (i : Int) + 1) (by omega) (by omega), show (i : Int) + 1 = ((i + 1 : Nat) : Int) by omega]
    simp
theorem same_ev (s : List S55) (hn : s.length ≤ 2000000) : Ev (fun k => burinbook_SameRanges.f k s s) true := by
  have := same_l0 s hn _ 0 (Nat.zero_le _) rfl
  unfold burinbook_SameRanges.f
  simpa using this
theorem rhas_l0 (s : List (Int × Int)) (r : Int) (hn : s.length ≤ 900000) (d : Nat) : ∀ i : Nat, i ≤ s.length → s.length - i = d → Ev (fun k => burinref02_Has.l0 k (s.map toRg) r i) (hasL (s.drop i) r) := by
  induction d with
  | zero =>
    intro i hi hd
    have e : i = s.length := by omega
    subst e
    rw [List.drop_of_length_le (Nat.le_refl _)]
    refine Ev.step (f := fun k => burinref02_Has.j1 k (s.map toRg) r (s.length : Int) false) (fun k => ?_) (Ev.step (fun k => ?_) (Ev.now _))
    · simp only [burinref02_Has.l0]
      rw [if_neg (by simp)]
    · simp only [burinref02_Has.j1]
      rw [if_neg (by simp)]
      unfold hasL
      rw [inL_nil]
      simp
  | succ d ih =>
    intro i hi hd
    have hlt : i < s.length := by omega
    have h0 : ∀ k, burinref02_Has.l0 (k + 1) (s.map toRg) r i = burinref02_Has.j1 k (s.map toRg) r (i : Int) (decide (0 ≤ r ∧ r ≤ 1114111)) := by
      intro k
      simp only [burinref02_Has.l0]
      rw [if_pos (by simp; omega)]
      by_cases c : r ≥ 0
      · rw [if_pos c]
        congr 1
        rw [decide_eq_decide]
        omega
      · rw [if_neg c, decide_eq_false (by omega)]
    by_cases c : 0 ≤ r ∧ r ≤ 1114111
    · have hd' : hasL (s.drop i) r = ((decide (s[i].1 ≤ r) && decide (r ≤ s[i].2)) || hasL (s.drop (i + 1)) r) := by
        unfold hasL
        rw [decide_eq_true c.1, decide_eq_true c.2, List.drop_eq_getElem_cons hlt, inL_cons]
        rfl
      rw [hd']
      have hr := ih (i + 1) (by omega) (by omega)
      have h1 : ∀ k, burinref02_Has.j1 (k + 1) (s.map toRg) r (i : Int) true = if s[i].1 ≤ r ∧ r ≤ s[i].2 then some true else burinref02_Has.l0 k (s.map toRg) r ((i + 1 : Nat) : Int) := by
        intro k
        simp only [burinref02_Has.j1]
        rw [if_pos trivial, if_pos (by omega), if_pos (by simp; omega), rd_rg s i hlt, wrap_rg (x := (i : Int) + 1) (by omega) (by omega), show (i : Int) + 1 = ((i + 1 : Nat) : Int) by omega]
        rw [show (toRg s[i]).f0 = s[i].1 from rfl, show (toRg s[i]).f1 = s[i].2 from rfl]
        by_cases a : s[i].1 ≤ r
        · by_cases b : r ≤ s[i].2
          · rw [if_pos a, if_pos b, if_pos ⟨a, b⟩]
          · rw [if_pos a, if_neg b, if_neg (fun h => b h.2)]
        · rw [if_neg a, if_neg (fun h => a h.1)]
      rw [decide_eq_true c] at h0
      by_cases q : s[i].1 ≤ r ∧ r ≤ s[i].2
      · rw [decide_eq_true q.1, decide_eq_true q.2]
        exact Ev.step h0 (Ev.step (fun k => by rw [h1 k, if_pos q]; rfl) (Ev.now _))
      · have : (decide (s[i].1 ≤ r) && decide (r ≤ s[i].2)) = false := by
          rw [← Bool.not_eq_true, Bool.and_eq_true, decide_eq_true_eq, decide_eq_true_eq]
          exact q
        rw [this, Bool.false_or]
        exact Ev.step h0 (Ev.step (fun k => by rw [h1 k, if_neg q]) hr)
    · rw [decide_eq_false c] at h0
      refine Ev.step h0 (Ev.step (fun k => ?_) (Ev.now _))
      simp only [burinref02_Has.j1]
      rw [if_neg (by simp)]
      have : hasL (s.drop i) r = false := by
        unfold hasL
        by_cases c1 : 0 ≤ r
        · rw [decide_eq_false (show ¬ r ≤ 1114111 by omega)]; simp
        · rw [decide_eq_false c1]; simp
      rw [this]
theorem rhas_ev (s : List (Int × Int)) (r : Int) (hn : s.length ≤ 900000) : Ev (fun k => burinref02_Has.f k (s.map toRg) r) (hasL s r) := by
  have := rhas_l0 s r hn _ 0 (Nat.zero_le _) rfl
  unfold burinref02_Has.f
  simpa using this
theorem edge_l0 (s : List (Int × Int)) (at_ : Int) (h0 : 0 ≤ at_) (hn : s.length ≤ 900000) (d : Nat) : ∀ (i : Nat) (n : Int), i ≤ s.length → s.length - i = d → Ev (fun k => burinref02_edge.l0 k (s.map toRg) at_ n i) (edgeG at_ n (s.drop i)) := by
  induction d with
  | zero =>
    intro i n hi hd
    have e : i = s.length := by omega
    subst e
    rw [List.drop_of_length_le (Nat.le_refl _)]
    refine Ev.step (fun k => ?_) (Ev.now _)
    simp only [burinref02_edge.l0]
    rw [if_neg (by simp)]
    rfl
  | succ d ih =>
    intro i n hi hd
    have hlt : i < s.length := by omega
    rw [List.drop_eq_getElem_cons hlt, edgeG]
    have h1 : ∀ k, burinref02_edge.l0 (k + 1) (s.map toRg) at_ n i = burinref02_edge.j1 k (s.map toRg) at_ n i (decide (s[i].1 > at_ ∧ s[i].1 < n)) := by
      intro k
      simp only [burinref02_edge.l0]
      rw [if_pos (by simp; omega), if_pos (by omega), rd_rg s i hlt, show (toRg s[i]).f0 = s[i].1 from rfl]
      by_cases c : s[i].1 > at_
      · rw [if_pos c]
        congr 1
        rw [decide_eq_decide]
        omega
      · rw [if_neg c, decide_eq_false (by omega)]
    refine Ev.step h1 (Ev.step (fun k => ?_) (ih (i + 1) (edgeS at_ n s[i]) (by omega) (by omega)))
    have hw : at_ ≤ s[i].2 → s[i].2 < 1114111 → wrap64 (s[i].2 + 1) = s[i].2 + 1 := fun a b => wrap_rg (by omega) (by omega)
    simp only [burinref02_edge.j1]
    rw [rd_rg s i hlt, show (toRg s[i]).f0 = s[i].1 from rfl, show (toRg s[i]).f1 = s[i].2 from rfl, wrap_rg (x := (i : Int) + 1) (by omega) (by omega), show (i : Int) + 1 = ((i + 1 : Nat) : Int) by omega]
    have hi0 : (0 : Int) ≤ (i : Int) := by omega
    have hi1 : (i : Int) < ((s.map toRg).length : Int) := by simp; omega
    simp only [if_pos hi0, if_pos hi1, edgeS]
    by_cases c : s[i].1 > at_ ∧ s[i].1 < n
    · rw [decide_eq_true c]
      simp only [if_pos c, if_true]
      by_cases a : s[i].2 ≥ at_
      · rw [if_pos a]
        by_cases b : s[i].2 < 1114111
        · rw [if_pos b, hw a b]
          by_cases e : s[i].2 + 1 < s[i].1
          · rw [if_pos e, if_pos ⟨a, b, e⟩]
          · rw [if_neg e, if_neg (fun h => e h.2.2)]
        · rw [if_neg b, if_neg (fun h => b h.2.1)]
      · rw [if_neg a, if_neg (fun h => a h.1)]
    · rw [decide_eq_false c]
      simp only [if_neg c]
      rw [if_neg (by simp)]
      by_cases a : s[i].2 ≥ at_
      · rw [if_pos a]
        by_cases b : s[i].2 < 1114111
        · rw [if_pos b, hw a b]
          by_cases e : s[i].2 + 1 < n
          · rw [if_pos e, if_pos ⟨a, b, e⟩]
          · rw [if_neg e, if_neg (fun h => e h.2.2)]
        · rw [if_neg b, if_neg (fun h => b h.2.1)]
      · rw [if_neg a, if_neg (fun h => a h.1)]
theorem edge_ev (s : List (Int × Int)) (at_ : Int) (h0 : 0 ≤ at_) (hn : s.length ≤ 900000) : Ev (fun k => burinref02_edge.f k (s.map toRg) at_) (edgeL s at_) := by
  have := edge_l0 s at_ h0 hn _ 0 1114112 (Nat.zero_le _) rfl
  unfold burinref02_edge.f edgeL
  simpa using this
/-- The three ways of making. -/
def madeBy (op : Int) (x y : Bool) : Bool := (decide (op = 1) && (x || y)) || ((decide (op = 2) && (x && y)) || (decide (op = 3) && (x && !y)))
theorem make_j2 (op : Int) (a b : List (Int × Int)) (G : Int → Bool) (p : List (Int × Int)) (at_ next : Int) (hU : Upto G at_ p) (h0 : 0 ≤ at_) (h1 : at_ < next) (h2 : next ≤ 1114112) (hG : ∀ r, at_ ≤ r → r < next → G r = G at_) :
    ∃ q, Upto G next q ∧ ∀ k, burinref02_Make.j2 (k + 1) op (a.map toRg) (b.map toRg) (p.map toRg) at_ next (G at_) = burinref02_Make.l0 k op (a.map toRg) (b.map toRg) (q.map toRg) next := by
  by_cases g : G at_ = true
  · rw [g] at hG
    have hlen := nrm_len hU.nrm
    have happ : (p.map toRg).length < 8796093022208 := by simp; omega
    rcases List.eq_nil_or_concat p with rfl | ⟨p', c, rfl⟩
    · refine ⟨[(at_, next - 1)], hU.more h0 h1 h2 hG (fun x hx => by cases hx), fun k => ?_⟩
      simp only [burinref02_Make.j2]
      rw [g, if_pos rfl, if_neg (by simp), if_pos happ, wrap_rg (x := next - 1) (by omega) (by omega)]
      rfl
    · rw [List.concat_eq_append] at *
      have hl : (((p' ++ [c]).map toRg).length : Int) = p'.length + 1 := by simp
      have hp' : p'.length + 1 ≤ 1114112 := by simpa using hlen
      have hlast : rd_T55 ((p' ++ [c]).map toRg) (p'.length : Int) = toRg c := by
        rw [rd_rg (p' ++ [c]) p'.length (by simp)]; simp
      have hc := hU.nrm.inr c (by simp)
      by_cases e : c.2 + 1 = at_
      · refine ⟨p' ++ [(c.1, next - 1)], hU.join h0 h1 h2 hG e, fun k => ?_⟩
        simp only [burinref02_Make.j2]
        rw [g, if_pos rfl, hl, if_pos (by omega), wrap_rg (x := (p'.length : Int) + 1 - 1) (by omega) (by omega), show (p'.length : Int) + 1 - 1 = p'.length by omega, if_pos (by omega), if_pos (by omega), hlast]
        rw [show (toRg c).f1 = c.2 from rfl, show (toRg c).f0 = c.1 from rfl, wrap_rg (x := c.2 + 1) (by omega) (by omega), if_pos e, wrap_rg (x := next - 1) (by omega) (by omega)]
        congr 1
        rw [Int.toNat_natCast, List.map_append, List.map_append, List.set_append_right _ _ (by simp)]
        simp [toRg]
      · refine ⟨(p' ++ [c]) ++ [(at_, next - 1)], hU.more h0 h1 h2 hG (fun x hx => ?_), fun k => ?_⟩
        · rcases List.mem_append.1 hx with hx | hx
          · have := (List.pairwise_append.1 hU.nrm.apart).2.2 x hx c (by simp)
            have := hU.lt c (by simp)
            omega
          · simp only [List.mem_singleton] at hx; subst hx; exact e
        · simp only [burinref02_Make.j2]
          rw [g, if_pos rfl, hl, if_pos (by omega), wrap_rg (x := (p'.length : Int) + 1 - 1) (by omega) (by omega), show (p'.length : Int) + 1 - 1 = p'.length by omega, if_pos (by omega), if_pos (by omega), hlast]
          rw [show (toRg c).f1 = c.2 from rfl, wrap_rg (x := c.2 + 1) (by omega) (by omega), if_neg e, if_pos happ, wrap_rg (x := next - 1) (by omega) (by omega)]
          congr 1
          simp [toRg]
  · rw [Bool.not_eq_true] at g
    rw [g] at hG
    refine ⟨p, hU.skip h1 hG, fun k => ?_⟩
    simp only [burinref02_Make.j2]
    rw [g, if_neg (by simp)]
theorem make_j1 (op : Int) (hop : op = 1 ∨ op = 2 ∨ op = 3) (a b : List S55) (p : List S55) (at_ next : Int) (x y : Bool) {m : List S55} (hx : Ev (fun k => burinref02_Has.f k a at_) x) (hy : Ev (fun k => burinref02_Has.f k b at_) y)
    (h : Ev (fun k => burinref02_Make.j2 k op a b p at_ next (madeBy op x y)) m) : Ev (fun k => burinref02_Make.j1 k op a b p at_ next) m := by
  refine Ev.step (fun k => by simp only [burinref02_Make.j1]; exact rfl) (Ev.bind hx (Ev.bind hy ?_))
  refine Ev.congr (fun k => ?_) h
  rcases hop with rfl | rfl | rfl <;> cases x <;> cases y <;> rfl
theorem make_l0 (op : Int) (hop : op = 1 ∨ op = 2 ∨ op = 3) (a b : List (Int × Int)) (ha : a.length ≤ 900000) (hb : b.length ≤ 900000) (d : Nat) : ∀ (at_ : Int) (p : List (Int × Int)), 0 ≤ at_ → at_ ≤ 1114112 → (1114112 - at_).toNat ≤ d → Upto (fun r => madeBy op (hasL a r) (hasL b r)) at_ p →
    ∃ q, Upto (fun r => madeBy op (hasL a r) (hasL b r)) 1114112 q ∧ Ev (fun k => burinref02_Make.l0 k op (a.map toRg) (b.map toRg) (p.map toRg) at_) (q.map toRg) := by
  induction d with
  | zero =>
    intro at_ p h0 h1 hd hU
    have e : at_ = 1114112 := by omega
    subst e
    refine ⟨p, hU, Ev.step (fun k => ?_) (Ev.now _)⟩
    simp only [burinref02_Make.l0]
    rw [if_neg (by omega)]
  | succ d ih =>
    intro at_ p h0 h1 hd hU
    by_cases c : at_ ≤ 1114111
    · have ea := edge_in a c
      have eb := edge_in b c
      obtain ⟨next, hnext⟩ : ∃ n, n = if edgeL b at_ < edgeL a at_ then edgeL b at_ else edgeL a at_ := ⟨_, rfl⟩
      have hn1 : at_ < next ∧ next ≤ 1114112 ∧ next ≤ edgeL a at_ ∧ next ≤ edgeL b at_ := by
        rw [hnext]; split <;> omega
      obtain ⟨q, hq, hj⟩ := make_j2 op a b (fun r => madeBy op (hasL a r) (hasL b r)) p at_ next hU h0 hn1.1 hn1.2.1 (fun r r0 r1 => by
        show madeBy op (hasL a r) (hasL b r) = madeBy op (hasL a at_) (hasL b at_)
        rw [edge_has h0 r0 (show r < edgeL a at_ by omega), edge_has h0 r0 (show r < edgeL b at_ by omega)])
      obtain ⟨m, hm, hE⟩ := ih next q (by omega) hn1.2.1 (by omega) hq
      refine ⟨m, hm, Ev.step (fun k => by simp only [burinref02_Make.l0]; rw [if_pos c]) (Ev.bind (edge_ev a at_ h0 ha) (Ev.bind (edge_ev b at_ h0 hb) ?_))⟩
      have key : Ev (fun k => burinref02_Make.j1 k op (a.map toRg) (b.map toRg) (p.map toRg) at_ next) (m.map toRg) :=
        make_j1 op hop _ _ _ _ _ _ _ (rhas_ev a at_ ha) (rhas_ev b at_ hb) (Ev.step hj hE)
      refine Ev.congr (fun k => ?_) key
      rw [hnext]
      split <;> rfl
    · have e : at_ = 1114112 := by omega
      subst e
      refine ⟨p, hU, Ev.step (fun k => ?_) (Ev.now _)⟩
      simp only [burinref02_Make.l0]
      rw [if_neg (by omega)]
theorem make_ev (op : Int) (hop : op = 1 ∨ op = 2 ∨ op = 3) (a b : List (Int × Int)) (ha : a.length ≤ 900000) (hb : b.length ≤ 900000) (m : List (Int × Int)) (hm : Nrm m) (hin : ∀ r, inL m r = madeBy op (hasL a r) (hasL b r)) :
    Ev (fun k => burinref02_Make.f k op (a.map toRg) (b.map toRg)) (m.map toRg) := by
  obtain ⟨q, hq, hE⟩ := make_l0 op hop a b ha hb 1114112 0 [] (by omega) (by omega) (by omega) (Upto.start _)
  have e : q = m := nrm_ext hq.nrm hm (fun r => by
    rw [hq.last r, hin r]
    unfold hasL madeBy
    cases decide (0 ≤ r) <;> cases decide (r ≤ 1114111) <;> simp)
  rw [← e]
  exact hE
theorem rnorm_ev (a : List (Int × Int)) (ha : a.length ≤ 900000) : Ev (fun k => burinref02_Norm.f k (a.map toRg)) ((normL a).map toRg) := by
  unfold burinref02_Norm.f
  refine Ev.bind (make_ev 1 (.inl rfl) a [] ha (by simp) (normL a) (normL_nrm a) (fun r => ?_)) (Ev.now _)
  rw [normL_in]
  have : hasL [] r = false := by unfold hasL; rw [inL_nil]; simp
  rw [this]
  unfold madeBy
  simp
theorem close_l2 (l : List (Int × Int)) (ps : List S52) (i : Nat) (hi : i < 1000) (fam : List Int) (hf : fam.length ≤ 100) (m : List S55) (d : Nat) : ∀ (j : Nat) (more : List (Int × Int)), j ≤ fam.length → fam.length - j = d → more.length + d ≤ 100000 →
    Ev (fun k => burinref03_Close.l0 k (l.map toRg) ((more ++ (fam.drop j).map (fun r => (r, r))).map toRg) ps ((i + 1 : Nat) : Int)) m →
    Ev (fun k => burinref03_Close.l2 k (l.map toRg) (more.map toRg) ps (i : Int) fam true (j : Int)) m := by
  induction d with
  | zero =>
    intro j more hj hd hm h
    have e : j = fam.length := by omega
    subst e
    rw [List.drop_of_length_le (Nat.le_refl _), List.map_nil, List.append_nil] at h
    refine Ev.step (fun k => ?_) h
    simp only [burinref03_Close.l2]
    rw [if_neg (by omega), wrap_rg (x := (i : Int) + 1) (by omega) (by omega), show (i : Int) + 1 = ((i + 1 : Nat) : Int) by omega]
  | succ d ih =>
    intro j more hj hd hm h
    have hlt : j < fam.length := by omega
    have hrd : rd fam (j : Int) = fam[j] := by simp [rd, hlt]
    rw [List.drop_eq_getElem_cons hlt, List.map_cons, show more ++ (fam[j], fam[j]) :: (fam.drop (j + 1)).map (fun r => (r, r)) = (more ++ [(fam[j], fam[j])]) ++ (fam.drop (j + 1)).map (fun r => (r, r)) by simp] at h
    refine Ev.step (fun k => ?_) (ih (j + 1) (more ++ [(fam[j], fam[j])]) (by omega) (by omega) (by simp; omega) h)
    simp only [burinref03_Close.l2]
    rw [if_pos (by omega), if_pos trivial, if_pos (by omega), if_pos (by simp; omega), hrd, wrap_rg (x := (j : Int) + 1) (by omega) (by omega), show (j : Int) + 1 = ((j + 1 : Nat) : Int) by omega]
    simp [toRg]
theorem close_l2f (l : List (Int × Int)) (ps : List S52) (i : Nat) (hi : i < 1000) (fam : List Int) (m : List S55) (more : List S55) (j : Int)
    (h : Ev (fun k => burinref03_Close.l0 k (l.map toRg) more ps ((i + 1 : Nat) : Int)) m) :
    Ev (fun k => burinref03_Close.l2 k (l.map toRg) more ps (i : Int) fam false j) m := by
  refine Ev.step (fun k => ?_) h
  simp only [burinref03_Close.l2]
  rw [wrap_rg (x := (i : Int) + 1) (by omega) (by omega), show (i : Int) + 1 = ((i + 1 : Nat) : Int) by omega]
  split
  · rw [if_neg (by simp)]
  · rfl
theorem close_l1 (l : List (Int × Int)) (hl : l.length ≤ 900000) (ps : List S52) (i : Int) (fam : List Int) (hf : fam.length ≤ 100) (m more : List S55) (d : Nat) : ∀ (j : Nat) (q : Bool), j ≤ fam.length → fam.length - j = d →
    Ev (fun k => burinref03_Close.l2 k (l.map toRg) more ps i fam (q || (fam.drop j).any (hasL l)) 0) m →
    Ev (fun k => burinref03_Close.l1 k (l.map toRg) more ps i fam q (j : Int)) m := by
  induction d with
  | zero =>
    intro j q hj hd h
    have e : j = fam.length := by omega
    subst e
    rw [List.drop_of_length_le (Nat.le_refl _), List.any_nil, Bool.or_false] at h
    refine Ev.step (fun k => ?_) h
    simp only [burinref03_Close.l1]
    rw [if_neg (by omega)]
  | succ d ih =>
    intro j q hj hd h
    have hlt : j < fam.length := by omega
    have hrd : rd fam (j : Int) = fam[j] := by simp [rd, hlt]
    rw [List.drop_eq_getElem_cons hlt, List.any_cons] at h
    cases q with
    | true =>
      refine Ev.step (fun k => ?_) (ih (j + 1) true (by omega) (by omega) (by simpa using h))
      simp only [burinref03_Close.l1]
      rw [if_pos (by omega), if_pos trivial, wrap_rg (x := (j : Int) + 1) (by omega) (by omega), show (j : Int) + 1 = ((j + 1 : Nat) : Int) by omega]
    | false =>
      rw [Bool.false_or] at h
      have h2 := ih (j + 1) (hasL l fam[j]) (by omega) (by omega) h
      refine Ev.step (f := fun k => (burinref02_Has.f k (l.map toRg) fam[j]).bind fun t => burinref03_Close.l1 k (l.map toRg) more ps i fam t ((j + 1 : Nat) : Int)) (fun k => ?_) (Ev.bind (rhas_ev l fam[j] hl) h2)
      simp only [burinref03_Close.l1]
      rw [if_pos (by omega), if_neg (by simp), if_pos (by omega), hrd, wrap_rg (x := (j : Int) + 1) (by omega) (by omega), show (j : Int) + 1 = ((j + 1 : Nat) : Int) by omega]
theorem close_made (l T : List (Int × Int)) (hl : l.length ≤ 900000) (hT : T.length ≤ 900000) (he : T = capsAll.flatMap (addF l)) : Ev (fun k => burinref02_Make.f k 1 ((normL l).map toRg) ((normL T).map toRg)) ((closeL l).map toRg) := by
  have n1 := normL_len l
  have n2 := normL_len T
  refine make_ev 1 (.inl rfl) (normL l) (normL T) (by omega) (by omega) (closeL l) (closeL_nrm l) fun r => ?_
  rw [hasL_nrm (normL_nrm l), hasL_nrm (normL_nrm T), normL_in, normL_in]
  have e : inL (closeL l) r = hasL (l ++ T) r := by rw [he]; exact normL_in _ r
  rw [e]
  unfold hasL madeBy
  rw [inL_append]
  cases decide (0 ≤ r) <;> cases decide (r ≤ 1114111) <;> cases inL l r <;> cases inL T r <;> rfl
theorem close_l0 (l : List (Int × Int)) (hl : l.length ≤ 1000) (ps : List S52) (hp : ps.length < 1000) (T : List (Int × Int)) (hT : T.length ≤ 100000) (he : T = capsAll.flatMap (addF l)) (d : Nat) : ∀ (i : Nat) (more : List (Int × Int)), i ≤ ps.length → ps.length - i = d → more ++ ((ps.drop i).map (fun p => p.f0)).flatMap (addF l) = T →
    Ev (fun k => burinref03_Close.l0 k (l.map toRg) (more.map toRg) ps (i : Int)) ((closeL l).map toRg) := by
  induction d with
  | zero =>
    intro i more hi hd hm
    have e : i = ps.length := by omega
    subst e
    rw [List.drop_of_length_le (Nat.le_refl _), List.map_nil, List.flatMap_nil, List.append_nil] at hm
    subst hm
    have n1 := normL_len more
    refine Ev.step (f := fun k => (burinref02_Norm.f k (l.map toRg)).bind fun t259 => ((burinref02_Norm.f k (more.map toRg)).bind fun t262 => ((burinref02_Make.f k 1 t259 t262).bind fun t265 => (some t265)))) (fun k => ?_) ?_
    · simp only [burinref03_Close.l0]
      rw [if_neg (by omega)]
    · refine Ev.bind (rnorm_ev l (by omega)) (Ev.bind (rnorm_ev more (by omega)) ?_)
      exact Ev.bind (close_made l more (by omega) (by omega) he) (Ev.now _)
  | succ d ih =>
    intro i more hi hd hm
    have hlt : i < ps.length := by omega
    have hrd : rd_T52 ps (i : Int) = ps[i] := by simp [rd_T52, hlt]
    rw [List.drop_eq_getElem_cons hlt, List.map_cons, List.flatMap_cons, ← List.append_assoc] at hm
    have h0 := ih (i + 1) (more ++ addF l ps[i].f0) (by omega) (by omega) hm
    have hfl := (fam_facts ps[i].f0).1.1
    have hml : more.length + (famF ps[i].f0).length ≤ 100000 ∨ (famF ps[i].f0).any (hasL l) ≠ true := by
      by_cases h : (famF ps[i].f0).any (hasL l) = true
      · left
        have := congrArg List.length hm
        rw [List.length_append, List.length_append] at this
        have e : (addF l ps[i].f0).length = (famF ps[i].f0).length := by unfold addF; rw [if_pos h, List.length_map]
        omega
      · exact .inr h
    have hr := ref_fam ps[i].f0
    have e : addF l ps[i].f0 = if (famF ps[i].f0).any (hasL l) = true then (famF ps[i].f0).map (fun r => (r, r)) else [] := rfl
    rw [e] at h0
    generalize famF ps[i].f0 = fam at hfl hml hr h0
    have h1 : Ev (fun k => burinref03_Close.l2 k (l.map toRg) (more.map toRg) ps (i : Int) fam (fam.any (hasL l)) ((0 : Nat) : Int)) ((closeL l).map toRg) := by
      by_cases h : fam.any (hasL l) = true
      · rw [h]
        rw [if_pos h] at h0
        exact close_l2 l ps i (by omega) fam (by omega) _ _ 0 more (Nat.zero_le _) rfl (hml.elim (fun x => by omega) (fun x => absurd h x)) h0
      · rw [if_neg h, List.append_nil] at h0
        rw [Bool.not_eq_true] at h
        rw [h]
        exact close_l2f l ps i (by omega) fam _ _ _ h0
    have h2 := close_l1 l (by omega) ps (i : Int) fam (by omega) _ (more.map toRg) _ 0 false (Nat.zero_le _) rfl (by rw [List.drop_zero, Bool.false_or]; exact h1)
    refine Ev.step (f := fun k => (burinref03_Family.f k ps[i].f0).bind fun t => burinref03_Close.l1 k (l.map toRg) (more.map toRg) ps (i : Int) t false ((0 : Nat) : Int)) (fun k => ?_) (Ev.bind hr h2)
    simp only [burinref03_Close.l0]
    rw [if_pos (by omega), if_pos (by omega), hrd]
    rfl
theorem pairs_caps : pairsL.map (fun p => p.f0) = capsAll := by decide +kernel
theorem rclose_ev (l : List (Int × Int)) (hl : l.length ≤ 1000) : Ev (fun k => burinref03_Close.f k (l.map toRg)) ((closeL l).map toRg) := by
  unfold burinref03_Close.f
  have hlen : ∀ c : List Int, (c.flatMap (addF l)).length ≤ 15 * c.length := by
    intro c
    induction c with
    | nil => simp
    | cons x t ih =>
      have := addF_small l x
      rw [List.flatMap_cons, List.length_append, List.length_cons]
      omega
  have h1 := hlen capsAll
  have h2 : capsAll.length ≤ 140 := by decide +kernel
  have h3 := close_l0 l hl pairsL (by decide +kernel) (capsAll.flatMap (addF l)) (by omega) rfl _ 0 [] (Nat.zero_le _) rfl (by rw [List.drop_zero, pairs_caps, List.nil_append])
  exact Ev.bind (Ev.of (fun k => burinref03_Pairs.mono k) pairs_f) h3
/-! The contracts, told by pairs. -/
theorem toC {A : Option Addr} {a : List (Int × Int)} {w : World} (h : Kd.C kRg w A a.length a) : Kd.C k55 w A (a.map toRg).length (a.map toRg) := by
  rw [rg_kd, List.length_map]
  exact C_iso.2 (by rw [map_forth]; exact h)
theorem fromR {e base : Nat} {ok : Nat → Prop} {v : Value} {a : List (Int × Int)} {w : World} (h : Kd.R k55 e w base ok v (a.map toRg)) : Kd.R kRg e w base ok v a := by
  have := R_iso.1 (rg_kd ▸ h)
  rwa [map_forth] at this
theorem same_at {A A' : Option Addr} {c c' : Nat} {a : List (Int × Int)} {w : World} (hn : a.length ≤ 2000000) (h : Kd.C kRg w A a.length a) (hc : a.length ≤ c) (h' : Kd.C kRg w A' a.length a) (hc' : a.length ≤ c') :
    Calls Try.prog 18 #[.slice A a.length c, .slice A' a.length c'] w (fun e w' => e = .returned (.bool true) ∧ Below w.heap.size w w') := by
  obtain ⟨k, hk⟩ := Ev.rounds (same_ev (a.map toRg) (by simpa using hn))
  have := burinbook_SameRanges.calls k A c (a.map toRg) A' c' (a.map toRg) true w (toC h) (by simpa using hc) (toC h') (by simpa using hc') hk
  rw [List.length_map] at this
  exact this.mono fun e w' ⟨he, hb⟩ => ⟨he, hb.below⟩
theorem works_call {w : World} : Calls Try.prog 8 #[] w (fun e w' => e = .returned (.bool true) ∧ Below w.heap.size w w') := by
  obtain ⟨k, hk⟩ := Ev.rounds works_ev
  exact burinlaw03_works.calls k true w hk
theorem rclose_at {A : Option Addr} {c : Nat} {a : List (Int × Int)} {w : World} (hn : a.length ≤ 1000) (h : Kd.C kRg w A a.length a) (hc : a.length ≤ c) : Calls Try.prog 19 #[.slice A a.length c] w (BothPost w (closeL a)) := by
  obtain ⟨k, hk⟩ := Ev.rounds (rclose_ev a hn)
  have := burinref03_Close.calls k A c (a.map toRg) _ w (toC h) (by simpa using hc) hk
  rw [List.length_map] at this
  exact this.mono fun e w' ⟨v, he, hR, hb⟩ => ⟨v, he, fromR hR, hb⟩
set_option maxHeartbeats 1000000 in
theorem FoldCloses_walk (A : Option Addr) (c : Nat) (l : List (Int × Int)) (w : World) (hC : Kd.C kRg w A l.length l) (hc : l.length ≤ c) :
    Calls Try.prog 6 #[.slice A l.length c] w (fun e w' => e = .returned (.bool true) ∧ Below w.heap.size w w') := by
  by_cases h60 : l.length ≤ 6
  · have hL := lend_any A c l w hC (by omega)
    have HN := Aside0.mk (fun (A : Option Addr) (c : Nat) (w : World) (h : Kd.C kRg w A l.length l) => close_any normAt A c l w h (by omega))
    have HRN := Aside0.mk (fun (A : Option Addr) (c : Nat) (w : World) (h : Kd.C kRg w A l.length l) (hc : l.length ≤ c) => rclose_at (by omega) h hc)
    have HS := Aside0.mk (fun (A A' : Option Addr) (c c' : Nat) (w : World) (h : Kd.C kRg w A (closeL l).length (closeL l)) (hc : (closeL l).length ≤ c) (h' : Kd.C kRg w A' (closeL l).length (closeL l)) (hc' : (closeL l).length ≤ c') => same_at (by have := close_len l; omega) h hc h' hc')
    have HKE := Aside0.mk (fun (w : World) (base : Nat) (v : Value) (A0 : Option Addr) (c0 : Nat) (h : Lent w base v l) (h0 : Kd.C kRg w A0 l.length l) (hc0 : l.length ≤ c0) => kept_any l w base v A0 c0 (fun A c hA hc => same_at (by omega) hA hc h0 hc0) h (by omega))
    have HL := Aside0.mk hL
    have HC := Aside0.mk hC
    clear hL hC
    generalize closeL l = m at HN HRN HS
    obtain ⟨n, hn⟩ : ∃ n, l.length = n := ⟨_, rfl⟩
    have HLN := Aside0.mk hn
    rw [hn] at HN HRN HKE HL HC h60 hc ⊢
    clear hn
    go_enter Try.func6, Try.ntmps6
    go_wp2_with fail
    refine HL.out.mono ?_
    rintro e w1 ⟨v1, rfl, hl1, hb1⟩
    obtain ⟨A1, c1, hv1, hc1, hC1⟩ := hl1.reads
    rw [HLN.out] at hv1 hc1 hC1
    subst hv1
    have HL1 := Aside0.mk hl1
    have HB1 := Aside0.mk hb1
    have HC1 := Aside0.mk hC1
    have HC0 := Aside0.mk (Kd.C_below HC.out hb1)
    clear hl1 hb1 hC1 HL HC
    go_wp2_with fail
    refine (HN.out A1 c1 w1 HC1.out).mono ?_
    rintro e w2 ⟨v2, rfl, hR2, hb2⟩
    obtain ⟨A2, c2, rfl⟩ := Kd.R_slice hR2
    have HR2 := Aside0.mk hR2
    have HB2 := Aside0.mk hb2
    clear hR2 hb2
    go_wp2_with fail
    refine (HRN.out A c w2 (Kd.C_below HC0.out HB2.out) hc).mono ?_
    rintro e w3 ⟨v3, rfl, hR3, hb3⟩
    obtain ⟨A3, c3, rfl⟩ := Kd.R_slice hR3
    have HR3 := Aside0.mk hR3
    have HB3 := Aside0.mk hb3
    clear hR3 hb3
    go_wp2_with fail
    refine (HS.out A2 A3 c2 c3 w3 (Kd.C_below (Kd.R_reads' HR2.out).2.2 HB3.out) (Kd.R_reads' HR2.out).2.1 (Kd.R_reads' HR3.out).2.2 (Kd.R_reads' HR3.out).2.1).mono ?_
    rintro e w4 ⟨rfl, hb4⟩
    have HM4 := Aside0.mk (Kd.R_below (Kd.R_below HR2.out HB3.out) hb4)
    have HB4 := Aside0.mk ((HB2.out.trans (HB3.out.mono HB2.out.size)).trans (hb4.mono (HB2.out.trans (HB3.out.mono HB2.out.size)).size))
    clear HR2 HR3 HB2 HB3 hb4
    go_wp2_with fail
    refine (spoil_any m w4 w1.heap.size _ _ HM4.out).mono ?_
    rintro e w5 ⟨rfl, hb5⟩
    have HBB := Aside0.mk (HB4.out.trans hb5)
    clear HM4 HB4 hb5
    go_wp2_with fail
    refine (HKE.out _ _ _ A c (HL1.out.below HBB.out) (Kd.C_below HC0.out HBB.out) hc).mono ?_
    rintro e w' ⟨rfl, hb⟩
    have hbb := HBB.out.trans (hb.mono HBB.out.size)
    clear HBB hb
    have HBB := Aside0.mk hbb
    clear hbb
    go_wp2_with fail
    refine (works_call).mono ?_
    rintro e w' ⟨rfl, hb⟩
    have hbb := HBB.out.trans (hb.mono HBB.out.size)
    clear HBB hb
    have HBB := Aside0.mk hbb
    clear hbb
    go_wp2
    go_ret
    exact ⟨rfl, HB1.out.trans (HBB.out.mono HB1.out.size)⟩
  · have HW := Aside0.mk (works_call (w := w))
    generalize l.length = n at *
    clear hC
    go_enter Try.func6, Try.ntmps6
    go_wp2_with fail
    refine HW.out.mono ?_
    rintro e w1 ⟨rfl, hb⟩
    go_wp2
    go_ret
    exact ⟨rfl, hb⟩
end Go.Proofs.Ythblpnfkdkhcpaa.Pure
