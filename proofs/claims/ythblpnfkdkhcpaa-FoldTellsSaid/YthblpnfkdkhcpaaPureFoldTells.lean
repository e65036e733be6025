/- FoldTells: for any two numbers Family, Least, Next and Same agree with the reference; no condition. -/
import Derived.Test.YthblpnfkdkhcpaaHFoldTellsx3
import Derived.Test.YthblpnfkdkhcpaaXFoldPure
namespace Go.Proofs.Ythblpnfkdkhcpaa.Pure
open Go.RowKit Go.Proofs.Ythblpnfkdkhcpaa.HFoldTells Go.Proofs.YthblpnfkdkhcpaaW.PrintWords Go.Proofs.YthblpnfkdkhcpaaW.PrintLast
open Go.Proofs.YthblpnfkdkhcpaaX

theorem wrap_in {x : Int} (h0 : -9223372036854775808 ≤ x) (h1 : x ≤ 9223372036854775807) : wrap64 x = x := by
  unfold wrap64
  omega
theorem sameInts_l (a b : List Int) (hl : a.length = b.length) (hn : a.length ≤ 4611686018427387904) (d : Nat) : ∀ (k i : Nat) (same : Bool), i ≤ a.length → a.length - i = d → d < k →
    burinbook_SameInts.l0 k a b same i = some (same && decide (a.drop i = b.drop i)) := by
  induction d with
  | zero =>
    intro k i same hi hd hk
    obtain ⟨k, rfl⟩ : ∃ m, k = m + 1 := ⟨k - 1, by omega⟩
    have e : i = a.length := by omega
    subst e
    simp only [burinbook_SameInts.l0]
    rw [List.drop_of_length_le (Nat.le_refl _), List.drop_of_length_le (by omega)]
    cases same with
    | true => rw [if_pos rfl, if_neg (by omega)]; simp
    | false => simp
  | succ d ih =>
    intro k i same hi hd hk
    obtain ⟨k, rfl⟩ : ∃ m, k = m + 1 := ⟨k - 1, by omega⟩
    simp only [burinbook_SameInts.l0]
    cases same with
    | false => simp
    | true =>
      have h1 : i < a.length := by omega
      have h2 : i < b.length := by omega
      rw [if_pos rfl, if_pos (by omega), if_pos (by omega), if_pos (by omega), wrap_in (x := (i : Int) + 1) (by omega) (by omega), show (i : Int) + 1 = ((i + 1 : Nat) : Int) by omega, ih k (i + 1) _ (by omega) (by omega) (by omega)]
      have ea : rd a (i : Int) = a[i] := by simp [rd, h1]
      have eb : rd b (i : Int) = b[i] := by simp [rd, h2]
      have ed : (a.drop i = b.drop i) ↔ (a[i] = b[i] ∧ a.drop (i + 1) = b.drop (i + 1)) := by
        conv => lhs; rw [List.drop_eq_getElem_cons h1, List.drop_eq_getElem_cons h2, List.cons.injEq]
      rw [ea, eb]
      by_cases h : a[i] = b[i]
      · rw [show (a[i] == b[i]) = true by simpa using h]
        by_cases h' : a.drop (i + 1) = b.drop (i + 1)
        · rw [decide_eq_true h', decide_eq_true (ed.2 ⟨h, h'⟩)]
        · rw [decide_eq_false h', decide_eq_false (fun z => h' (ed.1 z).2)]
      · rw [show (a[i] == b[i]) = false by simpa using h, decide_eq_false (fun z => h (ed.1 z).1), Bool.false_and, Bool.and_false]
theorem sameInts (a b : List Int) (hn : a.length ≤ 4611686018427387904) (k : Nat) (hk : a.length < k) : burinbook_SameInts.f k a b = some (decide (a = b)) := by
  unfold burinbook_SameInts.f
  by_cases hl : a.length = b.length
  · rw [show ((a.length : Int) == (b.length : Int)) = true by rw [hl]; simp]
    have := sameInts_l a b hl hn a.length k 0 true (Nat.zero_le _) (by omega) (by omega)
    simpa using this
  · obtain ⟨k, rfl⟩ : ∃ m, k = m + 1 := ⟨k - 1, by omega⟩
    rw [show ((a.length : Int) == (b.length : Int)) = false by simp; omega]
    simp only [burinbook_SameInts.l0]
    rw [if_neg (by simp), decide_eq_false (fun h => hl (by rw [h]))]
theorem fam75 : famF 75 = [75, 107, 8490] := by unfold famF; rw [merge_isort]; rfl
theorem fam107 : famF 107 = [75, 107, 8490] := by unfold famF; rw [merge_isort]; rfl
theorem fam8490 : famF 8490 = [75, 107, 8490] := by unfold famF; rw [merge_isort]; rfl
theorem works_ok : burinlaw03_works.f 5 = some true := by
  simp only [burinlaw03_works.f, fold_Family.f, fold_Next.f, nextF, fam75, fam107, fam8490]
  decide +kernel
theorem works_at (k : Nat) (hk : 5 ≤ k) : burinlaw03_works.f k = some true := by
  have mono : ∀ d, burinlaw03_works.f (5 + d) = some true := fun d => by
    induction d with
    | zero => exact works_ok
    | succ d ih => exact burinlaw03_works.mono _ _ ih
  have := mono (k - 5)
  rwa [show 5 + (k - 5) = k by omega] at this
theorem joined_at (l : List Int) (x : Int) (hn : l.length ≤ 4611686018427387904) (d : Nat) : ∀ (k i : Nat), i ≤ l.length → l.length - i = d → d < k → burinref03_joined.l0 k l x i = some (decide (x ∈ l.drop i)) := by
  induction d with
  | zero =>
    intro k i hi hd hk
    obtain ⟨k, rfl⟩ : ∃ m, k = m + 1 := ⟨k - 1, by omega⟩
    have e : i = l.length := by omega
    subst e
    simp only [burinref03_joined.l0]
    rw [if_neg (by omega)]
    simp
  | succ d ih =>
    intro k i hi hd hk
    obtain ⟨k, rfl⟩ : ∃ m, k = m + 1 := ⟨k - 1, by omega⟩
    have h1 : i < l.length := by omega
    have ea : rd l (i : Int) = l[i] := by simp [rd, h1]
    have ed : (x ∈ l.drop i) ↔ (x = l[i] ∨ x ∈ l.drop (i + 1)) := by
      conv => lhs; rw [List.drop_eq_getElem_cons h1, List.mem_cons]
    simp only [burinref03_joined.l0]
    rw [if_pos (by omega), if_pos (by omega), ea]
    by_cases h : l[i] = x
    · rw [if_pos h, decide_eq_true (ed.2 (.inl h.symm))]
    · rw [if_neg h, wrap_in (x := (i : Int) + 1) (by omega) (by omega), show (i : Int) + 1 = ((i + 1 : Nat) : Int) by omega, ih k (i + 1) (by omega) (by omega) (by omega)]
      by_cases h' : x ∈ l.drop (i + 1)
      · rw [decide_eq_true h', decide_eq_true (ed.2 (.inr h'))]
      · rw [decide_eq_false h', decide_eq_false (fun z => (ed.1 z).elim (fun y => h y.symm) h')]
theorem joined_f (l : List Int) (x : Int) (hn : l.length ≤ 4611686018427387904) (k : Nat) (hk : l.length < k) : burinref03_joined.f k l x = some (decide (x ∈ l)) := by
  have := joined_at l x hn l.length k 0 (Nat.zero_le _) (by omega) (by omega)
  unfold burinref03_joined.f
  simpa using this
/-- A number put into a rising list, at its place. -/
def put (x : Int) : List Int → List Int
  | [] => [x]
  | y :: t => if y < x then y :: put x t else x :: y :: t
theorem put_cons (x y : Int) (t : List Int) : put x (y :: t) = if y < x then y :: put x t else x :: y :: t := rfl
def withL (l : List Int) (x : Int) : List Int := if x ∈ l then l else put x l
theorem put_len (x : Int) : ∀ l, (put x l).length = l.length + 1
  | [] => rfl
  | y :: t => by
    unfold put
    split
    · simp [put_len x t]
    · simp
theorem with_at (l : List Int) (x : Int) (hn : l.length ≤ 1000000) (d : Nat) : ∀ (k i : Nat), i ≤ l.length → l.length - i = d → d < k → burinref03_with.l0 k l x (l.take i) i = some (l.take i ++ put x (l.drop i)) := by
  induction d with
  | zero =>
    intro k i hi hd hk
    obtain ⟨k, rfl⟩ : ∃ m, k = m + 1 := ⟨k - 1, by omega⟩
    have e : i = l.length := by omega
    subst e
    simp only [burinref03_with.l0]
    rw [if_neg (by omega), if_pos (by rw [List.length_take]; omega)]
    simp only [Option.bind_some]
    rw [if_pos (by omega), if_pos (by omega), Int.toNat_natCast, if_pos (by simp; omega)]
    simp [put]
  | succ d ih =>
    intro k i hi hd hk
    obtain ⟨k, rfl⟩ : ∃ m, k = m + 1 := ⟨k - 1, by omega⟩
    have h1 : i < l.length := by omega
    have ea : rd l (i : Int) = l[i] := by simp [rd, h1]
    have ed : put x (l.drop i) = if l[i] < x then l[i] :: put x (l.drop (i + 1)) else x :: l.drop i := by
      conv => lhs; rw [List.drop_eq_getElem_cons h1, put_cons]
      rw [← List.drop_eq_getElem_cons h1]
    simp only [burinref03_with.l0]
    rw [if_pos (by omega), if_pos (by omega), ea, ed]
    by_cases h : l[i] < x
    · rw [if_pos h, if_pos h, if_pos (by rw [List.length_take]; omega), wrap_in (x := (i : Int) + 1) (by omega) (by omega), show (i : Int) + 1 = ((i + 1 : Nat) : Int) by omega]
      have et : l.take i ++ [l[i]] = l.take (i + 1) := by simp
      rw [et, ih k (i + 1) (by omega) (by omega) (by omega), ← et, List.append_assoc]
      rfl
    · rw [if_neg h, if_neg h, if_pos (by rw [List.length_take]; omega)]
      simp only [Option.bind_some]
      rw [if_pos (by omega), Int.toNat_natCast, if_pos (by simp; omega)]
      simp
theorem with_f (l : List Int) (x : Int) (hn : l.length ≤ 1000000) (k : Nat) (hk : l.length < k) : burinref03_with.f k l x = some (withL l x) := by
  unfold burinref03_with.f withL
  rw [joined_f l x (by omega) k hk]
  simp only [Option.bind_some]
  by_cases h : x ∈ l
  · rw [if_pos (by simpa using h), if_pos h]
  · rw [if_neg (by simpa using h), if_neg h]
    have := with_at l x hn l.length k 0 (Nat.zero_le _) (by omega) (by omega)
    simpa using this
theorem withL_len (l : List Int) (x : Int) : (withL l x).length ≤ l.length + 1 := by
  unfold withL
  split
  · omega
  · rw [put_len]; omega
def stepP (l : List Int) (p : S52) : List Int :=
  let l1 := if p.f0 ∈ l then withL l p.f1 else l
  if p.f1 ∈ l1 then withL l1 p.f0 else l1
theorem stepP_len (l : List Int) (p : S52) : (stepP l p).length ≤ l.length + 2 := by
  have h : ∀ (l : List Int) (a b : Int), (if a ∈ l then withL l b else l).length ≤ l.length + 1 := fun l a b => by
    split
    · exact withL_len l b
    · omega
  unfold stepP
  have h1 := h l p.f0 p.f1
  have h2 := h (if p.f0 ∈ l then withL l p.f1 else l) p.f1 p.f0
  exact Nat.le_trans h2 (by omega)
/-- One pass over all pairs. -/
theorem pass_at (ps : List S52) (hp : ps.length ≤ 1000) (n : Int) (r : List Int) (d : Nat) : ∀ (i : Nat) (l : List Int), i ≤ ps.length → ps.length - i = d → l.length + 2 * d ≤ 10000 →
    Ev (fun k => burinref03_Family.l0 k ((ps.drop i).foldl stepP l) ps n) r → Ev (fun k => burinref03_Family.l1 k l ps n i) r := by
  induction d with
  | zero =>
    intro i l hi hd hl h
    have e : i = ps.length := by omega
    subst e
    refine Ev.step (fun k => ?_) h
    simp only [burinref03_Family.l1]
    rw [if_neg (by omega)]
    simp
  | succ d ih =>
    intro i l hi hd hl h
    have h1 : i < ps.length := by omega
    have ea : rd_T52 ps (i : Int) = ps[i] := by simp [rd_T52, h1]
    rw [List.drop_eq_getElem_cons h1, List.foldl_cons] at h
    have hs := stepP_len l ps[i]
    obtain ⟨K, hK⟩ := ih (i + 1) (stepP l ps[i]) (by omega) (by omega) (by omega) h
    refine ⟨K + 20003, fun k hk => ?_⟩
    obtain ⟨k, rfl⟩ : ∃ m, k = m + 2 := ⟨k - 2, by omega⟩
    have hl1 : ∀ (l1 : List Int), l1 = (if ps[i].f0 ∈ l then withL l ps[i].f1 else l) → burinref03_Family.j2 (k + 1) l1 ps n i = some r := by
      intro l1 e1
      have hlen : l1.length ≤ l.length + 1 := by
        rw [e1]
        split
        · exact withL_len _ _
        · omega
      have hgo := hK k (by omega)
      have es : stepP l ps[i] = if ps[i].f1 ∈ l1 then withL l1 ps[i].f0 else l1 := by rw [e1]; rfl
      simp only [burinref03_Family.j2]
      rw [if_pos (by omega), if_pos (by omega), ea, joined_f l1 _ (by omega) k (by omega)]
      simp only [Option.bind_some]
      rw [wrap_in (x := (i : Int) + 1) (by omega) (by omega), show (i : Int) + 1 = ((i + 1 : Nat) : Int) by omega]
      by_cases hb : ps[i].f1 ∈ l1
      · rw [if_pos (by simpa using hb), with_f l1 _ (by omega) k (by omega)]
        simp only [Option.bind_some]
        rw [if_pos hb] at es
        rw [← es]
        exact hgo
      · rw [if_neg (by simpa using hb)]
        rw [if_neg hb] at es
        rw [← es]
        exact hgo
    simp only [burinref03_Family.l1]
    rw [if_pos (by omega), if_pos (by omega), ea, joined_f l _ (by omega) (k + 1) (by omega)]
    simp only [Option.bind_some]
    by_cases ha : ps[i].f0 ∈ l
    · rw [if_pos (by simpa using ha), with_f l _ (by omega) (k + 1) (by omega)]
      simp only [Option.bind_some]
      exact hl1 _ (by rw [if_pos ha])
    · rw [if_neg (by simpa using ha)]
      exact hl1 _ (by rw [if_neg ha])
theorem go_on (ps : List S52) (hp : ps.length ≤ 1000) (l r : List Int) (n : Int) (hn : n < l.length) (hl : l.length ≤ 1000) (h : Ev (fun k => burinref03_Family.l0 k (ps.foldl stepP l) ps (l.length : Int)) r) : Ev (fun k => burinref03_Family.l0 k l ps n) r := by
  refine Ev.step (fun k => ?_) (pass_at ps hp (l.length : Int) r ps.length 0 l (Nat.zero_le _) (by omega) (by omega) (by simpa using h))
  simp only [burinref03_Family.l0]
  rw [if_pos hn]
  rfl
theorem stop (ps : List S52) (l : List Int) (n : Int) (hn : ¬ n < l.length) : Ev (fun k => burinref03_Family.l0 k l ps n) l := by
  refine Ev.step (fun k => ?_) (Ev.now l)
  simp only [burinref03_Family.l0]
  rw [if_neg hn]
def spanL (lo hi up : Int) : List S52 := (List.range (hi - lo + 1).toNat).map fun (i : Nat) => ⟨lo + (i : Int), lo + (i : Int) + up⟩
def pairsL : List S52 := spanL 65 90 32 ++ spanL 192 214 32 ++ spanL 216 222 32 ++ spanL 913 929 32 ++ spanL 931 939 32 ++ spanL 1040 1071 32 ++ spanL 1024 1039 80 ++ [⟨376, 255⟩, ⟨924, 181⟩, ⟨931, 962⟩, ⟨75, 8490⟩, ⟨197, 8491⟩, ⟨83, 383⟩, ⟨937, 8486⟩]
theorem pairs_f : burinref03_Pairs.f 40 = some pairsL := by kernel_rfl
/-- Passes, till nothing more comes; at most five. -/
def fam5 (r : Int) : Bool :=
  let l1 := pairsL.foldl stepP [r]
  let l2 := pairsL.foldl stepP l1
  let l3 := pairsL.foldl stepP l2
  (decide (l1.length ≤ 100) && decide (l2.length ≤ 100)) &&
  ((decide (l1.length ≤ 1) && decide (l1 = isort (fam0 (capF r)))) || (decide (1 < l1.length) && ((decide (l2.length ≤ l1.length) && decide (l2 = isort (fam0 (capF r)))) || (decide (l1.length < l2.length) && decide (l3.length ≤ l2.length) && decide (l3 = isort (fam0 (capF r)))))))
theorem fam5_ok (r : Int) (h : fam5 r = true) : Ev (fun k => burinref03_Family.l0 k [r] pairsL 0) (famF r) := by
  have hp : pairsL.length ≤ 1000 := by decide +kernel
  have hf : famF r = isort (fam0 (capF r)) := by unfold famF; rw [merge_isort]
  rw [hf]
  unfold fam5 at h
  generalize isort (fam0 (capF r)) = F at h ⊢
  simp only [Bool.and_eq_true, Bool.or_eq_true, decide_eq_true_eq] at h
  obtain ⟨⟨h1, h2⟩, h⟩ := h
  refine go_on pairsL hp [r] F 0 (by simp) (by simp) ?_
  generalize pairsL.foldl stepP [r] = l1 at h1 h2 h ⊢
  rcases h with ⟨ha, hb⟩ | ⟨ha, h⟩
  · rw [← hb]
    exact stop pairsL l1 _ (by simp; omega)
  · refine go_on pairsL hp l1 F _ (by simp; omega) (by omega) ?_
    generalize pairsL.foldl stepP l1 = l2 at h2 h ⊢
    rcases h with ⟨hb, hc⟩ | ⟨⟨hb, hc⟩, hd⟩
    · rw [← hc]
      exact stop pairsL l2 _ (by omega)
    · refine go_on pairsL hp l2 F _ (by omega) (by omega) ?_
      generalize pairsL.foldl stepP l2 = l3 at hc hd ⊢
      rw [← hd]
      exact stop pairsL l3 _ (by omega)
theorem fam5_blocks : (blocksL.all fun b => (List.range (b.2.1 - b.1 + 1).toNat).all fun (i : Nat) => fam5 (b.1 + (i : Int)) && fam5 (b.1 + b.2.2 + (i : Int))) = true := by decide +kernel
theorem fam5_others : (othersL.all fun o => fam5 o.1 && fam5 o.2) = true := by decide +kernel
theorem pairs_in : (pairsL.all fun p => (inBlocks p.f0 || inOthers p.f0) && (inBlocks p.f1 || inOthers p.f1)) = true := by decide +kernel
theorem pass_out (r : Int) : ∀ (ps : List S52), (∀ p ∈ ps, ¬ p.f0 = r ∧ ¬ p.f1 = r) → ps.foldl stepP [r] = [r]
  | [], _ => rfl
  | p :: ps, h => by
    have hp := h p (by simp)
    have hs : stepP [r] p = [r] := by
      simp only [stepP, List.mem_singleton, hp.1, hp.2, if_false]
    rw [List.foldl_cons, hs]
    exact pass_out r ps (fun q hq => h q (by simp [hq]))
/-- The reference's family is the program's. -/
theorem fam_loops (r : Int) : Ev (fun k => burinref03_Family.l0 k [r] pairsL 0) (famF r) := by
  by_cases h : inBlocks r = true ∨ inOthers r = true
  · refine fam5_ok r ?_
    rcases h with h | h
    · unfold inBlocks at h
      rw [List.any_eq_true] at h
      obtain ⟨b, hb, h⟩ := h
      have h2 := fam5_blocks
      rw [List.all_eq_true] at h2
      have h3 := h2 b hb
      rw [List.all_eq_true] at h3
      simp only [Bool.or_eq_true, Bool.and_eq_true, decide_eq_true_eq] at h
      rcases h with h | h
      · have h4 := h3 (r - b.1).toNat (by rw [List.mem_range]; omega)
        rw [Bool.and_eq_true, show b.1 + ((r - b.1).toNat : Int) = r from by omega] at h4
        exact h4.1
      · have h4 := h3 (r - b.1 - b.2.2).toNat (by rw [List.mem_range]; omega)
        rw [Bool.and_eq_true, show b.1 + b.2.2 + ((r - b.1 - b.2.2).toNat : Int) = r from by omega] at h4
        exact h4.2
    · unfold inOthers at h
      rw [List.any_eq_true] at h
      obtain ⟨o, ho, h⟩ := h
      have h2 := fam5_others
      rw [List.all_eq_true] at h2
      have h3 := h2 o ho
      simp only [Bool.or_eq_true, Bool.and_eq_true, decide_eq_true_eq] at h h3
      rcases h with rfl | rfl
      · exact h3.1
      · exact h3.2
  · have hfam : famF r = [r] := by
      rcases (fam_facts r).2.2.2 with h1 | h1 | h1
      · exact absurd (.inl h1) h
      · exact absurd (.inr h1) h
      · exact h1
    have hout : pairsL.foldl stepP [r] = [r] := by
      refine pass_out r pairsL (fun p hp => ?_)
      have h2 := pairs_in
      rw [List.all_eq_true] at h2
      have h3 := h2 p hp
      simp only [Bool.or_eq_true, Bool.and_eq_true] at h3
      exact ⟨fun e => h (by rw [← e]; exact h3.1), fun e => h (by rw [← e]; exact h3.2)⟩
    rw [hfam]
    refine go_on pairsL (by decide +kernel) [r] [r] 0 (by simp) (by simp) ?_
    rw [hout]
    exact stop pairsL [r] _ (by simp)
theorem ref_fam (r : Int) : Ev (fun k => burinref03_Family.f k r) (famF r) := by
  unfold burinref03_Family.f
  exact Ev.bind (Ev.of (fun k => burinref03_Pairs.mono k) pairs_f) (fam_loops r)
theorem ref_next_l (r : Int) (l : List Int) (hp : 0 < l.length) (hn : l.length ≤ 1000) (d : Nat) : ∀ (k i : Nat), i ≤ l.length → l.length - i = d → d < k → (∀ j, j < i → l.getD j 0 ≤ r) → burinref03_Next.l0 k r l i = some (nextL l r) := by
  induction d with
  | zero =>
    intro k i hi hd hk hj
    obtain ⟨k, rfl⟩ : ∃ m, k = m + 1 := ⟨k - 1, by omega⟩
    have e : i = l.length := by omega
    subst e
    simp only [burinref03_Next.l0]
    rw [if_neg (by omega), if_pos (by omega), next_miss l r hj]
    simp [rd]
  | succ d ih =>
    intro k i hi hd hk hj
    obtain ⟨k, rfl⟩ : ∃ m, k = m + 1 := ⟨k - 1, by omega⟩
    have h1 : i < l.length := by omega
    have ea : rd l (i : Int) = l.getD i 0 := by simp [rd]
    simp only [burinref03_Next.l0]
    rw [if_pos (by omega), if_pos (by omega), ea]
    by_cases h : l.getD i 0 > r
    · rw [if_pos h, next_hit l r i h1 hj h]
    · rw [if_neg h, wrap_in (x := (i : Int) + 1) (by omega) (by omega), show (i : Int) + 1 = ((i + 1 : Nat) : Int) by omega]
      exact ih k (i + 1) (by omega) (by omega) (by omega) (fun j hj' => by
        by_cases e : j = i
        · rw [e]; omega
        · exact hj j (by omega))
theorem ref_next (r : Int) : Ev (fun k => burinref03_Next.f k r) (nextF r) := by
  unfold burinref03_Next.f nextF
  have hl := famF_pos r
  have hf := ref_fam r
  generalize famF r = l at hl hf ⊢
  exact Ev.bind hf ⟨l.length + 1, fun k hk => ref_next_l r l hl.1 (by omega) l.length k 0 (Nat.zero_le _) (by omega) (by omega) (fun j hj => by omega)⟩
theorem tells_end (a b : Int) : Ev (fun k => (burinbook_SameInts.f k (famF a) (famF a)).bind fun t216 => (if t216 = true then (if ((famF a).length : Int) > 0 then ((fold_Least.f a).bind fun t217 => (if 0 < ((famF a).length : Int) then (if t217 = (rd (famF a) 0) then ((fold_Next.f a).bind fun t219 => ((burinref03_Next.f k a).bind fun t220 => (if t219 = t220 then ((fold_Same.f a b).bind fun t221 => (if (t221 == decide (b ∈ famF a)) = true then ((burinlaw03_works.f k).bind fun t222 => (some t222)) else (some false))) else (some false)))) else (some false)) else (none))) else (some false)) else (some false))) true := by
  obtain ⟨K, hK⟩ := ref_next a
  have hl := famF_pos a
  have hm := mem_fam (r := a) (x := b)
  refine ⟨K + (famF a).length + 10, fun k hk => ?_⟩
  have hfa : fold_Family.f a = some (famF a) := rfl
  have hn : fold_Next.f a = some (nextF a) := rfl
  have hs : fold_Same.f a b = some (decide (b ∈ famF a)) := by
    unfold fold_Same.f fold_capital.f
    simp only [Option.bind_some]
    by_cases e : capF b = capF a
    · rw [decide_eq_true (hm.2 e), e]; simp
    · rw [decide_eq_false (fun z => e (hm.1 z)), show (capF a == capF b) = false by simpa using fun z => e z.symm]
  have hle : fold_Least.f a = some (rd (famF a) 0) := by
    unfold fold_Least.f
    rw [hfa]
    simp only [Option.bind_some]
    rw [if_pos (by omega)]
  have hK' : burinref03_Next.f k a = some (nextF a) := hK k (by omega)
  dsimp only
  rw [sameInts _ _ (by omega) k (by omega), hle, hn, hs, hK', works_at k (by omega)]
  simp only [Option.bind_some, decide_true, if_true]
  rw [if_pos (by omega), if_pos (by omega)]
  simp
theorem tells_l (a b : Int) (l : List Int) (hn : l.length ≤ 1000) (hend : Ev (fun k => (burinbook_SameInts.f k l l).bind fun t216 => (if t216 = true then (if (l.length : Int) > 0 then ((fold_Least.f a).bind fun t217 => (if 0 < (l.length : Int) then (if t217 = (rd l 0) then ((fold_Next.f a).bind fun t219 => ((burinref03_Next.f k a).bind fun t220 => (if t219 = t220 then ((fold_Same.f a b).bind fun t221 => (if (t221 == decide (b ∈ l)) = true then ((burinlaw03_works.f k).bind fun t222 => (some t222)) else (some false))) else (some false)))) else (some false)) else (none))) else (some false)) else (some false))) true) (d : Nat) :
    ∀ (i : Nat) (same : Bool), i ≤ l.length → l.length - i = d → ((same || decide (b ∈ l.drop i)) = decide (b ∈ l)) → Ev (fun k => burinlaw03_FoldTells.l0 k a b l l same i) true := by
  induction d with
  | zero =>
    intro i same hi hd hs
    have e : i = l.length := by omega
    subst e
    have hs' : same = decide (b ∈ l) := by simpa using hs
    subst hs'
    refine Ev.step (fun k => ?_) hend
    simp only [burinlaw03_FoldTells.l0]
    rw [if_neg (by omega)]
  | succ d ih =>
    intro i same hi hd hs
    have h1 : i < l.length := by omega
    have ea : rd l (i : Int) = l[i] := by simp [rd, h1]
    have ed : (b ∈ l.drop i) ↔ (b = l[i] ∨ b ∈ l.drop (i + 1)) := by
      conv => lhs; rw [List.drop_eq_getElem_cons h1, List.mem_cons]
    have hw : wrap64 ((i : Int) + 1) = ((i + 1 : Nat) : Int) := (wrap_in (x := (i : Int) + 1) (by omega) (by omega)).trans (by omega)
    cases same with
    | true =>
      refine Ev.step (fun k => ?_) (ih (i + 1) true (by omega) (by omega) (by simpa using hs))
      simp only [burinlaw03_FoldTells.l0]
      rw [if_pos (Int.ofNat_lt.2 h1), if_pos trivial, hw]
    | false =>
      refine Ev.step (fun k => ?_) (ih (i + 1) (l[i] == b) (by omega) (by omega) ?_)
      · simp only [burinlaw03_FoldTells.l0]
        rw [if_pos (Int.ofNat_lt.2 h1), if_neg (by simp), if_pos (Int.natCast_nonneg i), hw, ea]
      · rw [← hs, Bool.false_or]
        by_cases e : l[i] = b
        · rw [decide_eq_true (ed.2 (.inl e.symm)), e]; simp
        · rw [show (l[i] == b) = false by simpa using e, Bool.false_or]
          by_cases h' : b ∈ l.drop (i + 1)
          · rw [decide_eq_true h', decide_eq_true (ed.2 (.inr h'))]
          · rw [decide_eq_false h', decide_eq_false (fun z => (ed.1 z).elim (fun y => e y.symm) h')]

/-- The law. -/
theorem FoldTells : burinlaw03_FoldTells.Pure := by
  intro a b _ _
  refine Ev.rounds ?_
  unfold burinlaw03_FoldTells.f
  have hfa : fold_Family.f a = some (famF a) := rfl
  have hl := famF_pos a
  rw [hfa]
  simp only [Option.bind_some]
  have hend := tells_end a b
  have href := ref_fam a
  generalize famF a = l at hl hend href ⊢
  exact Ev.bind href (tells_l a b l (by omega) hend l.length 0 false (Nat.zero_le _) (by omega) (by simp))
end Go.Proofs.Ythblpnfkdkhcpaa.Pure
