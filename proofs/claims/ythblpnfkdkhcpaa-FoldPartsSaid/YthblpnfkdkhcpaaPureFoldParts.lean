/- FoldParts: for any two numbers: a number belongs to its own family; all members have the same family and the same smallest member; two numbers are in one family exactly if their smallest members are equal; no condition. -/
import Derived.Test.YthblpnfkdkhcpaaHFoldPartsx2
import Derived.Test.YthblpnfkdkhcpaaXFoldPure
namespace Go.Proofs.Ythblpnfkdkhcpaa.Pure
open Go.RowKit Go.Proofs.Ythblpnfkdkhcpaa.HFoldParts Go.Proofs.YthblpnfkdkhcpaaW.PrintWords Go.Proofs.YthblpnfkdkhcpaaW.PrintLast
open Go.Proofs.YthblpnfkdkhcpaaX

theorem wrap_in {x : Int} (h0 : -9223372036854775808 ≤ x) (h1 : x ≤ 9223372036854775807) : wrap64 x = x := by
  unfold wrap64
  omega
theorem sameInts_l (a b : List Int) (hl : a.length = b.length) (hn : a.length ≤ 4611686018427387904) (d : Nat) : ∀ (k i : Nat) (same : Bool), i ≤ a.length → a.length - i = d → d < k →
    burinbook_SameInts.l0 k a b same i = some (same && decide (a.drop i = b.drop i)) := by
  induction d with
  | zero =>
    intro k i same hi hd hk
    obtain ⟨k, rfl⟩ : ∃ m, k = m + 1 := ⟨k - 1, by omega⟩
    have e : i = a.length := by omega
    subst e
    simp only [burinbook_SameInts.l0]
    rw [List.drop_of_length_le (Nat.le_refl _), List.drop_of_length_le (by omega)]
    cases same with
    | true => rw [if_pos rfl, if_neg (by omega)]; simp
    | false => simp
  | succ d ih =>
    intro k i same hi hd hk
    obtain ⟨k, rfl⟩ : ∃ m, k = m + 1 := ⟨k - 1, by omega⟩
    simp only [burinbook_SameInts.l0]
    cases same with
    | false => simp
    | true =>
      have h1 : i < a.length := by omega
      have h2 : i < b.length := by omega
      rw [if_pos rfl, if_pos (by omega), if_pos (by omega), if_pos (by omega), wrap_in (x := (i : Int) + 1) (by omega) (by omega), show (i : Int) + 1 = ((i + 1 : Nat) : Int) by omega, ih k (i + 1) _ (by omega) (by omega) (by omega)]
      have ea : rd a (i : Int) = a[i] := by simp [rd, h1]
      have eb : rd b (i : Int) = b[i] := by simp [rd, h2]
      have ed : (a.drop i = b.drop i) ↔ (a[i] = b[i] ∧ a.drop (i + 1) = b.drop (i + 1)) := by
        conv => lhs; rw [List.drop_eq_getElem_cons h1, List.drop_eq_getElem_cons h2, List.cons.injEq]
      rw [ea, eb]
      by_cases h : a[i] = b[i]
      · rw [show (a[i] == b[i]) = true by simpa using h]
        by_cases h' : a.drop (i + 1) = b.drop (i + 1)
        · rw [decide_eq_true h', decide_eq_true (ed.2 ⟨h, h'⟩)]
        · rw [decide_eq_false h', decide_eq_false (fun z => h' (ed.1 z).2)]
      · rw [show (a[i] == b[i]) = false by simpa using h, decide_eq_false (fun z => h (ed.1 z).1), Bool.false_and, Bool.and_false]
theorem sameInts (a b : List Int) (hn : a.length ≤ 4611686018427387904) (k : Nat) (hk : a.length < k) : burinbook_SameInts.f k a b = some (decide (a = b)) := by
  unfold burinbook_SameInts.f
  by_cases hl : a.length = b.length
  · rw [show ((a.length : Int) == (b.length : Int)) = true by rw [hl]; simp]
    have := sameInts_l a b hl hn a.length k 0 true (Nat.zero_le _) (by omega) (by omega)
    simpa using this
  · obtain ⟨k, rfl⟩ : ∃ m, k = m + 1 := ⟨k - 1, by omega⟩
    rw [show ((a.length : Int) == (b.length : Int)) = false by simp; omega]
    simp only [burinbook_SameInts.l0]
    rw [if_neg (by simp), decide_eq_false (fun h => hl (by rw [h]))]
theorem fam75 : famF 75 = [75, 107, 8490] := by unfold famF; rw [merge_isort]; rfl
theorem fam107 : famF 107 = [75, 107, 8490] := by unfold famF; rw [merge_isort]; rfl
theorem fam8490 : famF 8490 = [75, 107, 8490] := by unfold famF; rw [merge_isort]; rfl
theorem works_ok : burinlaw03_works.f 5 = some true := by
  simp only [burinlaw03_works.f, fold_Family.f, fold_Next.f, nextF, fam75, fam107, fam8490]
  decide +kernel
theorem works_at (k : Nat) (hk : 5 ≤ k) : burinlaw03_works.f k = some true := by
  have mono : ∀ d, burinlaw03_works.f (5 + d) = some true := fun d => by
    induction d with
    | zero => exact works_ok
    | succ d ih => exact burinlaw03_works.mono _ _ ih
  have := mono (k - 5)
  rwa [show 5 + (k - 5) = k by omega] at this
theorem least_at (x : Int) (l : List Int) (h : famF x = l) (hp : 0 < l.length) : fold_Least.f x = some (rd l 0) := by
  unfold fold_Least.f fold_Family.f
  rw [h]
  simp only [Option.bind_some]
  rw [if_pos (by omega)]
theorem least_iff (a b : Int) : (rd (famF a) 0 = rd (famF b) 0) ↔ capF a = capF b := by
  constructor
  · intro h
    have ha := (famF_pos a).1
    have hb := (famF_pos b).1
    have ma : rd (famF a) 0 ∈ famF a := by
      rw [show rd (famF a) 0 = (famF a)[0] by simp [rd, ha]]; exact List.getElem_mem ha
    have mb : rd (famF b) 0 ∈ famF b := by
      rw [show rd (famF b) 0 = (famF b)[0] by simp [rd, hb]]; exact List.getElem_mem hb
    rw [← mem_fam.1 ma, ← mem_fam.1 mb, h]
  · intro h
    rw [fam_same h]
/-- The loop over the family: every member passes, and the number itself is met. -/
theorem parts_l (a b : Int) (l : List Int) (hp : 0 < l.length) (h10 : l.length ≤ 10) (hs : strict l = true) (hfam : ∀ x ∈ l, famF x = l) (hcap : ∀ x ∈ l, fold_Same.f a x = some true)
    (hend : ((fold_Same.f a b).bind fun t140 => ((fold_Least.f a).bind fun t141 => ((fold_Least.f b).bind fun t142 => (if (t140 == (t141 == t142)) = true then ((fold_Same.f a b).bind fun t143 => ((fold_Same.f b a).bind fun t144 => (some (t143 == t144)))) else (some false))))) = some true) (d : Nat) :
    ∀ (k i : Nat) (mine : Bool), i ≤ l.length → l.length - i = d → 2 * d + 12 < k → (mine = true ∨ a ∈ l.drop i) → burinlaw03_FoldParts.l0 k a b l mine l (l.length : Int) i = some true := by
  induction d with
  | zero =>
    intro k i mine hi hd hk hm
    obtain ⟨k, rfl⟩ : ∃ m, k = m + 1 := ⟨k - 1, by omega⟩
    have e : i = l.length := by omega
    subst e
    simp only [burinlaw03_FoldParts.l0]
    rw [if_neg (by omega)]
    have hm' : mine = true := by simpa using hm
    rw [hm', if_pos rfl]
    exact hend
  | succ d ih =>
    intro k i mine hi hd hk hm
    obtain ⟨k, rfl⟩ : ∃ m, k = m + 2 := ⟨k - 2, by omega⟩
    have hi' : i < l.length := by omega
    have hx : rd l (i : Int) = l[i] := by simp [rd, hi']
    have hmem : l[i] ∈ l := List.getElem_mem hi'
    have hnext : ∀ mine' : Bool, (mine' = true ∨ a ∈ l.drop (i + 1)) → burinlaw03_FoldParts.j1 (k + 1) a b l mine' i (l[i]) l (l.length : Int) i = some true := by
      intro mine' hm'
      have tail : ((fold_Family.f l[i]).bind fun t133 => ((burinbook_SameInts.f k t133 l).bind fun t136 => (if t136 = true then ((fold_Least.f l[i]).bind fun t137 => (if 0 < (l.length : Int) then (if t137 = (rd l 0) then ((fold_Same.f a l[i]).bind fun t139 => (if t139 = true then (burinlaw03_FoldParts.l0 k a b l mine' l (l.length : Int) (wrap64 ((i : Int) + 1))) else (some false))) else (some false)) else (none))) else (some false)))) = some true := by
        rw [show fold_Family.f l[i] = some l by unfold fold_Family.f; rw [hfam _ hmem]]
        simp only [Option.bind_some]
        rw [sameInts l l (by omega) k (by omega)]
        simp only [Option.bind_some, decide_true, if_true]
        rw [least_at l[i] l (hfam _ hmem) hp]
        simp only [Option.bind_some, if_true]
        rw [if_pos (by omega), hcap _ hmem]
        simp only [Option.bind_some, if_true]
        rw [wrap_in (x := (i : Int) + 1) (by omega) (by omega), show (i : Int) + 1 = ((i + 1 : Nat) : Int) by omega]
        exact ih k (i + 1) mine' (by omega) (by omega) (by omega) hm'
      simp only [burinlaw03_FoldParts.j1]
      by_cases h0 : (i : Int) > 0
      · rw [if_pos h0, wrap_in (x := (i : Int) - 1) (by omega) (by omega), if_pos (by omega), if_pos (by omega)]
        have hlt := strict_getD hs (i := i - 1) (j := i) (by omega) hi'
        have hx' : rd l ((i : Int) - 1) = l.getD (i - 1) 0 := by simp [rd]
        have hx2 : l[i] = l.getD i 0 := by simp [hi']
        rw [if_neg (by rw [hx', hx2]; omega)]
        exact tail
      · rw [if_neg h0]
        exact tail
    simp only [burinlaw03_FoldParts.l0]
    rw [if_pos (by omega), if_pos (by omega), if_pos (by omega), hx]
    cases mine with
    | true =>
      rw [if_pos rfl]
      exact hnext true (.inl rfl)
    | false =>
      rw [if_neg (by simp)]
      refine hnext _ ?_
      rcases hm with hm | hm
      · cases hm
      · rw [List.drop_eq_getElem_cons hi', List.mem_cons] at hm
        rcases hm with hm | hm
        · exact .inl (by rw [hm]; simp)
        · exact .inr hm

/-- The law. -/
theorem FoldParts : burinlaw03_FoldParts.Pure := by
  intro a b _ _
  have hf := fam_facts a
  have hfam : ∀ x ∈ famF a, famF x = famF a := fun x hx => fam_same (mem_fam.1 hx)
  have hcap : ∀ x ∈ famF a, fold_Same.f a x = some true := fun x hx => by
    unfold fold_Same.f fold_capital.f
    simp only [Option.bind_some]
    rw [mem_fam.1 hx]
    simp
  have hend : ((fold_Same.f a b).bind fun t140 => ((fold_Least.f a).bind fun t141 => ((fold_Least.f b).bind fun t142 => (if (t140 == (t141 == t142)) = true then ((fold_Same.f a b).bind fun t143 => ((fold_Same.f b a).bind fun t144 => (some (t143 == t144)))) else (some false))))) = some true := by
    rw [least_at a _ rfl (famF_pos a).1, least_at b _ rfl (famF_pos b).1]
    unfold fold_Same.f fold_capital.f
    simp only [Option.bind_some]
    have h := least_iff a b
    by_cases e : capF a = capF b
    · rw [h.2 e, e]; simp
    · have e' : ¬ rd (famF a) 0 = rd (famF b) 0 := fun z => e (h.1 z)
      have e1 : (capF a == capF b) = false := by simpa using e
      have e2 : (rd (famF a) 0 == rd (famF b) 0) = false := by simpa using e'
      have e3 : (capF b == capF a) = false := by simpa using fun z => e z.symm
      rw [e1, e2, e3]; simp
  have hfa : fold_Family.f a = some (famF a) := rfl
  have hpos := (famF_pos a).1
  obtain ⟨l, hl⟩ : ∃ l, famF a = l := ⟨_, rfl⟩
  rw [hl] at hf hfam hcap hfa hpos
  have hround := parts_l a b l hpos hf.1.1 hf.1.2 hfam hcap hend l.length (2 * l.length + 20) 0 false (by omega) (by omega) (by omega) (.inr (by simpa using hf.2.1))
  refine ⟨2 * l.length + 20, ?_⟩
  unfold burinlaw03_FoldParts.f
  rw [works_at _ (by omega), hfa]
  simp only [Option.bind_some, if_true]
  exact hround
end Go.Proofs.Ythblpnfkdkhcpaa.Pure
