/- FoldRounds: for every number, going from next to next leads through each member of its family once and back; no condition. -/
import Derived.Test.YthblpnfkdkhcpaaHFoldRoundsx1
import Derived.Test.YthblpnfkdkhcpaaXFoldPure
namespace Go.Proofs.Ythblpnfkdkhcpaa.Pure
open Go.RowKit Go.Proofs.Ythblpnfkdkhcpaa.HFoldRounds Go.Proofs.YthblpnfkdkhcpaaW.PrintWords Go.Proofs.YthblpnfkdkhcpaaW.PrintLast
open Go.Proofs.YthblpnfkdkhcpaaX

theorem fam75 : famF 75 = [75, 107, 8490] := by unfold famF; rw [merge_isort]; rfl
theorem fam107 : famF 107 = [75, 107, 8490] := by unfold famF; rw [merge_isort]; rfl
theorem fam8490 : famF 8490 = [75, 107, 8490] := by unfold famF; rw [merge_isort]; rfl
theorem wrap_in {x : Int} (h0 : -9223372036854775808 ≤ x) (h1 : x ≤ 9223372036854775807) : wrap64 x = x := by
  unfold wrap64
  omega
theorem works_ok : burinlaw03_works.f 5 = some true := by
  simp only [burinlaw03_works.f, fold_Family.f, fold_Next.f, nextF, fam75, fam107, fam8490]
  decide +kernel
theorem next_at (r : Int) (q : Nat) (hq : q < (famF r).length) : nextF ((famF r).getD q 0) = (famF r).getD ((q + 1) % (famF r).length) 0 := by
  have hs := (fam_facts r).1.2
  have hm : (famF r).getD q 0 ∈ famF r := by
    rw [List.getD_eq_getElem?_getD, List.getElem?_eq_getElem hq]; exact List.getElem_mem hq
  have e : famF ((famF r).getD q 0) = famF r := fam_same (mem_fam.1 hm)
  unfold nextF
  rw [e]
  generalize famF r = l at hs hq ⊢
  by_cases h : q + 1 < l.length
  · rw [Nat.mod_eq_of_lt h]
    exact next_hit l _ (q + 1) h (fun j hj => by
      by_cases e : j = q
      · rw [e]; exact Int.le_refl _
      · exact Int.le_of_lt (strict_getD hs (by omega) hq)) (strict_getD hs (by omega) h)
  · rw [show q + 1 = l.length by omega, Nat.mod_self]
    exact next_miss l _ (fun j hj => by
      by_cases e : j = q
      · rw [e]; exact Int.le_refl _
      · exact Int.le_of_lt (strict_getD hs (by omega) hq))
theorem rounds (r : Int) (l : List Int) (p : Nat) (hp : p < l.length) (hr : l.getD p 0 = r) (hle : l.length ≤ 10) (hnext : ∀ q, q < l.length → nextF (l.getD q 0) = l.getD ((q + 1) % l.length) 0) (hcap : ∀ x ∈ l, capF x = capF r) (d : Nat) :
    ∀ (k i : Nat) (n : Int), i ≤ l.length → l.length - i = d → d < k → 0 ≤ n → n ≤ i → (i = l.length → 1 ≤ n) →
      burinlaw03_FoldRounds.l0 k r l (l.getD ((p + i) % l.length) 0) n i = some true := by
  induction d with
  | zero =>
    intro k i n hi hd hk h0 h1 h2
    obtain ⟨k, rfl⟩ : ∃ m, k = m + 1 := ⟨k - 1, by omega⟩
    have hi' : i = l.length := by omega
    have h3 := h2 hi'
    subst hi'
    simp only [burinlaw03_FoldRounds.l0]
    rw [if_neg (by omega), Nat.add_mod_right, Nat.mod_eq_of_lt hp, if_pos hr]
    simp; omega
  | succ d ih =>
    intro k i n hi hd hk h0 h1 h2
    obtain ⟨k, rfl⟩ : ∃ m, k = m + 1 := ⟨k - 1, by omega⟩
    have hpos : 0 < l.length := by omega
    have hq := Nat.mod_lt (p + i) hpos
    have e1 : ((p + i) % l.length + 1) % l.length = (p + (i + 1)) % l.length := by rw [Nat.mod_add_mod]; rfl
    have hq2 := Nat.mod_lt (p + (i + 1)) hpos
    have hmem : l.getD ((p + (i + 1)) % l.length) 0 ∈ l := by
      rw [List.getD_eq_getElem?_getD, List.getElem?_eq_getElem hq2]; exact List.getElem_mem hq2
    have hc0 : (capF r == capF (l.getD ((p + (i + 1)) % l.length) 0)) = true := by rw [hcap _ hmem]; exact beq_self_eq_true _
    simp only [burinlaw03_FoldRounds.l0]
    rw [if_pos (by omega)]
    simp only [fold_Next.f, fold_Same.f, fold_capital.f, Option.bind_some]
    rw [hnext _ hq, e1, hc0, if_pos rfl, wrap_in (x := (i : Int) + 1) (by omega) (by omega), wrap_in (x := n + 1) (by omega) (by omega), show (i : Int) + 1 = ((i + 1 : Nat) : Int) by omega]
    by_cases hc : l.getD ((p + (i + 1)) % l.length) 0 ≤ r
    · rw [if_pos hc]
      exact ih k (i + 1) (n + 1) (by omega) (by omega) (by omega) (by omega) (by omega) (fun _ => by omega)
    · rw [if_neg hc]
      refine ih k (i + 1) n (by omega) (by omega) (by omega) (by omega) (by omega) (fun h => ?_)
      rw [h, Nat.add_mod_right, Nat.mod_eq_of_lt hp, hr] at hc
      omega

/-- The law. -/
theorem FoldRounds : burinlaw03_FoldRounds.Pure := by
  intro r hw
  have hm := (fam_facts r).2.1
  have h10 := (fam_facts r).1.1
  have hnext := next_at r
  have hcap := (fam_facts r).2.2.1
  have hfam : fold_Family.f r = some (famF r) := rfl
  generalize famF r = l at hm h10 hnext hcap hfam
  obtain ⟨p, hp, hr⟩ := List.mem_iff_getElem.1 hm
  have hr' : l.getD p 0 = r := by rw [List.getD_eq_getElem?_getD, List.getElem?_eq_getElem hp]; exact hr
  have hround := rounds r l p hp hr' h10 hnext hcap l.length (l.length + 6) 0 0 (by omega) (by omega) (by omega) (by omega) (by omega) (fun h => by omega)
  rw [show p + 0 = p from rfl, Nat.mod_eq_of_lt hp, hr'] at hround
  refine ⟨l.length + 7, ?_⟩
  have hwk : burinlaw03_works.f (l.length + 7) = some true := by
    have mono : ∀ d, burinlaw03_works.f (5 + d) = some true := fun d => by
      induction d with
      | zero => exact works_ok
      | succ d ih => exact burinlaw03_works.mono _ _ ih
    have := mono (l.length + 2)
    rwa [show 5 + (l.length + 2) = l.length + 7 by omega] at this
  unfold burinlaw03_FoldRounds.f
  rw [hwk, hfam]
  simp only [Option.bind_some, if_true]
  rw [if_neg (by omega)]
  simp only [burinlaw03_FoldRounds.j0]
  rw [if_neg (by simp; omega)]
  exact hround
end Go.Proofs.Ythblpnfkdkhcpaa.Pure
