/- VerifyChecks, the reference in plain words; no condition. -/
import Derived.Test.YtepjoiclfoopeaaHVerifyChecksx5
import Derived.Test.YtepjoiclfoopeaaHVerifyChecksx6
import Derived.Test.YtepjoiclfoopeaaHVerifyChecksx7
import Derived.Test.YtepjoiclfoopeaaHVerifyChecksx8
import Derived.Test.YtepjoiclfoopeaaHVerifyChecksx9
import Derived.Test.YtepjoiclfoopeaaXVerifyMeths
namespace Go.Proofs.Ytepjoiclfoopeaa.Pure
open Go.RowKit Go.Proofs.Ytepjoiclfoopeaa.HVerifyChecks Go.Proofs.YtepjoiclfoopeaaW.PrintWords Go.Proofs.YtepjoiclfoopeaaW.PrintLast
open Go.Proofs.YtepjoiclfoopeaaX
set_option linter.unusedVariables false
set_option linter.unusedSimpArgs false
theorem back_in (l : List S33) : (l.map inOf).map (fun x : I5 => (⟨x.1, x.2.1, x.2.2.1, x.2.2.2.1, x.2.2.2.2⟩ : S33)) = l := by
  rw [List.map_map]
  exact List.map_id'' (fun x => rfl) l
def toIn (x : I5) : S33 := ⟨x.1, x.2.1, x.2.2.1, x.2.2.2.1, x.2.2.2.2⟩
theorem forth_in (l : List I5) : (l.map toIn).map inOf = l := by
  rw [List.map_map]
  exact List.map_id'' (fun x => rfl) l
theorem toCI {A : Option Addr} {l : List I5} {w : World} (h : Kd.C kIn w A l.length l) : Kd.C k33 w A (l.map toIn).length (l.map toIn) := by
  rw [List.length_map]
  exact (C_iso (d := kIn) (f := inOf)).2 (by rw [forth_in]; exact h)
theorem check_f (k : Nat) (l : List S33) (a b : Int) : prog_Check.f (k + 1) l a b = some (checkC (l.map inOf) a b) := by
  unfold prog_Check.f checkC
  rw [List.length_map]
  have hj : ∀ q : Bool, q = true → prog_Check.j0 (k + 1) q l a b = some 130 := by
    intro q hq
    simp only [prog_Check.j0]
    rw [if_pos hq]
  by_cases h1 : (l.length : Int) < 1
  · rw [if_pos h1, hj _ rfl, if_neg (by omega)]
  · by_cases h2 : (l.length : Int) > 4000
    · rw [if_neg h1, if_pos h2, hj _ rfl, if_neg (by omega)]
    · rw [if_neg h1, if_neg h2, place_f]
      simp only [Option.bind_some]
      by_cases h3 : 0 ≤ a ∧ a < 4000
      · rw [decide_eq_true h3, if_pos rfl]
        by_cases h4 : b < 0
        · rw [if_pos h4, hj _ rfl, if_neg (by omega)]
        · rw [if_neg h4]
          by_cases h5 : b > 64
          · rw [hj _ (decide_eq_true h5), if_neg (by omega)]
          · rw [decide_eq_false h5]
            simp only [prog_Check.j0]
            rw [if_neg (by decide), show ext_badInsts.f l () = some ((l.map ofIn).any fun x => !fitsB x) by unfold ext_badInsts.f; rw [if_pos (by omega)]]
            simp only [Option.bind_some]
            have e : (l.map ofIn).any (fun x => !fitsB x) = !((l.map inOf).all fitsB) := by
              rw [List.all_eq_not_any_not]
              simp
            rw [e]
            cases h6 : (l.map inOf).all fitsB
            · rw [Bool.not_false, if_pos rfl, if_neg (by simp)]
            · rw [Bool.not_true, if_neg (by decide), if_pos ⟨by omega, by omega, h3, by omega, by omega, rfl⟩]
      · rw [decide_eq_false h3, if_neg (by decide), hj _ rfl, if_neg (fun g => h3 g.2.2.1)]
theorem checkC_ok {l : List I5} {a b : Int} (h : checkC l a b = 0) : 1 ≤ l.length ∧ l.length ≤ 4000 ∧ (0 ≤ a ∧ a < 4000) ∧ 0 ≤ b ∧ b ≤ 64 ∧ l.all fitsB = true := by
  unfold checkC at h
  split at h
  · assumption
  · omega
theorem fits_xy {x : I5} (h : fitsB x = true) : (0 ≤ x.2.2.2.1 ∧ x.2.2.2.1 < 4000) ∧ (0 ≤ x.2.2.2.2 ∧ x.2.2.2.2 < 4000) := by
  unfold fitsB at h
  simp only [Bool.and_eq_true, decide_eq_true_eq] at h
  exact ⟨h.2.2.1, h.2.2.2.1⟩
theorem led_ok {l : List I5} {a b : Int} (h : checkC l a b = 0) (ht : targetsB l a = true) : ledB l = true := by
  rw [ledB_iff]
  intro x hx t htx
  have hf := List.all_eq_true.1 (checkC_ok h).2.2.2.2.2 x hx
  have hxy := fits_xy hf
  unfold targetsB at ht
  simp only [Bool.and_eq_true, Bool.not_eq_true'] at ht
  have hp : pastB l.length x = false := by
    rw [Bool.eq_false_iff]
    intro g
    rw [List.any_eq_true.2 ⟨x, hx, g⟩] at ht
    exact absurd ht.2 (by decide)
  have hlt : t < l.length := by
    unfold pastB at hp
    rw [Bool.eq_false_iff] at hp
    by_cases g : t < l.length
    · exact g
    · exact absurd (List.any_eq_true.2 ⟨t, htx, decide_eq_true (by omega)⟩) hp
  refine ⟨?_, hlt⟩
  unfold leadsV at htx
  repeat' split at htx
  all_goals simp at htx
  all_goals omega
theorem look_f (k : Nat) (l : List S33) (a b : Int) : verify_look.f (k + 1) l a b = some (lookC (l.map inOf) a b) := by
  unfold verify_look.f lookC
  rw [check_f]
  simp only [Option.bind_some]
  by_cases h0 : checkC (l.map inOf) a b = 0
  · have hk := checkC_ok h0
    rw [List.length_map] at hk
    rw [if_pos h0, if_neg (fun g => g h0), show verify_targets.f l a b = some (targetsB (l.map inOf) a) by unfold verify_targets.f; rw [if_pos (by omega)]]
    simp only [Option.bind_some]
    cases ht : targetsB (l.map inOf) a with
    | false => rw [if_neg (by decide), if_pos rfl]
    | true =>
      rw [if_pos rfl, if_neg (by decide), show verify_slots.f l a b = some (slotsB (l.map inOf) b) by unfold verify_slots.f; rw [if_pos (by omega)]]
      simp only [Option.bind_some]
      cases hs : slotsB (l.map inOf) b with
      | false => rw [if_neg (by decide), if_pos rfl]
      | true =>
        rw [if_pos rfl, if_neg (by decide), show verify_ordered.f l a b = some ((ordL (l.map inOf)).getD [], (ordL (l.map inOf)).isSome) by unfold verify_ordered.f; rw [if_pos ⟨by omega, by omega, led_ok h0 ht⟩]]
        simp only [Option.bind_some]
        cases ordL (l.map inOf) with
        | none => rw [if_neg (by simp)]
        | some o => rw [if_pos (by simp)]; rfl
  · rw [if_neg h0, if_pos h0]
    have : checkC (l.map inOf) a b = 130 := by
      unfold checkC at h0 ⊢
      split
      · rename_i g; rw [if_pos g] at h0; exact absurd rfl h0
      · rfl
    rw [this]
theorem lookAt : LookAt := by
  intro A c l a b w hC hc
  have := verify_look.calls 1 A c (l.map toIn) a b _ _ w (toCI hC) (by rw [List.length_map]; exact hc) (look_f 0 (l.map toIn) a b)
  rw [List.length_map, forth_in] at this
  exact this
theorem vcheck_at {A : Option Addr} {c : Nat} {l : List I5} {a b : Int} {w : World} (hC : Kd.C kIn w A l.length l) (hc : l.length ≤ c) : Calls Try.prog 11 #[.agg #[.slice A l.length c, .int .i64 a, .int .i64 b]] w fun e w' => e = .returned (.int .i64 (lookC l a b).2) ∧ Below w.heap.size w w' := by
  have := verify_Check.calls 1 A c (l.map toIn) a b (lookC l a b).2 w (toCI hC) (by rw [List.length_map]; exact hc) (by unfold verify_Check.f; rw [look_f, forth_in]; rfl)
  rw [List.length_map] at this
  exact this
theorem look_len {l : List I5} {a b : Int} (h : (lookC l a b).2 = 0) : checkC l a b = 0 ∧ targetsB l a = true ∧ slotsB l b = true ∧ ∃ o, ordL l = some o ∧ (lookC l a b).1 = o := by
  unfold lookC at h ⊢
  by_cases h0 : checkC l a b ≠ 0
  · rw [if_pos h0] at h; exact absurd h (by decide)
  · rw [if_neg h0] at h ⊢
    cases ht : targetsB l a with
    | false => rw [ht, if_pos rfl] at h; exact absurd h (by decide)
    | true =>
      rw [ht, if_neg (by decide)] at h
      rw [if_neg (by decide)]
      cases hs : slotsB l b with
      | false => rw [hs, if_pos rfl] at h; exact absurd h (by decide)
      | true =>
        rw [hs, if_neg (by decide)] at h
        rw [if_neg (by decide)]
        cases ho : ordL l with
        | none => rw [ho] at h; exact absurd h (by decide)
        | some o => exact ⟨by omega, rfl, rfl, o, rfl, rfl⟩
theorem new_at {A : Option Addr} {c : Nat} {l : List I5} {a b : Int} {w : World} (hC : Kd.C kIn w A l.length l) (hc : l.length ≤ c) : Calls Try.prog 8 #[.agg #[.slice A l.length c, .int .i64 a, .int .i64 b]] w (NewPost w l a b) :=
  new_any lookAt A c l a b w hC hc (fun h => (checkC_ok (look_len h).1).2.1)
theorem free_len (x : I5) : (freeN x).length ≤ 2 := by
  unfold freeN
  split
  · simp
  · exact leads_len x
theorem target_ok {l : List I5} {a b : Int} (h0 : checkC l a b = 0) (ht : targetsB l a = true) : ∀ x ∈ l, ∀ t ∈ freeN x, 0 ≤ t ∧ t < l.length := by
  intro x hx t htx
  have := ledB_iff.1 (led_ok h0 ht) x hx t
  unfold freeN at htx
  split at htx
  · simp at htx
  · exact this htx
def mark1 (b : Bool) (st : List Bool × Bool) (t : Int) : List Bool × Bool := if b then (st.1.set t.toNat true, true) else st
def z5 : I5 := (0, 0, 0, 0, 0)
/-- One round: what is led to by what is marked. -/
def roundL (l : List I5) (at_ : List Bool) (i : Nat) : List Bool × Bool := (List.range i).foldl (fun st i => (freeN (l.getD i z5)).foldl (mark1 (at_.getD i false)) st) (List.replicate l.length false, false)
def rounds (l : List I5) : Nat → List Bool × Bool → List Bool × Bool
  | 0, s => s
  | k + 1, s => rounds l k (roundL l s.1 l.length)
theorem mark_len (b : Bool) (ts : List Int) : ∀ st : List Bool × Bool, (ts.foldl (mark1 b) st).1.length = st.1.length := by
  induction ts with
  | nil => intro st; rfl
  | cons t ts ih => intro st; rw [List.foldl_cons, ih]; unfold mark1; split <;> simp
theorem roundL_len (l : List I5) (at_ : List Bool) (i : Nat) : (roundL l at_ i).1.length = l.length := by
  unfold roundL
  induction i with
  | zero => simp
  | succ i ih => rw [List.range_succ, List.foldl_append, List.foldl_cons, List.foldl_nil, mark_len, ih]
theorem roundL_succ (l : List I5) (at_ : List Bool) (i : Nat) : roundL l at_ (i + 1) = (freeN (l.getD i z5)).foldl (mark1 (at_.getD i false)) (roundL l at_ i) := by
  unfold roundL
  rw [List.range_succ, List.foldl_append]
  rfl
theorem getD_set {α : Type} (l : List α) (i j : Nat) (v d : α) (hi : i < l.length) : (l.set i v).getD j d = if j = i then v else l.getD j d := by
  rw [List.getD_eq_getElem?_getD, List.getElem?_set, List.getD_eq_getElem?_getD]
  by_cases h : j = i
  · subst h; simp [hi]
  · rw [if_neg (fun e => h e.symm), if_neg h]
theorem mark_at (b : Bool) (ts : List Int) : ∀ (st : List Bool × Bool), (∀ t ∈ ts, 0 ≤ t ∧ t < st.1.length) → (∀ t : Nat, (ts.foldl (mark1 b) st).1.getD t false = true ↔ (st.1.getD t false = true ∨ (b = true ∧ (t : Int) ∈ ts))) ∧ ((ts.foldl (mark1 b) st).2 = true ↔ (st.2 = true ∨ (b = true ∧ ts ≠ []))) := by
  induction ts with
  | nil => intro st _; simp
  | cons x ts ih =>
    intro st h
    rw [List.foldl_cons]
    have hx := h x (by simp)
    cases b with
    | false =>
      have hm : mark1 false st x = st := rfl
      rw [hm]
      have := ih st (fun t ht => h t (by simp [ht]))
      simpa using this
    | true =>
      have hm : mark1 true st x = (st.1.set x.toNat true, true) := rfl
      rw [hm]
      have := ih (st.1.set x.toNat true, true) (fun t ht => by rw [List.length_set]; exact h t (by simp [ht]))
      refine ⟨fun t => ?_, by rw [this.2]; simp⟩
      rw [this.1 t, getD_set _ _ _ _ _ (by omega)]
      by_cases e : t = x.toNat
      · rw [if_pos e]
        have : (t : Int) = x := by omega
        simp [this]
      · rw [if_neg e]
        have : (t : Int) ≠ x := by omega
        simp [this]
def Led (l : List I5) : Prop := ∀ i, i < l.length → ∀ t ∈ freeN (l.getD i z5), 0 ≤ t ∧ t < l.length
theorem roundL_at (l : List I5) (hL : Led l) (at_ : List Bool) : ∀ i, i ≤ l.length → (∀ t : Nat, (roundL l at_ i).1.getD t false = true ↔ ∃ u, u < i ∧ at_.getD u false = true ∧ (t : Int) ∈ freeN (l.getD u z5)) ∧ ((roundL l at_ i).2 = true ↔ ∃ u, u < i ∧ at_.getD u false = true ∧ freeN (l.getD u z5) ≠ []) := by
  intro i
  induction i with
  | zero =>
    intro _
    refine ⟨fun t => ?_, ?_⟩
    · unfold roundL
      simp only [List.range_zero, List.foldl_nil]
      constructor
      · intro h
        rw [List.getD_eq_getElem?_getD, List.getElem?_replicate] at h
        split at h <;> simp at h
      · rintro ⟨u, h, _⟩; omega
    · unfold roundL
      simp only [List.range_zero, List.foldl_nil]
      constructor
      · intro h; exact absurd h (by decide)
      · rintro ⟨u, h, _⟩; omega
  | succ i ih =>
    intro hi
    have ih := ih (by omega)
    have hm := mark_at (at_.getD i false) (freeN (l.getD i z5)) (roundL l at_ i) (by rw [roundL_len]; exact hL i (by omega))
    rw [roundL_succ]
    refine ⟨fun t => ?_, ?_⟩
    · rw [hm.1 t, ih.1 t]
      constructor
      · rintro (⟨u, h1, h2, h3⟩ | ⟨h1, h2⟩)
        · exact ⟨u, by omega, h2, h3⟩
        · exact ⟨i, by omega, h1, h2⟩
      · rintro ⟨u, h1, h2, h3⟩
        by_cases e : u = i
        · subst e; exact .inr ⟨h2, h3⟩
        · exact .inl ⟨u, by omega, h2, h3⟩
    · rw [hm.2, ih.2]
      constructor
      · rintro (⟨u, h1, h2, h3⟩ | ⟨h1, h2⟩)
        · exact ⟨u, by omega, h2, h3⟩
        · exact ⟨i, by omega, h1, h2⟩
      · rintro ⟨u, h1, h2, h3⟩
        by_cases e : u = i
        · subst e; exact .inr ⟨h2, h3⟩
        · exact .inl ⟨u, by omega, h2, h3⟩
theorem rounds_long (l : List I5) (hL : Led l) (R : Nat → Prop) (h0 : ∃ t, t < l.length ∧ R t) (hR : ∀ t, t < l.length → R t → ∃ u, u < l.length ∧ R u ∧ (t : Int) ∈ freeN (l.getD u z5)) : ∀ k s, (∀ t, t < l.length → R t → s.1.getD t false = true) → (rounds l (k + 1) s).2 = true := by
  intro k
  induction k with
  | zero =>
    intro s hs
    show (roundL l s.1 l.length).2 = true
    obtain ⟨t, ht, hRt⟩ := h0
    obtain ⟨u, hu, hRu, hm⟩ := hR t ht hRt
    exact (roundL_at l hL s.1 _ (Nat.le_refl _)).2.2 ⟨u, hu, hs u hu hRu, fun e => by rw [e] at hm; simp at hm⟩
  | succ k ih =>
    intro s hs
    rw [rounds]
    refine ih _ (fun t ht hRt => ?_)
    obtain ⟨u, hu, hRu, hm⟩ := hR t ht hRt
    exact ((roundL_at l hL s.1 _ (Nat.le_refl _)).1 t).2 ⟨u, hu, hs u hu hRu, hm⟩
theorem rounds_short (l : List I5) (hL : Led l) (pos : Nat → Nat) (hp : ∀ t, t < l.length → pos t < l.length) (hR : ∀ t, t < l.length → ∀ u, u < l.length → (t : Int) ∈ freeN (l.getD u z5) → pos u < pos t) : ∀ k s d, (∀ t, t < l.length → s.1.getD t false = true → d ≤ pos t) → l.length < d + (k + 1) → (rounds l (k + 1) s).2 = false := by
  intro k
  induction k with
  | zero =>
    intro s d hs hd
    show (roundL l s.1 l.length).2 = false
    rw [Bool.eq_false_iff]
    intro h
    obtain ⟨u, hu, h1, h2⟩ := (roundL_at l hL s.1 _ (Nat.le_refl _)).2.1 h
    have := hs u hu h1
    have := hp u hu
    omega
  | succ k ih =>
    intro s d hs hd
    rw [rounds]
    refine ih _ (d + 1) (fun t ht h => ?_) (by omega)
    obtain ⟨u, hu, h1, h2⟩ := ((roundL_at l hL s.1 _ (Nat.le_refl _)).1 t).1 h
    have := hs u hu h1
    have := hR t ht u hu h2
    omega
/-- How often an instruction is led to by those not yet done. -/
def cntTo (l : List I5) (done : List Bool) (t : Nat) : Nat → Nat
  | 0 => 0
  | k + 1 => cntTo l done t k + (if done.getD k false then 0 else (freeN (l.getD k z5)).count (t : Int))
theorem cnt_set (l : List I5) (done : List Bool) (t i : Nat) (hi : i < done.length) (hd : done.getD i false = false) : ∀ k, cntTo l (done.set i true) t k + (if i < k then (freeN (l.getD i z5)).count (t : Int) else 0) = cntTo l done t k := by
  intro k
  induction k with
  | zero => simp [cntTo]
  | succ k ih =>
    rw [cntTo, cntTo, getD_set _ _ _ _ _ hi, ← ih]
    by_cases e : k = i
    · subst e
      rw [if_pos rfl, if_pos rfl, if_neg (Nat.lt_irrefl _), if_pos (Nat.lt_succ_self _), hd, if_neg (by decide)]
      all_goals omega
    · rw [if_neg e]
      by_cases h : i < k
      · rw [if_pos h, if_pos (show i < k + 1 by omega)]; omega
      · rw [if_neg h, if_neg (show ¬ i < k + 1 by omega)]
        all_goals omega
theorem cnt_zero (l : List I5) (done : List Bool) (t : Nat) : ∀ k, cntTo l done t k = 0 → ∀ u, u < k → done.getD u false = false → (t : Int) ∉ freeN (l.getD u z5) := by
  intro k
  induction k with
  | zero => intro _ u h; omega
  | succ k ih =>
    intro h u hu hd hm
    rw [cntTo] at h
    by_cases e : u = k
    · subst e
      rw [hd, if_neg (by decide)] at h
      have := List.count_pos_iff.2 hm
      omega
    · exact ih (by omega) u (by omega) hd hm
theorem cnt_pos (l : List I5) (done : List Bool) (t : Nat) : ∀ k, 0 < cntTo l done t k → ∃ u, u < k ∧ done.getD u false = false ∧ (t : Int) ∈ freeN (l.getD u z5) := by
  intro k
  induction k with
  | zero => intro h; simp [cntTo] at h
  | succ k ih =>
    intro h
    by_cases h0 : 0 < cntTo l done t k
    · obtain ⟨u, h1, h2⟩ := ih h0
      exact ⟨u, by omega, h2⟩
    · rw [cntTo] at h
      cases hd : done.getD k false with
      | true => rw [hd, if_pos rfl] at h; omega
      | false =>
        rw [hd, if_neg (by decide)] at h
        exact ⟨k, by omega, hd, List.count_pos_iff.1 (by omega)⟩
theorem incs_at (ts : List Int) : ∀ ins : List Int, (∀ t ∈ ts, 0 ≤ t ∧ t < ins.length) → ∀ t : Nat, (ts.foldl incAt ins).getD t 0 = ins.getD t 0 + (ts.count (t : Int) : Nat) := by
  induction ts with
  | nil => intro ins _ t; simp
  | cons x ts ih =>
    intro ins h t
    have hx := h x (by simp)
    rw [List.foldl_cons, ih _ (fun y hy => by unfold incAt; rw [List.length_set]; exact h y (by simp [hy])) t, incAt, getD_set _ _ _ _ _ (by omega), List.count_cons]
    by_cases e : t = x.toNat
    · have : (x == (t : Int)) = true := by rw [beq_iff_eq]; omega
      rw [if_pos e, this, if_pos rfl, e]; omega
    · have : (x == (t : Int)) = false := by rw [beq_eq_false_iff_ne]; omega
      rw [if_neg e, this, if_neg (by decide)]; omega
theorem decs_at (ts : List Int) : ∀ ins : List Int, (∀ t ∈ ts, 0 ≤ t ∧ t < ins.length) → ∀ t : Nat, (ts.foldl decAt ins).getD t 0 = ins.getD t 0 - (ts.count (t : Int) : Nat) := by
  induction ts with
  | nil => intro ins _ t; simp
  | cons x ts ih =>
    intro ins h t
    have hx := h x (by simp)
    rw [List.foldl_cons, ih _ (fun y hy => by unfold decAt; rw [List.length_set]; exact h y (by simp [hy])) t, decAt, getD_set _ _ _ _ _ (by omega), List.count_cons]
    by_cases e : t = x.toNat
    · have : (x == (t : Int)) = true := by rw [beq_iff_eq]; omega
      rw [if_pos e, this, if_pos rfl, e]; omega
    · have : (x == (t : Int)) = false := by rw [beq_eq_false_iff_ne]; omega
      rw [if_neg e, this, if_neg (by decide)]; omega
theorem flat_cnt (l : List I5) (t : Nat) : ∀ k, k ≤ l.length → ((l.take k).flatMap freeN).count (t : Int) = cntTo l (List.replicate l.length false) t k := by
  intro k
  induction k with
  | zero => intro _; simp [cntTo]
  | succ k ih =>
    intro hk
    rw [List.take_succ_eq_append_getElem (by omega), List.flatMap_append, List.count_append, ih (by omega), cntTo]
    have h1 : (List.replicate l.length false).getD k false = false := by
      rw [List.getD_eq_getElem?_getD, List.getElem?_replicate]; split <;> rfl
    have h2 : l.getD k z5 = l[k] := by rw [List.getD_eq_getElem?_getD, List.getElem?_eq_getElem (by omega)]; rfl
    rw [h1, if_neg (by decide), h2]
    simp
/-- What holds at the head of each round of the ordering. -/
structure Ord (l : List I5) (ins : List Int) (done : List Bool) : Prop where
  li : ins.length = l.length
  ld : done.length = l.length
  cnt : ∀ t, t < l.length → ins.getD t 0 = (cntTo l done t l.length : Nat)
theorem Ord.start (l : List I5) (hL : ∀ x ∈ l, ∀ t ∈ freeN x, 0 ≤ t ∧ t < l.length) : Ord l (freeL l) (List.replicate l.length false) := by
  refine ⟨freeL_len l, by simp, fun t ht => ?_⟩
  unfold freeL
  rw [incs_at _ _ (fun y hy => by
    rw [List.length_replicate]
    obtain ⟨x, hx, hy⟩ := List.mem_flatMap.1 hy
    exact hL x hx y hy), ← flat_cnt l t _ (Nat.le_refl _), List.take_length, List.getD_eq_getElem?_getD, List.getElem?_replicate, if_pos ht]
  simp
theorem Ord.next {l : List I5} {ins : List Int} {done : List Bool} (h : Ord l ins done) (hL : Led l) {i : Nat} (hi : i < l.length) (hd : done.getD i false = false) : Ord l ((freeN (l.getD i z5)).foldl decAt ins) (done.set i true) := by
  refine ⟨by rw [decs_len]; exact h.li, by rw [List.length_set]; exact h.ld, fun t ht => ?_⟩
  have hi' : i < done.length := by rw [h.ld]; exact hi
  rw [decs_at _ _ (fun y hy => by rw [h.li]; exact hL i hi y hy), h.cnt t ht, ← cnt_set l done t i hi' hd l.length, if_pos hi]
  omega
theorem find_opened {n i : Nat} {p : Nat → Bool} (h : (List.range n).find? p = some i) : i < n ∧ p i = true := ⟨List.mem_range.1 (List.mem_of_find?_eq_some h), List.find?_some h⟩
theorem ord_none (l : List I5) (hL : Led l) : ∀ f ins done out, Ord l ins done → done.count false = f → ordF l f ins done out = none → ∃ R : Nat → Prop, (∃ t, t < l.length ∧ R t) ∧ ∀ t, t < l.length → R t → ∃ u, u < l.length ∧ R u ∧ (t : Int) ∈ freeN (l.getD u z5) := by
  intro f
  induction f with
  | zero => intro ins done out _ _ h; exact absurd h (by simp [ordF])
  | succ f ih =>
    intro ins done out hO hc h
    rw [ordF] at h
    split at h
    · rename_i hf
      refine ⟨fun t => done.getD t false = false, ?_, fun t ht hRt => ?_⟩
      · have : false ∈ done := List.count_pos_iff.1 (by omega)
        obtain ⟨i, hi, e⟩ := List.mem_iff_getElem.1 this
        exact ⟨i, by rw [← hO.ld]; exact hi, by show done.getD i false = false; rw [List.getD_eq_getElem?_getD, List.getElem?_eq_getElem hi, e]; rfl⟩
      · rw [List.find?_eq_none] at hf
        have := hf t (List.mem_range.2 ht)
        unfold openI at this
        simp only [hRt, Bool.not_false, Bool.and_true, decide_eq_true_eq] at this
        rw [hO.cnt t ht] at this
        exact cnt_pos l done t _ (by omega)
    · rename_i i hf
      obtain ⟨hi, ho⟩ := find_opened hf
      unfold openI at ho
      simp only [Bool.and_eq_true, Bool.not_eq_true', decide_eq_true_eq] at ho
      have hi' : i < done.length := by rw [hO.ld]; exact hi
      refine ih _ _ _ (hO.next hL hi ho.2) ?_ h
      rw [List.count_set hi']
      have : done[i] = false := by have := ho.2; rw [List.getD_eq_getElem?_getD, List.getElem?_eq_getElem hi'] at this; exact this
      simp [this]
      omega
theorem ord_some (l : List I5) (hL : Led l) : ∀ f ins done out r, Ord l ins done → done.count false = f → ordF l f ins done out = some r → ∃ pos : Nat → Nat, (∀ t, t < l.length → done.getD t false = false → pos t < f) ∧ ∀ t, t < l.length → done.getD t false = false → ∀ u, u < l.length → (t : Int) ∈ freeN (l.getD u z5) → done.getD u false = true ∨ pos u < pos t := by
  intro f
  induction f with
  | zero =>
    intro ins done out r hO hc _
    have hall : ∀ t, t < l.length → done.getD t false = false → False := by
      intro t ht h
      have ht' : t < done.length := by rw [hO.ld]; exact ht
      rw [List.getD_eq_getElem?_getD, List.getElem?_eq_getElem ht'] at h
      have : false ∈ done := by rw [← show done[t] = false from h]; exact List.getElem_mem _
      have := List.count_pos_iff.2 this
      omega
    exact ⟨fun _ => 0, fun t ht h => (hall t ht h).elim, fun t ht h => (hall t ht h).elim⟩
  | succ f ih =>
    intro ins done out r hO hc h
    rw [ordF] at h
    split at h
    · exact absurd h (by simp)
    · rename_i i hf
      obtain ⟨hi, ho⟩ := find_opened hf
      unfold openI at ho
      simp only [Bool.and_eq_true, Bool.not_eq_true', decide_eq_true_eq] at ho
      have hi' : i < done.length := by rw [hO.ld]; exact hi
      obtain ⟨pos, hp1, hp2⟩ := ih _ _ _ r (hO.next hL hi ho.2) (by
        rw [List.count_set hi']
        have : done[i] = false := by have := ho.2; rw [List.getD_eq_getElem?_getD, List.getElem?_eq_getElem hi'] at this; exact this
        simp [this]
        omega) h
      refine ⟨fun t => if t = i then 0 else pos t + 1, fun t ht hd => ?_, fun t ht hd u hu hm => ?_⟩
      · by_cases e : t = i
        · simp [e]
        · have := hp1 t ht (by rw [getD_set _ _ _ _ _ hi', if_neg e]; exact hd)
          simp only [if_neg e]
          omega
      · by_cases e : t = i
        · left
          rw [e] at hm
          cases hdu : done.getD u false with
          | true => rfl
          | false =>
            have h0 := ho.1
            rw [hO.cnt i hi] at h0
            exact absurd hm (cnt_zero l done i _ (by omega) u hu hdu)
        · rcases hp2 t ht (by rw [getD_set _ _ _ _ _ hi', if_neg e]; exact hd) u hu hm with h1 | h1
          · rw [getD_set _ _ _ _ _ hi'] at h1
            by_cases eu : u = i
            · right; simp [eu, e]
            · rw [if_neg eu] at h1; exact .inl h1
          · right
            by_cases eu : u = i
            · simp [eu, e]
            · simp only [if_neg e, if_neg eu]; omega
theorem led_of {l : List I5} (h : ∀ x ∈ l, ∀ t ∈ freeN x, 0 ≤ t ∧ t < l.length) : Led l := by
  intro i hi t ht
  rw [List.getD_eq_getElem?_getD, List.getElem?_eq_getElem hi] at ht
  exact h _ (List.getElem_mem hi) t ht
theorem loops_eq (l : List I5) (h : ∀ x ∈ l, ∀ t ∈ freeN x, 0 ≤ t ∧ t < l.length) : (rounds l (l.length + 1) (List.replicate l.length true, true)).2 = (ordL l).isNone := by
  have hL := led_of h
  have hs := Ord.start l h
  cases ho : ordL l with
  | none =>
    obtain ⟨R, h0, hR⟩ := ord_none l hL _ _ _ _ hs (by simp) ho
    refine rounds_long l hL R h0 hR l.length _ (fun t ht _ => ?_)
    rw [List.getD_eq_getElem?_getD, List.getElem?_replicate, if_pos ht]
    rfl
  | some r =>
    obtain ⟨pos, h1, h2⟩ := ord_some l hL _ _ _ _ r hs (by simp) ho
    have hf : ∀ t, t < l.length → (List.replicate l.length false).getD t false = false := fun t ht => by rw [List.getD_eq_getElem?_getD, List.getElem?_replicate, if_pos ht]; rfl
    refine rounds_short l hL pos (fun t ht => h1 t ht (hf t ht)) (fun t ht u hu hm => ?_) l.length _ 0 (fun t _ _ => Nat.zero_le _) (by omega)
    rcases h2 t ht (hf t ht) u hu hm with h3 | h3
    · rw [hf u hu] at h3; exact absurd h3 (by decide)
    · exact h3
/-! The reference, in plain words. -/
theorem rd_in {l : List I5} {i : Nat} (hi : i < l.length) : rd_T33 (l.map toIn) (i : Int) = toIn (l.getD i z5) := by
  unfold rd_T33
  rw [Int.toNat_natCast]
  simp [List.getD_eq_getElem?_getD, hi]
theorem leads_ref (x : I5) : burinref16_Leads.f x.1 x.2.1 x.2.2.1 x.2.2.2.1 x.2.2.2.2 = some (leadsV x).1 := by
  unfold burinref16_Leads.f leadsV
  by_cases h2 : x.1 = 2
  · rw [if_pos h2, if_pos h2]
  rw [if_neg h2, if_neg h2]
  by_cases h1 : x.1 = 1
  · rw [if_pos h1, if_pos h1]
  rw [if_neg h1, if_neg h1]
  by_cases h3 : x.1 = 3
  · rw [if_pos h3, if_pos h3]
  rw [if_neg h3, if_neg h3]
  by_cases h4 : x.1 = 4
  · rw [if_pos h4, if_pos h4]
  rw [if_neg h4, if_neg h4]
theorem free_mem (x : I5) (t : Int) : t ∈ freeN x ↔ x.1 ≠ 1 ∧ t ∈ (leadsV x).1 := by
  unfold freeN leadsV
  by_cases h2 : x.1 = 2
  · rw [if_pos h2]; simp [h2]
  rw [if_neg h2]
  by_cases h1 : x.1 = 1
  · rw [if_pos h1]; simp [h1]
  rw [if_neg h1]
  by_cases h3 : x.1 = 3
  · rw [if_pos h3]; simp [h3]
  rw [if_neg h3]
  by_cases h4 : x.1 = 4
  · rw [if_pos h4]; simp [h4]
  rw [if_neg h4]
  simp
theorem wrap_up (i : Nat) (hi : i ≤ 1000000000) : wrap64 ((i : Int) + 1) = ((i + 1 : Nat) : Int) := wrap_v (by omega) (by omega) (by omega)
theorem has_l0 (s : List Int) (n : Int) (hs : s.length ≤ 1000000) (d : Nat) : ∀ i : Nat, i + d = s.length → Ev (fun k => burinref16_has.l0 k s n i) (decide (n ∈ s.drop i)) := by
  induction d with
  | zero =>
    intro i hi
    refine Ev.step (f := fun _ => some false) (fun k => ?_) ?_
    · simp only [burinref16_has.l0]
      rw [if_neg (by omega)]
    · rw [List.drop_of_length_le (by omega), decide_eq_false (by simp)]
      exact Ev.now _
  | succ d ih =>
    intro i hi
    have hlt : i < s.length := by omega
    have e : rd s (i : Int) = s[i] := by simp [rd, hlt]
    have hstep : ∀ k, burinref16_has.l0 (k + 1) s n i = if s[i] = n then some true else burinref16_has.l0 k s n ((i + 1 : Nat) : Int) := by
      intro k
      simp only [burinref16_has.l0]
      rw [if_pos (by omega), if_pos (by omega), e, wrap_up i (by omega)]
    rw [List.drop_eq_getElem_cons hlt]
    by_cases h : s[i] = n
    · rw [decide_eq_true (by rw [h]; exact List.mem_cons_self)]
      exact Ev.step (f := fun _ => some true) (fun k => by rw [hstep k, if_pos h]) (Ev.now _)
    · rw [show decide (n ∈ s[i] :: s.drop (i + 1)) = decide (n ∈ s.drop (i + 1)) by
        exact decide_eq_decide.2 ⟨fun g => (List.mem_cons.1 g).resolve_left (fun e => h e.symm), fun g => List.mem_cons_of_mem _ g⟩]
      exact Ev.step (fun k => by rw [hstep k, if_neg h]) (ih (i + 1) (by omega))
theorem has_ev (s : List Int) (n : Int) (hs : s.length ≤ 1000000) : Ev (fun k => burinref16_has.f k s n) (decide (n ∈ s)) := by
  have := has_l0 s n hs s.length 0 (by omega)
  unfold burinref16_has.f
  simpa using this
/-- Is t led to from u, which is left? -/
def ledB1 (l : List I5) (out : List Int) (t : Int) (u : Nat) : Bool := !(decide ((u : Int) ∈ out)) && decide (t ∈ freeN (l.getD u z5))
theorem led_l0 (l : List I5) (a b : Int) (out : List Int) (t : Int) (hn : l.length ≤ 1000000) (ho : out.length ≤ 1000000) (d : Nat) : ∀ i : Nat, i + d = l.length → Ev (fun k => burinref16_led.l0 k out t i (l.map toIn) a b) (((List.range l.length).drop i).any (ledB1 l out t)) := by
  induction d with
  | zero =>
    intro i hi
    refine Ev.step (f := fun _ => some false) (fun k => ?_) ?_
    · simp only [burinref16_led.l0]
      rw [List.length_map, if_neg (by omega)]
    · rw [List.drop_of_length_le (by rw [List.length_range]; omega), List.any_nil]
      exact Ev.now _
  | succ d ih =>
    intro i hi
    have hlt : i < l.length := by omega
    rw [List.drop_eq_getElem_cons (by rw [List.length_range]; exact hlt), List.getElem_range, List.any_cons]
    have hr := rd_in hlt
    by_cases h1 : (l.getD i z5).1 = 1
    · have e : ledB1 l out t i = false := by
        unfold ledB1
        rw [decide_eq_false (fun h => ((free_mem _ _).1 h).1 h1), Bool.and_false]
      rw [e, Bool.false_or]
      refine Ev.step (fun k => ?_) (ih (i + 1) (by omega))
      simp only [burinref16_led.l0]
      rw [List.length_map, if_pos (by omega), if_pos (by omega), hr, if_pos (show (toIn (l.getD i z5)).f0 = 1 from h1), wrap_up i (by omega)]
    · have hstep : ∀ k, burinref16_led.l0 (k + 1) out t i (l.map toIn) a b = (burinref16_has.f k out i).bind fun r => if r = true then burinref16_led.l0 k out t ((i + 1 : Nat) : Int) (l.map toIn) a b else (burinref16_has.f k (leadsV (l.getD i z5)).1 t).bind fun r => if r = true then some true else burinref16_led.l0 k out t ((i + 1 : Nat) : Int) (l.map toIn) a b := by
        intro k
        simp only [burinref16_led.l0]
        rw [List.length_map, if_pos (by omega), if_pos (by omega), hr, if_neg (show ¬ (toIn (l.getD i z5)).f0 = 1 from h1), wrap_up i (by omega)]
        have : burinref16_Leads.f (toIn (l.getD i z5)).f0 (toIn (l.getD i z5)).f1 (toIn (l.getD i z5)).f2 (toIn (l.getD i z5)).f3 (toIn (l.getD i z5)).f4 = some (leadsV (l.getD i z5)).1 := leads_ref _
        rw [this]
        rfl
      refine Ev.step hstep ?_
      refine Ev.bind (has_ev out i ho) ?_
      by_cases h2 : (i : Int) ∈ out
      · have e : ledB1 l out t i = false := by
          unfold ledB1
          rw [decide_eq_true h2, Bool.not_true, Bool.false_and]
        rw [e, Bool.false_or, decide_eq_true h2]
        exact Ev.congr (fun k => by rw [if_pos rfl]) (ih (i + 1) (by omega))
      · rw [decide_eq_false h2]
        refine Ev.congr (fun k => by rw [if_neg (by decide)]) ?_
        refine Ev.bind (has_ev _ t (by have := leads_len (l.getD i z5); omega)) ?_
        have e : ledB1 l out t i = decide (t ∈ (leadsV (l.getD i z5)).1) := by
          unfold ledB1
          rw [decide_eq_false h2, Bool.not_false, Bool.true_and]
          by_cases h3 : t ∈ (leadsV (l.getD i z5)).1
          · rw [decide_eq_true h3, decide_eq_true ((free_mem _ _).2 ⟨h1, h3⟩)]
          · rw [decide_eq_false h3, decide_eq_false (fun h => h3 ((free_mem _ _).1 h).2)]
        rw [e]
        by_cases h3 : t ∈ (leadsV (l.getD i z5)).1
        · rw [decide_eq_true h3, Bool.true_or]
          exact Ev.congr (fun k => by rw [if_pos rfl]) (Ev.now _)
        · rw [decide_eq_false h3, Bool.false_or]
          exact Ev.congr (fun k => by rw [if_neg (by decide)]) (ih (i + 1) (by omega))
theorem led_ev (l : List I5) (a b : Int) (out : List Int) (t : Int) (hn : l.length ≤ 1000000) (ho : out.length ≤ 1000000) : Ev (fun k => burinref16_led.f k (l.map toIn) a b out t) ((List.range l.length).any (ledB1 l out t)) := by
  have := led_l0 l a b out t hn ho l.length 0 (by omega)
  unfold burinref16_led.f
  simpa using this
def freeB (l : List I5) (out : List Int) (i : Nat) : Bool := !(decide ((i : Int) ∈ out)) && !((List.range l.length).any (ledB1 l out i))
def refOrdF (l : List I5) : Nat → List Int → List Int
  | 0, out => out
  | f + 1, out => match (List.range l.length).find? (freeB l out) with
    | none => out
    | some i => refOrdF l f (out ++ [(i : Int)])
/-- One is found: the others are gone over. -/
theorem ord_l1b (l : List I5) (a b : Int) (out : List Int) (hn : l.length ≤ 1000000) (ho : out.length ≤ 1000000) (x : Nat) {r : List Int} (hr : Ev (fun k => burinref16_Order.l0 k (out ++ [(x : Int)]) (l.map toIn) a b) r) (i : Nat) : Ev (fun k => burinref16_Order.l1 k out x i (l.map toIn) a b) r := by
  refine Ev.step (f := fun k => burinref16_Order.j2 k out x i false (l.map toIn) a b) (fun k => ?_) ?_
  · simp only [burinref16_Order.l1]
    rw [decide_eq_false (by omega)]
    split <;> rfl
  · refine Ev.step (fun k => ?_) hr
    simp only [burinref16_Order.j2]
    rw [if_neg (by decide), if_neg (by omega), if_pos (by omega)]
theorem ord_l1 (l : List I5) (a b : Int) (out : List Int) (hn : l.length ≤ 1000000) (ho : out.length ≤ 1000000) {r : List Int} (d : Nat) : ∀ i : Nat, i + d = l.length → (match ((List.range l.length).drop i).find? (freeB l out) with | none => r = out | some x => Ev (fun k => burinref16_Order.l0 k (out ++ [(x : Int)]) (l.map toIn) a b) r) → Ev (fun k => burinref16_Order.l1 k out (-1) i (l.map toIn) a b) r := by
  induction d with
  | zero =>
    intro i hi h
    rw [List.drop_of_length_le (by rw [List.length_range]; omega)] at h
    simp only [List.find?_nil] at h
    subst h
    refine Ev.step (f := fun k => burinref16_Order.j2 k r (-1) i false (l.map toIn) a b) (fun k => ?_) ?_
    · simp only [burinref16_Order.l1]
      rw [List.length_map, if_neg (by omega)]
    · refine Ev.step (f := fun _ => some r) (fun k => ?_) (Ev.now _)
      simp only [burinref16_Order.j2]
      rw [if_neg (by decide), if_pos (by decide)]
  | succ d ih =>
    intro i hi h
    have hlt : i < l.length := by omega
    rw [List.drop_eq_getElem_cons (by rw [List.length_range]; exact hlt), List.getElem_range, List.find?_cons] at h
    refine Ev.step (f := fun k => burinref16_Order.j2 k out (-1) i true (l.map toIn) a b) (fun k => ?_) ?_
    · simp only [burinref16_Order.l1]
      rw [List.length_map, if_pos (by omega)]
      rfl
    · refine Ev.step (f := fun k => (burinref16_has.f k out i).bind fun r => if r = true then burinref16_Order.l1 k out (-1) ((i + 1 : Nat) : Int) (l.map toIn) a b else (burinref16_led.f k (l.map toIn) a b out i).bind fun r => if r = true then burinref16_Order.l1 k out (-1) ((i + 1 : Nat) : Int) (l.map toIn) a b else burinref16_Order.l1 k out i ((i + 1 : Nat) : Int) (l.map toIn) a b) (fun k => ?_) ?_
      · simp only [burinref16_Order.j2]
        rw [if_pos trivial, wrap_up i (by omega)]
      refine Ev.bind (has_ev out i ho) ?_
      by_cases h2 : (i : Int) ∈ out
      · have e : freeB l out i = false := by
          unfold freeB
          rw [decide_eq_true h2, Bool.not_true, Bool.false_and]
        rw [e] at h
        rw [decide_eq_true h2]
        exact Ev.congr (fun k => by rw [if_pos rfl]) (ih (i + 1) (by omega) h)
      · rw [decide_eq_false h2]
        refine Ev.congr (fun k => by rw [if_neg (by decide)]) ?_
        refine Ev.bind (led_ev l a b out i hn ho) ?_
        cases h3 : (List.range l.length).any (ledB1 l out i) with
        | true =>
          have e : freeB l out i = false := by
            unfold freeB
            rw [h3, Bool.not_true, Bool.and_false]
          rw [e] at h
          exact Ev.congr (fun k => by rw [if_pos rfl]) (ih (i + 1) (by omega) h)
        | false =>
          have e : freeB l out i = true := by
            unfold freeB
            rw [h3, decide_eq_false h2]
            rfl
          rw [e] at h
          exact Ev.congr (fun k => by rw [if_neg (by decide)]) (ord_l1b l a b out hn ho i h (i + 1))
theorem ord_l0 (l : List I5) (a b : Int) (hn : l.length ≤ 1000000) : ∀ (f : Nat) (out : List Int), out.length + f = l.length → Ev (fun k => burinref16_Order.l0 k out (l.map toIn) a b) (refOrdF l f out) := by
  intro f
  induction f with
  | zero =>
    intro out ho
    refine Ev.step (f := fun _ => some out) (fun k => ?_) (Ev.now _)
    simp only [burinref16_Order.l0]
    rw [List.length_map, if_neg (by omega)]
  | succ f ih =>
    intro out ho
    refine Ev.step (f := fun k => burinref16_Order.l1 k out (-1) 0 (l.map toIn) a b) (fun k => ?_) ?_
    · simp only [burinref16_Order.l0]
      rw [List.length_map, if_pos (by omega)]
    · have := ord_l1 l a b out hn (by omega) (r := refOrdF l (f + 1) out) l.length 0 (by omega) (by
        rw [List.drop_zero]
        rw [refOrdF]
        cases hf : (List.range l.length).find? (freeB l out) with
        | none => rfl
        | some i => exact ih _ (by rw [List.length_append, List.length_singleton]; omega))
      simpa using this
theorem order_ev (l : List I5) (a b : Int) (hn : l.length ≤ 1000000) : Ev (fun k => burinref16_Order.f k (l.map toIn) a b) (refOrdF l l.length []) := by
  unfold burinref16_Order.f
  exact ord_l0 l a b hn l.length [] (by simp)
/-! The program's order is the reference's. -/
theorem find_same {n : Nat} {p q : Nat → Bool} (h : ∀ i, i < n → p i = q i) : (List.range n).find? p = (List.range n).find? q := by
  have : ∀ (s : List Nat), (∀ i ∈ s, p i = q i) → s.find? p = s.find? q := by
    intro s
    induction s with
    | nil => intro _; rfl
    | cons x s ih =>
      intro hs
      rw [List.find?_cons, List.find?_cons, hs x List.mem_cons_self, ih (fun i hi => hs i (List.mem_cons_of_mem _ hi))]
  exact this _ (fun i hi => h i (List.mem_range.1 hi))
theorem open_free {l : List I5} {ins : List Int} {done : List Bool} {out : List Int} (h : Ord l ins done) (hd : ∀ t : Nat, t < l.length → (done.getD t false = true ↔ (t : Int) ∈ out)) {i : Nat} (hi : i < l.length) : openI ins done i = freeB l out i := by
  unfold openI freeB
  have e1 : (!done.getD i false) = !(decide ((i : Int) ∈ out)) := by
    congr 1
    by_cases hm : (i : Int) ∈ out
    · rw [decide_eq_true hm]; exact (hd i hi).2 hm
    · rw [decide_eq_false hm, Bool.eq_false_iff]; exact fun hh => hm ((hd i hi).1 hh)
  rw [e1, Bool.and_comm]
  congr 1
  rw [h.cnt i hi]
  by_cases hz : cntTo l done i l.length = 0
  · rw [decide_eq_true (by omega)]
    symm
    rw [Bool.not_eq_true']
    rw [List.any_eq_false]
    intro u hu
    have hu := List.mem_range.1 hu
    unfold ledB1
    intro hh
    simp only [Bool.and_eq_true, Bool.not_eq_true', decide_eq_true_eq, decide_eq_false_iff_not] at hh
    exact cnt_zero l done i l.length hz u hu (by rw [Bool.eq_false_iff]; exact fun g => hh.1 ((hd u hu).1 g)) hh.2
  · rw [decide_eq_false (by omega)]
    symm
    rw [Bool.not_eq_false']
    obtain ⟨u, hu, hdu, hm⟩ := cnt_pos l done i l.length (by omega)
    rw [List.any_eq_true]
    refine ⟨u, List.mem_range.2 hu, ?_⟩
    unfold ledB1
    simp only [Bool.and_eq_true, Bool.not_eq_true', decide_eq_true_eq, decide_eq_false_iff_not]
    exact ⟨fun hh => by rw [(hd u hu).2 hh] at hdu; exact absurd hdu (by decide), hm⟩
theorem ref_ord {l : List I5} (hL : Led l) : ∀ (f : Nat) (ins : List Int) (done : List Bool) (out : List Int), Ord l ins done → (∀ t : Nat, t < l.length → (done.getD t false = true ↔ (t : Int) ∈ out)) → out.length + f = l.length → (match ordF l f ins done out with | some r => refOrdF l f out = r ∧ r.length = l.length | none => (refOrdF l f out).length < l.length) := by
  intro f
  induction f with
  | zero =>
    intro ins done out _ _ ho
    exact ⟨rfl, by omega⟩
  | succ f ih =>
    intro ins done out hO hd ho
    rw [ordF, refOrdF, find_same (fun i hi => open_free hO hd hi)]
    cases hf : (List.range l.length).find? (freeB l out) with
    | none => simp only; omega
    | some i =>
      have hi := (find_opened hf).1
      have hop := (find_opened hf).2
      have hdi : done.getD i false = false := by
        rw [Bool.eq_false_iff]
        intro hh
        unfold freeB at hop
        rw [decide_eq_true ((hd i hi).1 hh)] at hop
        exact absurd hop (by simp)
      refine ih _ _ _ (hO.next hL hi hdi) (fun t ht => ?_) (by rw [List.length_append, List.length_singleton]; omega)
      rw [getD_set _ _ _ _ _ (by rw [hO.ld]; exact hi), List.mem_append, List.mem_singleton]
      by_cases e : t = i
      · subst e; simp
      · rw [if_neg e, hd t ht]
        constructor
        · exact fun h => .inl h
        · exact fun h => h.resolve_right (fun h => e (by omega))
/-- Which order, or that there is none. -/
theorem ref_order {l : List I5} (hT : ∀ x ∈ l, ∀ t ∈ freeN x, 0 ≤ t ∧ t < l.length) : (match ordL l with | some r => refOrdF l l.length [] = r ∧ r.length = l.length | none => (refOrdF l l.length []).length < l.length) := by
  unfold ordL
  refine ref_ord (led_of hT) _ _ _ _ (Ord.start l hT) (fun t ht => ?_) (by simp)
  rw [List.getD_eq_getElem?_getD, List.getElem?_replicate, if_pos ht]
  simp
/-! The reference's check. -/
theorem fits_ref (k : Nat) (x : I5) : burinref14_Fits.f (k + 1) x.1 x.2.1 x.2.2.1 x.2.2.2.1 x.2.2.2.2 = some (fitsB x) := by
  obtain ⟨op, lo, hi, X, Y⟩ := x
  have hj : burinref14_Fits.f (k + 1) op lo hi X Y = burinref14_Fits.j0 (k + 1) (decide (0 ≤ X ∧ X < 4000)) op lo hi X Y := by
    unfold burinref14_Fits.f
    by_cases h : X ≥ 0
    · rw [if_pos h]
      congr 1
      by_cases g : X < 4000
      · rw [decide_eq_true g, decide_eq_true ⟨h, g⟩]
      · rw [decide_eq_false g, decide_eq_false (fun q => g q.2)]
    · rw [if_neg h, decide_eq_false (fun q => h q.1)]
  show burinref14_Fits.f (k + 1) op lo hi X Y = _
  rw [hj]
  unfold fitsB fieldsL
  have e0 : ∀ Y : Int, (Y == 0) = decide (Y = 0) := fun _ => rfl
  have e1 : ∀ Y : Int, (Y != 0) = !decide (Y = 0) := fun _ => rfl
  simp only [burinref14_Fits.j0, e0, List.any_cons, List.any_nil, badField, e1]
  by_cases h1 : op = 1
  · subst h1
    simp only [if_pos trivial, ownV]
    by_cases g1 : lo ≥ 0 <;> by_cases g2 : lo ≤ hi <;> by_cases g3 : hi ≤ 255 <;> by_cases g4 : 0 ≤ X ∧ X < 4000 <;> by_cases g5 : Y = 0 <;> simp [g1, g2, g3, g4, g5] <;> omega
  by_cases h2 : op = 2
  · subst h2
    simp only [if_pos trivial, ownV]
    by_cases g1 : lo = 0 <;> by_cases g2 : hi = 0 <;> by_cases g4 : 0 ≤ X ∧ X < 4000 <;> by_cases g5 : Y ≥ 0 <;> by_cases g6 : Y < 4000 <;> simp [g1, g2, g4, g5, g6] <;> omega
  by_cases h3 : op = 3
  · subst h3
    simp only [if_pos trivial, ownV]
    by_cases g1 : lo ≥ 0 <;> by_cases g2 : lo < 64 <;> by_cases g3 : hi = 0 <;> by_cases g4 : 0 ≤ X ∧ X < 4000 <;> by_cases g5 : Y = 0 <;> simp [g1, g2, g3, g4, g5] <;> omega
  by_cases h4 : op = 4
  · subst h4
    simp only [if_pos trivial, ownV]
    by_cases g1 : lo ≥ 1 <;> by_cases g2 : lo ≤ 6 <;> by_cases g3 : hi = 0 <;> by_cases g4 : 0 ≤ X ∧ X < 4000 <;> by_cases g5 : Y = 0 <;> simp [g1, g2, g3, g4, g5] <;> omega
  by_cases h5 : op = 5
  · subst h5
    simp only [if_pos trivial, ownV]
    by_cases g1 : lo = 0 <;> by_cases g3 : hi = 0 <;> by_cases g4 : X = 0 <;> by_cases g5 : Y = 0 <;> simp [g1, g3, g4, g5]
  by_cases h6 : op = 6
  · subst h6
    simp only [if_pos trivial, ownV]
    by_cases g1 : lo = 0 <;> by_cases g3 : hi = 0 <;> by_cases g4 : X = 0 <;> by_cases g5 : Y = 0 <;> simp [g1, g3, g4, g5]
  rw [if_neg h1, if_neg h2, if_neg h3, if_neg h4, if_neg h5, if_neg h6]
  have : (decide (1 ≤ op) && decide (op ≤ 6)) = false := by
    by_cases a1 : 1 ≤ op
    · by_cases a2 : op ≤ 6
      · omega
      · rw [decide_eq_false a2, Bool.and_false]
    · rw [decide_eq_false a1, Bool.false_and]
  rw [← Bool.and_assoc, this, Bool.false_and]
theorem check14_l0 (l : List I5) (a b : Int) (hn : l.length ≤ 1000000) (d : Nat) : ∀ i : Nat, i + d = l.length → Ev (fun k => burinref14_Check.l0 k i (l.map toIn) a b) (if (l.drop i).all fitsB = true then 0 else 130) := by
  induction d with
  | zero =>
    intro i hi
    refine Ev.step (f := fun _ => some 0) (fun k => ?_) ?_
    · simp only [burinref14_Check.l0]
      rw [List.length_map, if_neg (by omega)]
    · rw [List.drop_of_length_le (by omega), List.all_nil, if_pos rfl]
      exact Ev.now _
  | succ d ih =>
    intro i hi
    have hlt : i < l.length := by omega
    rw [List.drop_eq_getElem_cons hlt, List.all_cons]
    refine Ev.step (f := fun k => (burinref14_Fits.f k (toIn (l.getD i z5)).f0 (toIn (l.getD i z5)).f1 (toIn (l.getD i z5)).f2 (toIn (l.getD i z5)).f3 (toIn (l.getD i z5)).f4).bind fun r => if r = true then burinref14_Check.l0 k ((i + 1 : Nat) : Int) (l.map toIn) a b else some 130) (fun k => ?_) ?_
    · simp only [burinref14_Check.l0]
      rw [List.length_map, if_pos (by omega), if_pos (by omega), rd_in hlt, wrap_up i (by omega)]
    refine Ev.bind (a := fitsB (l.getD i z5)) (Ev.step (f := fun _ => some (fitsB (l.getD i z5))) (fun k => fits_ref k _) (Ev.now _)) ?_
    have e : l.getD i z5 = l[i] := by simp [List.getD_eq_getElem?_getD, hlt]
    rw [e]
    cases hf : fitsB l[i] with
    | true => exact Ev.congr (fun k => by rw [if_pos rfl]) (by rw [Bool.true_and]; exact ih (i + 1) (by omega))
    | false => exact Ev.congr (fun k => by rw [if_neg (by decide)]) (by rw [Bool.false_and, if_neg (by decide)]; exact Ev.now _)
theorem check14_ev (l : List I5) (a b : Int) : Ev (fun k => burinref14_Check.f k (l.map toIn) a b) (checkC l a b) := by
  unfold burinref14_Check.f
  rw [List.length_map]
  have hj : Ev (fun k => burinref14_Check.j0 k true (l.map toIn) a b) 130 := by
    refine Ev.step (f := fun _ => some 130) (fun k => ?_) (Ev.now _)
    simp only [burinref14_Check.j0]
    rw [if_pos trivial]
  unfold checkC
  by_cases h1 : (l.length : Int) < 1
  · rw [if_neg (by omega)]
    exact Ev.congr (fun k => by rw [if_pos h1]) hj
  by_cases h2 : (l.length : Int) > 4000
  · rw [if_neg (by omega)]
    exact Ev.congr (fun k => by rw [if_neg h1, if_pos h2]) hj
  by_cases h3 : a < 0
  · rw [if_neg (by omega)]
    exact Ev.congr (fun k => by rw [if_neg h1, if_neg h2, if_pos h3]) hj
  by_cases h4 : a ≥ 4000
  · rw [if_neg (by omega)]
    exact Ev.congr (fun k => by rw [if_neg h1, if_neg h2, if_neg h3, if_pos h4]) hj
  by_cases h5 : b < 0
  · rw [if_neg (by omega)]
    exact Ev.congr (fun k => by rw [if_neg h1, if_neg h2, if_neg h3, if_neg h4, if_pos h5]) hj
  by_cases h6 : b > 64
  · rw [if_neg (by omega)]
    exact Ev.congr (fun k => by rw [if_neg h1, if_neg h2, if_neg h3, if_neg h4, if_neg h5, decide_eq_true h6]) hj
  refine Ev.congr (f := fun k => burinref14_Check.j0 k false (l.map toIn) a b) (fun k => by rw [if_neg h1, if_neg h2, if_neg h3, if_neg h4, if_neg h5, decide_eq_false h6]) ?_
  refine Ev.step (f := fun k => burinref14_Check.l0 k 0 (l.map toIn) a b) (fun k => ?_) ?_
  · simp only [burinref14_Check.j0]
    rw [if_neg (by decide)]
  have := check14_l0 l a b (by omega) l.length 0 (by omega)
  rw [List.drop_zero] at this
  have e : (if 1 ≤ l.length ∧ l.length ≤ 4000 ∧ (0 ≤ a ∧ a < 4000) ∧ 0 ≤ b ∧ b ≤ 64 ∧ l.all fitsB = true then (0 : Int) else 130) = if l.all fitsB = true then 0 else 130 := by
    by_cases h : l.all fitsB = true
    · rw [if_pos h, if_pos ⟨by omega, by omega, ⟨by omega, by omega⟩, by omega, by omega, h⟩]
    · rw [if_neg h, if_neg (fun g => h g.2.2.2.2.2)]
  rw [e]
  exact this
theorem rcheck_l1 (l : List I5) (a b n : Int) (L : List Int) (hL : L.length ≤ 1000000) (i : Int) {r : Int} (d : Nat) : ∀ (j : Nat) (fine : Bool), j + d = L.length → Ev (fun k => burinref16_Check.l0 k n (fine && (L.drop j).all fun t => decide (t < n)) (wrap64 (i + 1)) (l.map toIn) a b) r → Ev (fun k => burinref16_Check.l1 k n fine i L j (l.map toIn) a b) r := by
  induction d with
  | zero =>
    intro j fine hj h
    rw [List.drop_of_length_le (by omega), List.all_nil, Bool.and_true] at h
    refine Ev.step (fun k => ?_) h
    simp only [burinref16_Check.l1]
    rw [if_neg (by omega)]
  | succ d ih =>
    intro j fine hj h
    have hlt : j < L.length := by omega
    have e : rd L (j : Int) = L[j] := by simp [rd, hlt]
    rw [List.drop_eq_getElem_cons hlt, List.all_cons, ← Bool.and_assoc] at h
    refine Ev.step (fun k => ?_) (ih (j + 1) _ (by omega) h)
    simp only [burinref16_Check.l1]
    rw [if_pos (by omega), wrap_up j (by omega)]
    cases fine with
    | true => rw [if_pos rfl, if_pos (by omega), e, Bool.true_and]
    | false => rw [if_neg (by decide), Bool.false_and]
theorem rcheck_l2 (l : List I5) (a b : Int) (hn : l.length ≤ 1000000) {r : Int} (hr : Ev (fun k => (burinref16_Order.f k (l.map toIn) a b).bind fun t => if (t.length : Int) < (l.length : Int) then some 151 else some 0) r) (d : Nat) : ∀ i : Nat, i + d = l.length → Ev (fun k => burinref16_Check.l2 k l.length i (l.map toIn) a b) (if (l.drop i).any (badSlot b) = true then 152 else r) := by
  induction d with
  | zero =>
    intro i hi
    rw [List.drop_of_length_le (by omega), List.any_nil, if_neg (by decide)]
    refine Ev.step (fun k => ?_) hr
    simp only [burinref16_Check.l2]
    rw [if_neg (by omega)]
  | succ d ih =>
    intro i hi
    have hlt : i < l.length := by omega
    have e : l.getD i z5 = l[i] := by simp [List.getD_eq_getElem?_getD, hlt]
    rw [List.drop_eq_getElem_cons hlt, List.any_cons]
    have hstep : ∀ k, burinref16_Check.l2 (k + 1) l.length i (l.map toIn) a b = if l[i].1 = 3 then (if l[i].2.1 < 2 then some 152 else if l[i].2.1 ≥ b then some 152 else burinref16_Check.l2 k l.length ((i + 1 : Nat) : Int) (l.map toIn) a b) else burinref16_Check.l2 k l.length ((i + 1 : Nat) : Int) (l.map toIn) a b := by
      intro k
      simp only [burinref16_Check.l2]
      rw [List.length_map, if_pos (by omega), if_pos (by omega), if_pos (by omega), rd_in hlt, wrap_up i (by omega), e]
      rfl
    have ih' := ih (i + 1) (by omega)
    by_cases h3 : l[i].1 = 3
    · by_cases h1 : l[i].2.1 < 2
      · rw [show badSlot b l[i] = true by unfold badSlot; simp [h3, h1], Bool.true_or, if_pos rfl]
        exact Ev.step (f := fun _ => some 152) (fun k => by rw [hstep k, if_pos h3, if_pos h1]) (Ev.now _)
      · by_cases h2 : l[i].2.1 ≥ b
        · rw [show badSlot b l[i] = true by unfold badSlot; simp [h3, h2], Bool.true_or, if_pos rfl]
          exact Ev.step (f := fun _ => some 152) (fun k => by rw [hstep k, if_pos h3, if_neg h1, if_pos h2]) (Ev.now _)
        · rw [show badSlot b l[i] = false by (unfold badSlot; simp [h3, h1]; omega), Bool.false_or]
          exact Ev.step (fun k => by rw [hstep k, if_pos h3, if_neg h1, if_neg h2]) ih'
    · rw [show badSlot b l[i] = false by unfold badSlot; simp [h3], Bool.false_or]
      exact Ev.step (fun k => by rw [hstep k, if_neg h3]) ih'
theorem rcheck_l0 (l : List I5) (a b : Int) (hn : l.length ≤ 1000000) {r : Int} (d : Nat) : ∀ (i : Nat) (fine : Bool), i + d = l.length → Ev (fun k => if (fine && ((l.drop i).all fun x => (leadsV x).1.all fun t => decide (t < (l.length : Int)))) = true then (if b < 2 then burinref16_Check.j2 k l.length true (l.map toIn) a b else burinref16_Check.j2 k l.length (Int.tmod b 2 == 1) (l.map toIn) a b) else some 150) r → Ev (fun k => burinref16_Check.l0 k l.length fine i (l.map toIn) a b) r := by
  induction d with
  | zero =>
    intro i fine hi h
    rw [List.drop_of_length_le (by omega), List.all_nil, Bool.and_true] at h
    refine Ev.step (fun k => ?_) h
    simp only [burinref16_Check.l0]
    rw [if_neg (by omega)]
  | succ d ih =>
    intro i fine hi h
    have hlt : i < l.length := by omega
    have e : l.getD i z5 = l[i] := by simp [List.getD_eq_getElem?_getD, hlt]
    rw [List.drop_eq_getElem_cons hlt, List.all_cons, ← Bool.and_assoc] at h
    refine Ev.step (f := fun k => burinref16_Check.l1 k l.length fine i (leadsV l[i]).1 0 (l.map toIn) a b) (fun k => ?_) ?_
    · simp only [burinref16_Check.l0]
      rw [List.length_map, if_pos (by omega), if_pos (by omega), if_pos (by omega), rd_in hlt]
      have : burinref16_Leads.f (toIn (l.getD i z5)).f0 (toIn (l.getD i z5)).f1 (toIn (l.getD i z5)).f2 (toIn (l.getD i z5)).f3 (toIn (l.getD i z5)).f4 = some (leadsV (l.getD i z5)).1 := leads_ref _
      rw [this, e]
      rfl
    · refine rcheck_l1 l a b l.length (leadsV l[i]).1 (by have := leads_len l[i]; omega) i _ 0 fine (Nat.zero_add _) ?_
      rw [List.drop_zero, wrap_up i (by omega)]
      exact ih (i + 1) _ (by omega) h
theorem rcheck_ev (l : List I5) (a b : Int) : Ev (fun k => burinref16_Check.f k (l.map toIn) a b) (lookC l a b).2 := by
  unfold burinref16_Check.f
  refine Ev.bind (check14_ev l a b) ?_
  by_cases h0 : checkC l a b ≠ 0
  · unfold lookC
    rw [if_pos h0]
    have : checkC l a b = 130 := by
      revert h0
      unfold checkC
      split <;> simp
    rw [this]
    exact Ev.congr (fun k => by rw [if_neg (by decide)]) (Ev.now _)
  have h0 : checkC l a b = 0 := by omega
  have hn := (checkC_ok h0).2.1
  have hlk : (lookC l a b).2 = if targetsB l a = false then 150 else if slotsB l b = false then 152 else match ordL l with | some o => 0 | none => 151 := by
    unfold lookC
    rw [if_neg (by omega)]
    split
    · rfl
    split
    · rfl
    cases ordL l <;> rfl
  rw [hlk]
  refine Ev.congr (f := fun k => burinref16_Check.l0 k l.length (decide (a < (l.length : Int))) 0 (l.map toIn) a b) (fun k => by rw [if_pos h0, List.length_map]) ?_
  refine rcheck_l0 l a b (by omega) l.length 0 _ (Nat.zero_add _) ?_
  rw [List.drop_zero]
  have ht : (decide (a < (l.length : Int)) && (l.all fun x => (leadsV x).1.all fun t => decide (t < (l.length : Int)))) = targetsB l a := by
    unfold targetsB
    congr 1
    rw [List.all_eq_not_any_not]
    congr 1
    congr 1
    funext x
    unfold pastB
    rw [List.all_eq_not_any_not, Bool.not_not]
    congr 1
    funext t
    by_cases h : t < (l.length : Int)
    · rw [decide_eq_true h, decide_eq_false (by omega)]; rfl
    · rw [decide_eq_false h, decide_eq_true (by omega)]; rfl
  rw [ht]
  cases htb : targetsB l a with
  | false => rw [if_pos rfl]; exact Ev.congr (fun k => by rw [if_neg (by decide)]) (Ev.now _)
  | true =>
    rw [if_neg (by decide)]
    refine Ev.congr (f := fun k => if b < 2 then burinref16_Check.j2 k l.length true (l.map toIn) a b else burinref16_Check.j2 k l.length (Int.tmod b 2 == 1) (l.map toIn) a b) (fun k => by rw [if_pos rfl]) ?_
    have hj : Ev (fun k => burinref16_Check.j2 k l.length true (l.map toIn) a b) 152 := by
      refine Ev.step (f := fun _ => some 152) (fun k => ?_) (Ev.now _)
      simp only [burinref16_Check.j2]
      rw [if_pos trivial]
    unfold slotsB
    by_cases hb : b < 2
    · rw [decide_eq_false (show ¬ 2 ≤ b by omega), Bool.false_and, if_pos rfl]
      exact Ev.congr (fun k => by rw [if_pos hb]) hj
    rw [decide_eq_true (show 2 ≤ b by omega), Bool.true_and]
    by_cases hm : b % 2 = 0
    · have e : (Int.tmod b 2 == 1) = false := by
        rw [Int.tmod_eq_emod_of_nonneg (by omega), hm]; rfl
      rw [decide_eq_true hm, Bool.true_and]
      refine Ev.congr (f := fun k => burinref16_Check.j2 k l.length false (l.map toIn) a b) (fun k => by rw [if_neg hb, e]) ?_
      refine Ev.step (f := fun k => burinref16_Check.l2 k l.length 0 (l.map toIn) a b) (fun k => ?_) ?_
      · simp only [burinref16_Check.j2]
        rw [if_neg (by decide)]
      have hT := target_ok h0 htb
      have hro := ref_order hT
      have hor : Ev (fun k => (burinref16_Order.f k (l.map toIn) a b).bind fun t => if (t.length : Int) < (l.length : Int) then some 151 else some 0) (match ordL l with | some o => (0 : Int) | none => 151) := by
        refine Ev.bind (order_ev l a b (by omega)) ?_
        cases ho : ordL l with
        | none =>
          rw [ho] at hro
          exact Ev.congr (fun k => by rw [if_pos (by simp only at hro; omega)]) (Ev.now _)
        | some o =>
          rw [ho] at hro
          exact Ev.congr (fun k => by rw [if_neg (by simp only at hro; rw [hro.1]; omega)]) (Ev.now _)
      have := rcheck_l2 l a b (by omega) hor l.length 0 (Nat.zero_add _)
      rw [List.drop_zero] at this
      cases hs : l.any (badSlot b) with
      | true => rw [hs, if_pos rfl] at this; rw [Bool.not_true, if_pos rfl]; exact this
      | false => rw [hs, if_neg (by decide)] at this; rw [Bool.not_false, if_neg (by decide)]; exact this
    · have e : (Int.tmod b 2 == 1) = true := by
        rw [Int.tmod_eq_emod_of_nonneg (by omega), show b % 2 = 1 by omega]; rfl
      rw [decide_eq_false hm, Bool.false_and, if_pos rfl]
      exact Ev.congr (fun k => by rw [if_neg hb, e]) hj
/-! What the start leads to. -/
def ldsAt (l : List I5) (u : Int) : List Int := (leadsV (l.getD u.toNat z5)).1
def ReachN (l : List I5) (a : Int) : Nat → Int → Prop
  | 0, t => t = a
  | n + 1, t => ∃ u, ReachN l a n u ∧ t ∈ ldsAt l u
def Reach (l : List I5) (a : Int) (t : Int) : Prop := ∃ n, ReachN l a n t
theorem Reach.start (l : List I5) (a : Int) : Reach l a a := ⟨0, rfl⟩
theorem Reach.step {l : List I5} {a u t : Int} (h : Reach l a u) (ht : t ∈ ldsAt l u) : Reach l a t := by
  obtain ⟨n, hn⟩ := h
  exact ⟨n + 1, u, hn, ht⟩
theorem reach_in {l : List I5} {a : Int} {s : List Int} (ha : a ∈ s) (hc : ∀ u ∈ s, ∀ t ∈ ldsAt l u, t ∈ s) {t : Int} (h : Reach l a t) : t ∈ s := by
  obtain ⟨n, hn⟩ := h
  induction n generalizing t with
  | zero => rw [show t = a from hn]; exact ha
  | succ n ih =>
    obtain ⟨u, hu, ht⟩ := hn
    exact hc u (ih hu) t ht
theorem nodup_le {n : Nat} {s : List Int} (hd : s.Nodup) (hs : ∀ x ∈ s, 0 ≤ x ∧ x < n) : s.length ≤ n := by
  have := List.Nodup.length_le_of_subset (l₂ := (List.range n).map Int.ofNat) hd (fun x hx => by
    have := hs x hx
    exact List.mem_map.2 ⟨x.toNat, List.mem_range.2 (by omega), by simp; omega⟩)
  simpa using this
theorem lds_in {l : List I5} (hT : ledB l = true) {u : Int} (hu : 0 ≤ u ∧ u < l.length) : ∀ t ∈ ldsAt l u, 0 ≤ t ∧ t < l.length := by
  have hlt : u.toNat < l.length := by omega
  unfold ldsAt
  rw [show l.getD u.toNat z5 = l[u.toNat] by simp [List.getD_eq_getElem?_getD, hlt]]
  exact ledB_iff.1 hT _ (List.getElem_mem hlt)
theorem lds_len (l : List I5) (u : Int) : (ldsAt l u).length ≤ 2 := leads_len _
structure Dfs (l : List I5) (a : Int) (seen : List Bool) (left out : List Int) : Prop where
  ls : seen.length = l.length
  io : ∀ x ∈ out, 0 ≤ x ∧ x < l.length
  il : ∀ x ∈ left, 0 ≤ x ∧ x < l.length
  so : ∀ t : Nat, t < l.length → (seen.getD t false = true ↔ (t : Int) ∈ out)
  nd : out.Nodup
  st : a ∈ out ∨ a ∈ left
  cl : ∀ u ∈ out, ∀ t ∈ ldsAt l u, t ∈ out ∨ t ∈ left
  rl : ∀ x ∈ left, Reach l a x
  ro : ∀ x ∈ out, Reach l a x
theorem Dfs.skip {l : List I5} {a : Int} {seen : List Bool} {left out : List Int} {i : Int} (h : Dfs l a seen (left ++ [i]) out) (hi : i ∈ out) : Dfs l a seen left out := by
  have hm : ∀ {x : Int}, x ∈ out ∨ x ∈ left ++ [i] → x ∈ out ∨ x ∈ left := fun {x} hx => by
    rcases hx with hx | hx
    · exact .inl hx
    · rcases List.mem_append.1 hx with hx | hx
      · exact .inr hx
      · rw [List.mem_singleton.1 hx]; exact .inl hi
  exact ⟨h.ls, h.io, fun x hx => h.il x (List.mem_append_left _ hx), h.so, h.nd, hm h.st, fun u hu t ht => hm (h.cl u hu t ht), fun x hx => h.rl x (List.mem_append_left _ hx), h.ro⟩
theorem Dfs.go {l : List I5} (hT : ledB l = true) {a : Int} {seen : List Bool} {left out : List Int} {i : Int} (h : Dfs l a seen (left ++ [i]) out) (hi : i ∉ out) : Dfs l a (seen.set i.toNat true) (left ++ ldsAt l i) (out ++ [i]) := by
  have hii := h.il i (List.mem_append_right _ List.mem_cons_self)
  have hm : ∀ {x : Int}, x ∈ out ∨ x ∈ left ++ [i] → x ∈ out ++ [i] ∨ x ∈ left ++ ldsAt l i := fun {x} hx => by
    rcases hx with hx | hx
    · exact .inl (List.mem_append_left _ hx)
    · rcases List.mem_append.1 hx with hx | hx
      · exact .inr (List.mem_append_left _ hx)
      · exact .inl (List.mem_append_right _ hx)
  have hri := h.rl i (List.mem_append_right _ List.mem_cons_self)
  refine ⟨by rw [List.length_set]; exact h.ls, fun x hx => ?_, fun x hx => ?_, fun t ht => ?_, ?_, hm h.st, fun u hu t ht => ?_, fun x hx => ?_, fun x hx => ?_⟩
  · rcases List.mem_append.1 hx with hx | hx
    · exact h.io x hx
    · rw [List.mem_singleton.1 hx]; exact hii
  · rcases List.mem_append.1 hx with hx | hx
    · exact h.il x (List.mem_append_left _ hx)
    · exact lds_in hT hii x hx
  · rw [getD_set _ _ _ _ _ (by rw [h.ls]; omega), List.mem_append, List.mem_singleton]
    by_cases e : t = i.toNat
    · rw [if_pos e]
      exact ⟨fun _ => .inr (by omega), fun _ => rfl⟩
    · rw [if_neg e, h.so t ht]
      exact ⟨fun g => .inl g, fun g => g.resolve_right (fun g => e (by omega))⟩
  · rw [List.nodup_append]
    exact ⟨h.nd, by simp, fun x hx y hy => by rw [List.mem_singleton.1 hy]; exact fun e => hi (e ▸ hx)⟩
  · rcases List.mem_append.1 hu with hu | hu
    · exact hm (h.cl u hu t ht)
    · rw [List.mem_singleton.1 hu] at ht
      exact .inr (List.mem_append_right _ ht)
  · rcases List.mem_append.1 hx with hx | hx
    · exact h.rl x (List.mem_append_left _ hx)
    · exact hri.step hx
  · rcases List.mem_append.1 hx with hx | hx
    · exact h.ro x hx
    · rw [List.mem_singleton.1 hx]; exact hri
theorem Dfs.room {l : List I5} {a : Int} {seen : List Bool} {left out : List Int} (h : Dfs l a seen left out) : out.length ≤ l.length := nodup_le h.nd h.io
def sortL (s : List Int) : List Int := s.mergeSort fun x y => decide (x ≤ y)
theorem dfs_ev {l : List I5} (hT : ledB l = true) (hn : l.length ≤ 4000) (a s0 b : Int) (o : List Int) : ∀ (m : Nat) (seen : List Bool) (left out : List Int), Dfs l a seen left out → 3 * (l.length - out.length) + left.length ≤ m → m ≤ 100000 → ∃ out', Ev (fun k => verify_Checked_Reached.l0 k seen left out (l.map toIn) s0 b o) (sortL out', s0, b) ∧ out'.Nodup ∧ (∀ x, x ∈ out' ↔ Reach l a x) ∧ ∀ x ∈ out', 0 ≤ x ∧ x < l.length := by
  intro m
  induction m with
  | zero =>
    intro seen left out h hm hM
    obtain rfl : left = [] := List.length_eq_zero_iff.1 (by omega)
    refine ⟨out, ?_, h.nd, fun x => ⟨h.ro x, reach_in (h.st.resolve_right (by simp)) (fun u hu t ht => (h.cl u hu t ht).resolve_right (by simp))⟩, h.io⟩
    refine Ev.step (f := fun _ => some (sortL out, s0, b)) (fun k => ?_) (Ev.now _)
    simp only [verify_Checked_Reached.l0]
    rw [if_neg (by decide)]
    unfold ext_sortInts.f
    rw [if_pos (by have := h.room; omega)]
    rfl
  | succ m ih =>
    intro seen left out h hm hM
    rcases List.eq_nil_or_concat left with hl | ⟨left', i, hl⟩
    · subst hl
      refine ⟨out, ?_, h.nd, fun x => ⟨h.ro x, reach_in (h.st.resolve_right (by simp)) (fun u hu t ht => (h.cl u hu t ht).resolve_right (by simp))⟩, h.io⟩
      refine Ev.step (f := fun _ => some (sortL out, s0, b)) (fun k => ?_) (Ev.now _)
      simp only [verify_Checked_Reached.l0]
      rw [if_neg (by decide)]
      unfold ext_sortInts.f
      rw [if_pos (by have := h.room; omega)]
      rfl
    · rw [List.concat_eq_append] at hl
      subst hl
      have hll : (left' ++ [i]).length = left'.length + 1 := by simp
      have hii := h.il i (List.mem_append_right _ List.mem_cons_self)
      have hw : wrap64 (((left'.length + 1 : Nat) : Int) - 1) = (left'.length : Int) := wrap_v (by omega) (by omega) (by omega)
      have hrd : rd (left' ++ [i]) (left'.length : Int) = i := by simp [rd]
      have htk : (left' ++ [i]).take ((left'.length : Int)).toNat = left' := by rw [Int.toNat_natCast]; exact List.take_left
      have hrn : rd_T33 (l.map toIn) i = toIn (l.getD i.toNat z5) := by
        have := rd_in (l := l) (i := i.toNat) (by omega)
        rwa [Int.toNat_of_nonneg hii.1] at this
      have hstep : ∀ k, verify_Checked_Reached.l0 (k + 1) seen (left' ++ [i]) out (l.map toIn) s0 b o = if rdOf false seen i = true then verify_Checked_Reached.l0 k seen left' out (l.map toIn) s0 b o else verify_Checked_Reached.l0 k (seen.set i.toNat true) (left' ++ ldsAt l i) (out ++ [i]) (l.map toIn) s0 b o := by
        intro k
        simp only [verify_Checked_Reached.l0]
        rw [hll, hw, hrd, htk, if_pos (by omega), if_pos (by omega), if_pos (by omega), if_pos (by omega)]
        simp only [Option.bind_some]
        rw [if_pos (by omega), if_pos (by rw [h.ls]; omega)]
        by_cases hs : rdOf false seen i = true
        · rw [if_pos hs, if_pos hs]
        · rw [if_neg hs, if_neg hs, if_pos (by have := h.room; omega), if_pos (by rw [List.length_map]; omega), hrn]
          have : verify_leads.f (toIn (l.getD i.toNat z5)).f0 (toIn (l.getD i.toNat z5)).f1 (toIn (l.getD i.toNat z5)).f2 (toIn (l.getD i.toNat z5)).f3 (toIn (l.getD i.toNat z5)).f4 = some (leadsV (l.getD i.toNat z5)) := leads_f _
          rw [this]
          simp only [Option.bind_some]
          rw [if_pos (by have := leads_len (l.getD i.toNat z5); omega)]
          rfl
      have hso := h.so i.toNat (by omega)
      rw [Int.toNat_of_nonneg hii.1] at hso
      by_cases hs : rdOf false seen i = true
      · have hio : i ∈ out := hso.1 hs
        obtain ⟨out', h1, h2⟩ := ih seen left' out (h.skip hio) (by rw [hll] at hm; omega) (by omega)
        exact ⟨out', Ev.step (fun k => by rw [hstep k, if_pos hs]) h1, h2⟩
      · have hio : i ∉ out := fun g => hs (hso.2 g)
        have hg := h.go hT hio
        obtain ⟨out', h1, h2⟩ := ih _ _ _ hg (by
          have h1 := hg.room
          have h2 := lds_len l i
          rw [List.length_append, List.length_singleton] at h1
          rw [List.length_append, List.length_append, List.length_singleton]
          rw [hll] at hm
          omega) (by omega)
        exact ⟨out', Ev.step (fun k => by rw [hstep k, if_neg hs]) h1, h2⟩
/-- The numbers of those that are reached, rising. -/
def RisesTo (l : List I5) (a : Int) (r : List Int) : Prop := r.Pairwise (· < ·) ∧ (∀ x, x ∈ r ↔ Reach l a x) ∧ ∀ x ∈ r, 0 ≤ x ∧ x < l.length
theorem rises_one {l : List I5} {a : Int} {r s : List Int} (h1 : RisesTo l a r) (h2 : RisesTo l a s) : r = s := by
  have nd : ∀ {t : List Int}, t.Pairwise (· < ·) → t.Nodup := fun h => h.imp (fun h => by omega)
  refine List.Perm.eq_of_pairwise (le := fun x y : Int => x < y) (fun x y _ _ h1 h2 => by omega) h1.1 h2.1 ((List.perm_ext_iff_of_nodup (nd h1.1) (nd h2.1)).2 fun x => ?_)
  rw [h1.2.1, h2.2.1]
theorem reached_ev {l : List I5} (hT : ledB l = true) (hn : l.length ≤ 4000) {a : Int} (ha : 0 ≤ a ∧ a < l.length) (b : Int) (o : List Int) : ∃ r, Ev (fun k => verify_Checked_Reached.f k (l.map toIn) a b o) (r, a, b) ∧ RisesTo l a r := by
  obtain ⟨out', h1, h2, h3, h4⟩ := dfs_ev hT hn a a b o (3 * l.length + 1) (List.replicate l.length false) [a] [] ⟨by simp, by simp, by simp; exact ha, fun t ht => by rw [List.getD_eq_getElem?_getD, List.getElem?_replicate, if_pos ht]; simp, by simp, .inr (by simp), by simp, by simp; exact Reach.start l a, by simp⟩ (by simp) (by omega)
  refine ⟨sortL out', ?_, ?_, fun x => ?_, fun x hx => ?_⟩
  · unfold verify_Checked_Reached.f
    rw [List.length_map, Int.toNat_natCast]
    exact Ev.congr (fun k => by rw [if_pos (by omega), if_pos (by omega)]) h1
  · have hle := List.pairwise_mergeSort (le := fun x y : Int => decide (x ≤ y)) (fun a b c h1 h2 => by simp at *; omega) (fun a b => by simp; omega) out'
    have hnd : (sortL out').Nodup := (List.mergeSort_perm out' _).symm.nodup h2
    exact (hle.and hnd).imp (fun ⟨h1, h2⟩ => by simp at h1; omega)
  · rw [← h3 x]
    exact (List.mergeSort_perm out' _).mem_iff
  · exact h4 x ((List.mergeSort_perm out' _).mem_iff.1 hx)
/-! The reference's. -/
structure Bfs (l : List I5) (a : Int) (s : List Int) (i : Nat) (ex : List Int) : Prop where
  io : ∀ x ∈ s, 0 ≤ x ∧ x < l.length
  nd : s.Nodup
  st : a ∈ s
  cl : ∀ u ∈ s.take i, ∀ t ∈ ldsAt l u, t ∈ s ∨ t ∈ ex
  ro : ∀ x ∈ s, Reach l a x
theorem Bfs.room {l : List I5} {a : Int} {s : List Int} {i : Nat} {ex : List Int} (h : Bfs l a s i ex) : s.length ≤ l.length := nodup_le h.nd h.io
theorem ref_l2 (l : List I5) (a b : Int) (s : List Int) (hn : l.length ≤ 4000) (hs : s.length ≤ 4000) (d : Nat) : ∀ (i : Nat) (out : List Int), i + d = l.length → out.length ≤ i → Ev (fun k => burinref16_Reached.l2 k s out i (l.map toIn) a b) (out ++ (((List.range l.length).drop i).filter fun j : Nat => decide ((j : Int) ∈ s)).map Int.ofNat) := by
  induction d with
  | zero =>
    intro i out hi ho
    rw [List.drop_of_length_le (by rw [List.length_range]; omega), List.filter_nil, List.map_nil, List.append_nil]
    refine Ev.step (f := fun _ => some out) (fun k => ?_) (Ev.now _)
    simp only [burinref16_Reached.l2]
    rw [List.length_map, if_neg (by omega)]
  | succ d ih =>
    intro i out hi ho
    have hlt : i < l.length := by omega
    rw [List.drop_eq_getElem_cons (by rw [List.length_range]; exact hlt), List.getElem_range, List.filter_cons]
    refine Ev.step (f := fun k => (burinref16_has.f k s i).bind fun r => if r = true then burinref16_Reached.l2 k s (out ++ [(i : Int)]) ((i + 1 : Nat) : Int) (l.map toIn) a b else burinref16_Reached.l2 k s out ((i + 1 : Nat) : Int) (l.map toIn) a b) (fun k => ?_) ?_
    · simp only [burinref16_Reached.l2]
      rw [List.length_map, if_pos (by omega), wrap_up i (by omega), if_pos (by omega)]
    refine Ev.bind (has_ev s i (by omega)) ?_
    by_cases h : (i : Int) ∈ s
    · rw [decide_eq_true h, if_pos rfl]
      refine Ev.congr (fun k => by rw [if_pos rfl]) ?_
      have := ih (i + 1) (out ++ [(i : Int)]) (by omega) (by rw [List.length_append, List.length_singleton]; omega)
      rwa [List.append_assoc, List.singleton_append] at this
    · rw [decide_eq_false h, if_neg (by decide)]
      exact Ev.congr (fun k => by rw [if_neg (by decide)]) (ih (i + 1) out (by omega) (by omega))
theorem ref_l1 (l : List I5) (hT : ledB l = true) (hn : l.length ≤ 4000) (a b : Int) (i : Nat) (u : Int) (hiu : 0 ≤ u ∧ u < l.length) (hru : Reach l a u) {Q : List Int → Prop} (d : Nat) : ∀ (j : Nat) (s : List Int), j + d = (ldsAt l u).length → Bfs l a s (i + 1) ((ldsAt l u).drop j) → i < s.length → s[i]? = some u → (∀ s', Bfs l a s' (i + 1) [] → i < s'.length → ∃ r, Ev (fun k => burinref16_Reached.l0 k s' ((i + 1 : Nat) : Int) (l.map toIn) a b) r ∧ Q r) → ∃ r, Ev (fun k => burinref16_Reached.l1 k s i (ldsAt l u) j (l.map toIn) a b) r ∧ Q r := by
  induction d with
  | zero =>
    intro j s hj h his hsu hQ
    rw [List.drop_of_length_le (by omega)] at h
    obtain ⟨r, h1, h2⟩ := hQ s h his
    refine ⟨r, Ev.step (fun k => ?_) h1, h2⟩
    simp only [burinref16_Reached.l1]
    have := h.room
    rw [if_neg (by omega), wrap_up i (by omega)]
  | succ d ih =>
    intro j s hj h his hsu hQ
    have hlt : j < (ldsAt l u).length := by omega
    have e : rd (ldsAt l u) (j : Int) = (ldsAt l u)[j] := by simp [rd, hlt]
    have hlen := lds_len l u
    have hroom := h.room
    have hti := lds_in hT hiu _ (List.getElem_mem hlt)
    have htr := hru.step (List.getElem_mem hlt)
    rw [List.drop_eq_getElem_cons hlt] at h
    generalize (ldsAt l u)[j] = t at e hti htr h
    have hstep : ∀ k, burinref16_Reached.l1 (k + 1) s i (ldsAt l u) j (l.map toIn) a b = (burinref16_has.f k s t).bind fun r => if r = true then burinref16_Reached.l1 k s i (ldsAt l u) ((j + 1 : Nat) : Int) (l.map toIn) a b else burinref16_Reached.l1 k (s ++ [t]) i (ldsAt l u) ((j + 1 : Nat) : Int) (l.map toIn) a b := by
      intro k
      simp only [burinref16_Reached.l1]
      rw [if_pos (by omega), if_pos (by omega), e, wrap_up j (by omega), if_pos (by omega)]
    by_cases hm : t ∈ s
    · obtain ⟨r, h1, h2⟩ := ih (j + 1) s (by omega) ⟨h.io, h.nd, h.st, fun v hv x hx => (h.cl v hv x hx).elim .inl (fun g => (List.mem_cons.1 g).elim (fun g => .inl (g ▸ hm)) .inr), h.ro⟩ his hsu hQ
      refine ⟨r, Ev.step hstep (Ev.bind (has_ev s t (by omega)) ?_), h2⟩
      rw [decide_eq_true hm]
      exact Ev.congr (fun k => by rw [if_pos rfl]) h1
    · have htake : (s ++ [t]).take (i + 1) = s.take (i + 1) := List.take_append_of_le_length (by omega)
      obtain ⟨r, h1, h2⟩ := ih (j + 1) (s ++ [t]) (by omega) ⟨fun x hx => (List.mem_append.1 hx).elim (h.io x) (fun g => by rw [List.mem_singleton.1 g]; exact hti), by
        rw [List.nodup_append]
        exact ⟨h.nd, by simp, fun x hx y hy => by rw [List.mem_singleton.1 hy]; exact fun e => hm (e ▸ hx)⟩, List.mem_append_left _ h.st, fun v hv x hx => by
        rw [htake] at hv
        rcases h.cl v hv x hx with g | g
        · exact .inl (List.mem_append_left _ g)
        · rcases List.mem_cons.1 g with g | g
          · exact .inl (List.mem_append_right _ (by rw [g]; exact List.mem_cons_self))
          · exact .inr g, fun x hx => (List.mem_append.1 hx).elim (h.ro x) (fun g => by rw [List.mem_singleton.1 g]; exact htr)⟩ (by rw [List.length_append]; omega) (by rw [List.getElem?_append_left his]; exact hsu) hQ
      refine ⟨r, Ev.step hstep (Ev.bind (has_ev s t (by omega)) ?_), h2⟩
      rw [decide_eq_false hm]
      exact Ev.congr (fun k => by rw [if_neg (by decide)]) h1
theorem ref_l0 (l : List I5) (hT : ledB l = true) (hn : l.length ≤ 4000) (a b : Int) (d : Nat) : ∀ (i : Nat) (s : List Int), i + d = l.length → Bfs l a s i [] → i ≤ s.length → ∃ r, Ev (fun k => burinref16_Reached.l0 k s i (l.map toIn) a b) r ∧ RisesTo l a r := by
  have hend : ∀ (i : Nat) (s : List Int), Bfs l a s i [] → ¬ i < s.length → i ≤ s.length → ∃ r, Ev (fun k => burinref16_Reached.l0 k s i (l.map toIn) a b) r ∧ RisesTo l a r := by
    intro i s h hlt hle
    have hroom := h.room
    have := ref_l2 l a b s hn (by omega) l.length 0 [] (Nat.zero_add _) (Nat.le_refl _)
    rw [List.drop_zero, List.nil_append] at this
    refine ⟨_, Ev.step (fun k => ?_) this, ?_, fun x => ?_, fun x hx => ?_⟩
    · simp only [burinref16_Reached.l0]
      rw [if_neg (by omega)]
      rfl
    · rw [List.pairwise_map]
      refine List.Pairwise.filter _ ?_
      exact List.pairwise_lt_range.imp (fun h => by simp; omega)
    · have hcl : ∀ u ∈ s, ∀ t ∈ ldsAt l u, t ∈ s := fun u hu t ht => by
        have := h.cl u (by rw [List.take_of_length_le (by omega)]; exact hu) t ht
        simpa using this
      constructor
      · intro hx
        obtain ⟨j, hj, rfl⟩ := List.mem_map.1 hx
        have := (List.mem_filter.1 hj).2
        exact h.ro _ (by simpa using this)
      · intro hx
        have hm := reach_in h.st hcl hx
        have := h.io x hm
        exact List.mem_map.2 ⟨x.toNat, List.mem_filter.2 ⟨List.mem_range.2 (by omega), by rw [Int.toNat_of_nonneg this.1]; simpa using hm⟩, by simp; omega⟩
    · obtain ⟨j, hj, rfl⟩ := List.mem_map.1 hx
      have := List.mem_range.1 (List.mem_filter.1 hj).1
      simp
      omega
  induction d with
  | zero =>
    intro i s hi h hle
    have hroom := h.room
    exact hend i s h (by omega) hle
  | succ d ih =>
    intro i s hi h hle
    by_cases hlt : i < s.length
    · have hroom := h.room
      have e : rd s (i : Int) = s[i] := by simp [rd, hlt]
      have hu := h.io _ (List.getElem_mem hlt)
      have hru := h.ro _ (List.getElem_mem hlt)
      have hsu : s[i]? = some s[i] := List.getElem?_eq_getElem hlt
      have htk : s.take (i + 1) = s.take i ++ [s[i]] := List.take_succ_eq_append_getElem hlt
      generalize s[i] = u at e hu hru hsu htk
      have hrn : rd_T33 (l.map toIn) u = toIn (l.getD u.toNat z5) := by
        have := rd_in (l := l) (i := u.toNat) (by omega)
        rwa [Int.toNat_of_nonneg hu.1] at this
      obtain ⟨r, h1, h2⟩ := ref_l1 l hT hn a b i u hu hru (Q := RisesTo l a) (ldsAt l u).length 0 s (Nat.zero_add _) ⟨h.io, h.nd, h.st, fun v hv x hx => by
        rw [htk] at hv
        rw [List.drop_zero]
        rcases List.mem_append.1 hv with hv | hv
        · exact .inl ((h.cl v hv x hx).resolve_right (by simp))
        · rw [List.mem_singleton.1 hv] at hx
          exact .inr hx, h.ro⟩ hlt hsu (fun s' hB hlt' => ih (i + 1) s' (by omega) hB (by omega))
      refine ⟨r, Ev.step (fun k => ?_) h1, h2⟩
      simp only [burinref16_Reached.l0]
      rw [if_pos (by omega), if_pos (by omega), e, if_pos (by omega), if_pos (by rw [List.length_map]; omega), hrn]
      have : burinref16_Leads.f (toIn (l.getD u.toNat z5)).f0 (toIn (l.getD u.toNat z5)).f1 (toIn (l.getD u.toNat z5)).f2 (toIn (l.getD u.toNat z5)).f3 (toIn (l.getD u.toNat z5)).f4 = some (leadsV (l.getD u.toNat z5)).1 := leads_ref _
      rw [this]
      rfl
    · exact hend i s h hlt hle
theorem ref_reached_ev {l : List I5} (hT : ledB l = true) (hn : l.length ≤ 4000) {a : Int} (ha : 0 ≤ a ∧ a < l.length) (b : Int) : ∃ r, Ev (fun k => burinref16_Reached.f k (l.map toIn) a b) r ∧ RisesTo l a r := by
  unfold burinref16_Reached.f
  exact ref_l0 l hT hn a b l.length 0 [a] (Nat.zero_add _) ⟨by simp; exact ha, by simp, by simp, by simp, by simp; exact Reach.start l a⟩ (Nat.zero_le _)
end Go.Proofs.Ytepjoiclfoopeaa.Pure
