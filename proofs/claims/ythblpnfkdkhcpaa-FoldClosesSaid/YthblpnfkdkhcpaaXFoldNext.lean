import Derived.Test.YthblpnfkdkhcpaaXFamily
import Derived.WalkMore
import Derived.ScopeJumps
namespace Go.Proofs.YthblpnfkdkhcpaaX
open Go.RowKit Go.Proofs.YthblpnfkdkhcpaaW.PrintWords Go.Proofs.YthblpnfkdkhcpaaW.PrintLast Go.Proofs.YthblpnfkdkhcpaaW.PrintMore
set_option linter.unusedVariables false
set_option linter.unusedSimpArgs false
def nextL (l : List Int) (r : Int) : Int := match l.find? (fun x => decide (r < x)) with
  | some x => x
  | none => l.getD 0 0
def nextF (r : Int) : Int := nextL (famF r) r
theorem famF_pos (r : Int) : 0 < (famF r).length ∧ (famF r).length ≤ 15 := by
  have hb : ∀ l c, (famB l c).length ≤ l.length := fun l c => by
    induction l with
    | nil => exact Nat.le_refl _
    | cons a t ih => obtain ⟨x, y, z⟩ := a; unfold famB; split <;> simp <;> omega
  have ho : ∀ l c, (famO l c).length ≤ l.length := fun l c => by
    induction l with
    | nil => exact Nat.le_refl _
    | cons a t ih => obtain ⟨x, y⟩ := a; unfold famO; split <;> simp <;> omega
  have h1 := hb blocksL (capF r)
  have h2 := ho othersL (capF r)
  have e1 : blocksL.length = 7 := rfl
  have e2 : othersL.length = 7 := rfl
  unfold famF fam0
  rw [List.length_mergeSort]
  simp
  omega
theorem next_hit (l : List Int) (r : Int) (k : Nat) (hk : k < l.length) (hn : ∀ j, j < k → l.getD j 0 ≤ r) (h : r < l.getD k 0) : nextL l r = l.getD k 0 := by
  have hf : l.find? (fun x => decide (r < x)) = some (l.getD k 0) := by
    induction l generalizing k with
    | nil => simp at hk
    | cons a t ih =>
      cases k with
      | zero => simp at h ⊢; simp [h]
      | succ k =>
        have h0 := hn 0 (by omega)
        simp at h0
        rw [List.find?_cons_of_neg (by simp; omega)]
        simp at hk h ⊢
        have := ih k hk (fun j hj => by have := hn (j + 1) (by omega); simpa using this) (by simpa using h)
        simpa using this
  unfold nextL
  rw [hf]
theorem next_miss (l : List Int) (r : Int) (hn : ∀ j, j < l.length → l.getD j 0 ≤ r) : nextL l r = l.getD 0 0 := by
  have hf : l.find? (fun x => decide (r < x)) = none := by
    rw [List.find?_eq_none]
    intro x hx
    obtain ⟨j, hj, rfl⟩ := List.mem_iff_getElem.1 hx
    have := hn j hj
    rw [List.getD_eq_getElem?_getD, List.getElem?_eq_getElem hj] at this
    simp at this ⊢
    omega
  unfold nextL
  rw [hf]
set_option maxHeartbeats 1000000 in
theorem next_any (r : Int) (w : World) : Calls Try.prog 10 #[.int .i64 r] w fun e w' => e = .returned (.int .i64 (nextF r)) ∧ Below w.heap.size w w' := by
  have hfam := family_any r w
  have hl := famF_pos r
  unfold nextF
  generalize famF r = l at hfam hl ⊢
  go_enter Try.func10, Try.ntmps10
  go_wp2_with fail
  refine wp_scope_jumps 0 (fun a' w' => ∃ (A : Option Addr) (c k : Nat) (u2 u5 u6 u7 u8 u9 u10 u11 u12 u13 u14 u15 u16 u17 u18 u19 u20 u21 u22 u23 u24 u25 : Value), a' = { tmps := #[.int .i64 r, undef, u2, .slice A l.length c, .int .i64 k, u5, u6, u7, u8, u9, u10, u11, u12, u13, u14, u15, u16, u17, u18, u19, u20, u21, u22, u23, u24, u25], defers := [] } ∧ k < l.length ∧ Aside0 (Kd.R (Kd.int .i64) 3 w' w.heap.size (fun _ => True) (.slice A l.length c) l) ∧ Aside0 (Below w.heap.size w w') ∧ Aside0 (∀ j, j < k → l.getD j 0 ≤ r)) (fun a' _ => l.length - (intOf (a'.tmps.getD 4 undef)).toNat) rfl ?_ ?_
  · go_wp2_with (go_at_call 9; refine hfam.mono ?_; rintro e w1 ⟨v, rfl, hR, hb⟩; obtain ⟨A, c, rfl⟩ := Kd.R_slice hR; have HR := Aside0.mk hR; have HB := Aside0.mk hb; clear hR hb hfam)
    go_step3
    obtain ⟨ad, e1, hx⟩ := Kd.at_int (Kd.R_reads' HR.out).2.2 0 (by omega) (by omega)
    cases e1
    have q0 : (0 : Int) < (l.length : Int) := by omega
    have hx0 : w1.cell? ad = some (.int .i64 (rd l 0)) := hx
    by_cases h : r < rd l 0
    · have hb0 : decide (r < rd l 0) = true := decide_eq_true h
      go_wp2
      (try simp only [Exit.jump])
      go_ret
      exact ⟨ret_i (by rw [next_hit l r 0 (by omega) (fun j hj => by omega) (by simpa [rd] using h)]; simp [rd]), HB.out⟩
    · have hb0 : decide (r < rd l 0) = false := decide_eq_false h
      have hh : l.getD 0 0 ≤ r := Int.not_lt.1 (by simpa [rd] using h)
      by_cases h2 : 0 + 1 < l.length
      · go_wp2
        go_step3
        refine ⟨rfl, some ad, c, 1, _, _, _, _, _, _, _, _, _, _, _, _, _, _, _, _, _, _, _, _, _, _, rfl, by omega, HR, HB, ⟨fun j hj => ?_⟩⟩
        obtain rfl : j = 0 := by omega
        exact hh
      · go_wp2
        (try simp only [Exit.jump])
        go_ret
        exact ⟨ret_i (by rw [next_miss l r (fun j hj => by obtain rfl : j = 0 := by omega
                                                           exact hh)]; simp [rd]), HB.out⟩
  · rintro a' w' ⟨A, c, k, u2, u5, u6, u7, u8, u9, u10, u11, u12, u13, u14, u15, u16, u17, u18, u19, u20, u21, u22, u23, u24, u25, rfl, hk, HR, HB, HN⟩
    have p0 : (0 : Int) ≤ (k : Int) := by omega
    have q0 : (k : Int) < (l.length : Int) := by omega
    obtain ⟨ad, e1, hx⟩ := Kd.at_int (Kd.R_reads' HR.out).2.2 k p0 q0
    cases e1
    rw [Int.toNat_natCast] at hx
    obtain ⟨ad0, e2, hy⟩ := Kd.at_int (Kd.R_reads' HR.out).2.2 0 (by omega) (by omega)
    cases e2
    have hx0 : w'.cell? ad = some (.int .i64 (rd l 0)) := hy
    by_cases h : r < rd l k
    · have hb0 : decide (r < rd l k) = true := decide_eq_true h
      go_wp2
      (try simp only [Exit.jump])
      go_ret
      exact ⟨ret_i (by rw [next_hit l r k (by omega) HN.out (by simpa [rd] using h)]; simp [rd]), HB.out⟩
    · have hb0 : decide (r < rd l k) = false := decide_eq_false h
      have hh : l.getD k 0 ≤ r := Int.not_lt.1 (by simpa [rd] using h)
      by_cases h2 : k + 1 < l.length
      · go_wp2
        go_step3
        refine ⟨rfl, ⟨some ad, c, k + 1, _, _, _, _, _, _, _, _, _, _, _, _, _, _, _, _, _, _, _, _, _, _, by first | rfl | (simp; done), by omega, HR, HB, ⟨fun j hj => ?_⟩⟩, ?_⟩
        · by_cases e : j = k
          · subst e; exact hh
          · exact HN.out j (by omega)
        · simp [intOf]; omega
      · go_wp2
        (try simp only [Exit.jump])
        go_ret
        exact ⟨ret_i (by rw [next_miss l r (fun j hj => by by_cases e : j = k
                                                           · subst e; exact hh
                                                           · exact HN.out j (by omega))]; simp [rd]), HB.out⟩
end Go.Proofs.YthblpnfkdkhcpaaX
