import Derived.Test.YtjajehjhonabdaaXVerifyNew
namespace Go.Proofs.YtjajehjhonabdaaX
open Go.RowKit Go.Proofs.YtjajehjhonabdaaW.PrintWords Go.Proofs.YtjajehjhonabdaaW.PrintLast Go.Proofs.YtjajehjhonabdaaW.PrintMore
set_option linter.unusedVariables false
set_option linter.unusedSimpArgs false
section
variable {W : World} {g : Nat} {l : List I5} {a b : Int} {o : List Int}
theorem len_at (h : Ck W g l a b o) : Calls Try.prog 20 #[.pointer (some ⟨g, 0, none⟩)] W fun e w' => e = .returned (.int .i64 l.length) ∧ W = w' := by
  obtain ⟨w0, A0, c0, A3, c3, h1, _⟩ := h
  have e0 := (blk_cell h1 0).trans rfl
  generalize l.length = n at e0
  clear h1
  go_enter Try.func20, Try.ntmps20
  go_wp2
  go_ret
  exact ⟨rfl, rfl⟩
theorem start_at (h : Ck W g l a b o) : Calls Try.prog 26 #[.pointer (some ⟨g, 0, none⟩)] W fun e w' => e = .returned (.int .i64 a) ∧ W = w' := by
  obtain ⟨w0, A0, c0, A3, c3, h1, _⟩ := h
  have e1 := (blk_cell h1 1).trans rfl
  clear h1
  go_enter Try.func26, Try.ntmps26
  go_wp2
  go_ret
  exact ⟨rfl, rfl⟩
theorem slots_at (h : Ck W g l a b o) : Calls Try.prog 21 #[.pointer (some ⟨g, 0, none⟩)] W fun e w' => e = .returned (.int .i64 b) ∧ W = w' := by
  obtain ⟨w0, A0, c0, A3, c3, h1, _⟩ := h
  have e2 := (blk_cell h1 2).trans rfl
  clear h1
  go_enter Try.func21, Try.ntmps21
  go_wp2
  go_ret
  exact ⟨rfl, rfl⟩
theorem inst_in (h : Ck W g l a b o) (i : Nat) (hi : i < l.length) (hn : l.length ≤ 100000) : Calls Try.prog 49 #[.pointer (some ⟨g, 0, none⟩), .int .i64 i] W fun e w' => e = .returned (aggIn l[i]) ∧ Below W.heap.size W w' := by
  obtain ⟨w0, A0, c0, A3, c3, h1, h2, h3, h4, h5⟩ := h
  have hC := Kd.C_below h4 h3
  obtain ⟨b', off, rfl, hbw, x0, x1, x2, x3, x4⟩ := inst_at hC hi
  have e0 := (blk_cell h1 0).trans rfl
  have hg := blk_lt h1
  have hne : g ≠ W.heap.size := by omega
  have hne2 : b' ≠ W.heap.size := by omega
  obtain ⟨x, hx⟩ : ∃ x, x = l[i] := ⟨_, rfl⟩
  rw [← hx] at x0 x1 x2 x3 x4 ⊢
  have HB := Aside0.mk (fun cs => (Below.refl _ W).alloc (Nat.le_refl _) (.cells cs 52))
  clear h1 h2 h3 h4 h5 hC hx
  generalize l.length = n at hi hn e0
  go_enter Try.func49, Try.ntmps49
  go_wp2_with fail
  exact bodyPost_ret (v := aggIn x) (by simp [results, Try.results49, go_sem]) rfl ⟨rfl, HB.out _⟩
end
end Go.Proofs.YtjajehjhonabdaaX
