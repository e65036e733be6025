import Derived.Test.YtepjoiclfoopeaaXVerifyNew
namespace Go.Proofs.YtepjoiclfoopeaaX
open Go.RowKit Go.Proofs.YtepjoiclfoopeaaW.PrintWords Go.Proofs.YtepjoiclfoopeaaW.PrintLast Go.Proofs.YtepjoiclfoopeaaW.PrintMore
set_option linter.unusedVariables false
set_option linter.unusedSimpArgs false
section
variable {W : World} {g : Nat} {l : List I5} {a b : Int} {o : List Int}
theorem len_at (h : Ck W g l a b o) : Calls Try.prog 17 #[.pointer (some ⟨g, 0, none⟩)] W fun e w' => e = .returned (.int .i64 l.length) ∧ W = w' := by
  obtain ⟨w0, A0, c0, A3, c3, h1, _⟩ := h
  have e0 := (blk_cell h1 0).trans rfl
  generalize l.length = n at e0
  clear h1
  go_enter Try.func17, Try.ntmps17
  go_wp2
  go_ret
  exact ⟨rfl, rfl⟩
theorem start_at (h : Ck W g l a b o) : Calls Try.prog 18 #[.pointer (some ⟨g, 0, none⟩)] W fun e w' => e = .returned (.int .i64 a) ∧ W = w' := by
  obtain ⟨w0, A0, c0, A3, c3, h1, _⟩ := h
  have e1 := (blk_cell h1 1).trans rfl
  clear h1
  go_enter Try.func18, Try.ntmps18
  go_wp2
  go_ret
  exact ⟨rfl, rfl⟩
theorem slots_at (h : Ck W g l a b o) : Calls Try.prog 19 #[.pointer (some ⟨g, 0, none⟩)] W fun e w' => e = .returned (.int .i64 b) ∧ W = w' := by
  obtain ⟨w0, A0, c0, A3, c3, h1, _⟩ := h
  have e2 := (blk_cell h1 2).trans rfl
  clear h1
  go_enter Try.func19, Try.ntmps19
  go_wp2
  go_ret
  exact ⟨rfl, rfl⟩
theorem order_at (h : Ck W g l a b o) (hn : o.length ≤ 100000) : Calls Try.prog 9 #[.pointer (some ⟨g, 0, none⟩)] W (CloneIntPost W o) := by
  obtain ⟨w0, A0, c0, A3, c3, h1, h2, h3, h4, h5⟩ := h
  have e3 := (blk_cell h1 3).trans rfl
  have HC := Aside0.mk (cloneInt A3 c3 o W (Kd.C_below h5 h3) hn)
  clear h1 h2 h3 h4 h5
  have HO := Aside0.mk (show ∀ (e : Ending) (w' : World), (∃ v, e = .returned v ∧ Kd.R (Kd.int .i64) 3 w' W.heap.size (fun _ => True) v o ∧ Below W.heap.size W w') → CloneIntPost W o e w' from fun e w' h => h)
  have HC2 := Aside0.mk (show Calls Try.prog 30 #[.slice A3 o.length c3] W (fun e w' => ∃ v, e = .returned v ∧ Kd.R (Kd.int .i64) 3 w' W.heap.size (fun _ => True) v o ∧ Below W.heap.size W w') from HC.out)
  clear HC
  generalize CloneIntPost W o = PP at HO ⊢
  generalize o.length = m at HC2 e3
  go_enter Try.func9, Try.ntmps9
  go_wp2_with fail
  refine HC2.out.mono ?_
  rintro e w' ⟨v, rfl, hR, hb⟩
  have HR := Aside0.mk hR
  have HB := Aside0.mk hb
  clear hR hb
  go_wp2_with fail
  exact HO.out _ _ ⟨v, rfl, HR.out, HB.out⟩
theorem inst_in (h : Ck W g l a b o) (i : Nat) (hi : i < l.length) (hn : l.length ≤ 100000) : Calls Try.prog 25 #[.pointer (some ⟨g, 0, none⟩), .int .i64 i] W fun e w' => e = .returned (aggIn l[i]) ∧ Below W.heap.size W w' := by
  obtain ⟨w0, A0, c0, A3, c3, h1, h2, h3, h4, h5⟩ := h
  have hC := Kd.C_below h4 h3
  obtain ⟨b', off, rfl, hbw, x0, x1, x2, x3, x4⟩ := inst_at hC hi
  have e0 := (blk_cell h1 0).trans rfl
  have hg := blk_lt h1
  have hne : g ≠ W.heap.size := by omega
  have hne2 : b' ≠ W.heap.size := by omega
  obtain ⟨x, hx⟩ : ∃ x, x = l[i] := ⟨_, rfl⟩
  rw [← hx] at x0 x1 x2 x3 x4 ⊢
  have HB := Aside0.mk (fun cs => (Below.refl _ W).alloc (Nat.le_refl _) (.cells cs 33))
  clear h1 h2 h3 h4 h5 hC hx
  generalize l.length = n at hi hn e0
  go_enter Try.func25, Try.ntmps25
  go_wp2_with fail
  exact bodyPost_ret (v := aggIn x) (by simp [results, Try.results25, go_sem]) rfl ⟨rfl, HB.out _⟩
end
end Go.Proofs.YtepjoiclfoopeaaX
