import Derived.Test.YtoihlfiacnljhaaXBandsB
import Derived.Deep.SlicePairs
import Derived.Test.YtoihlfiacnljhaaXSortA
import Derived.Test.YtoihlfiacnljhaaXShelf
namespace Go.Proofs.YtoihlfiacnljhaaX
open Go.RowKit Go.Proofs.YtoihlfiacnljhaaW.PrintWords Go.Proofs.YtoihlfiacnljhaaW.PrintLast Go.Proofs.YtoihlfiacnljhaaW.PrintMore
set_option linter.unusedVariables false
set_option linter.unusedSimpArgs false
def ClonePost (w : World) (l : List (Int × Int)) (e : Ending) (w' : World) : Prop := ∃ v0_ : Value, e = .returned v0_ ∧ Kd.R kRg 41 w' w.heap.size (fun _ => True) v0_ l ∧ Below w.heap.size w w'
set_option maxHeartbeats 1000000 in
theorem clone_any (A : Option Addr) (c : Nat) (l : List (Int × Int)) (w : World) (h : Kd.C kRg w A l.length l) (hn : l.length ≤ 100000) :
    Calls Try.prog 26 #[.slice A l.length c] w (ClonePost w l) := by
  by_cases hp : 0 < l.length
  · obtain ⟨b, off, rfl, hb, _, hc⟩ := row_cells (d := kRg) (of := fun x => x) (fun h => kRg_K h) kRg_sz h hp
    rw [List.map_id'] at hc
    obtain ⟨i0, hi, hzz⟩ := Option.map_eq_some_iff.1 info_rg
    simp only [Prod.mk.injEq] at hzz
    obtain ⟨hz0, hz1, hz2⟩ := hzz
    have hcl := AnyE.slices_Clone Try.lay_cloneRange i0 (.agg #[(.int .i64 0), (.int .i64 0)]) 2 16 hi hz0 hz1 hz2 rfl (by omega) Try.sizeOf41 b off l.length c (l.flatMap encRg) w ?_ ?_ ?_ ?_ ?_
    · refine hcl.mono fun e w' ⟨v, he, ho, _, hb⟩ => ⟨v, he, (fixed_R kRg_fixed).2 ⟨fun _ _ => trivial, ho⟩, hb⟩
    · exact flat_len 2 (fun _ => rfl) l
    · unfold maxLen; omega
    · omega
    · intro j u hj
      have hlen := flat_len (enc := encRg) 2 (fun _ => rfl) l
      have hjl : j < l.length * 2 := by
        rw [← hlen]
        exact (List.getElem?_eq_some_iff.1 hj).1
      have hr := (reps_of_flat (R := fun p c => c = encRg p) (k := 2) (enc := encRg) (fun _ => rfl) (fun _ => rfl) l).2 (j / 2) _ (List.getElem?_eq_getElem (by omega))
      have hu : (encRg (l[j / 2]'(by omega)))[j % 2]? = some u := by
        rw [← hr, List.getElem?_take, if_pos (by omega), List.getElem?_drop, show j / 2 * 2 + j % 2 = j by omega]
        exact hj
      have := hc (j / 2) (by omega) (j % 2) u (by rw [getElem!_pos l (j / 2) (by omega)]; exact hu)
      rw [show off + j / 2 * 2 + j % 2 = off + j by omega] at this
      exact this
    · intro u hu
      obtain ⟨x, _, hx⟩ := List.mem_flatMap.1 hu
      rw [show encRg x = [.int .i64 x.1, .int .i64 x.2] from rfl] at hx
      simp only [List.mem_cons, List.not_mem_nil, or_false] at hx
      rcases hx with rfl | rfl <;> rfl
  · have e : l = [] := List.length_eq_zero_iff.1 (by omega)
    subst e
    clear h hn hp
    have q29 : ∀ (w : World) (a : Option Addr) (n c n' c' : Nat), (binOp .eql 29 (.slice a n c) (.slice none n' c')).run Try.prog w = .ok (.bool a.isNone) w := fun w a n c n' c' => Lib.run_eql_slice_nil w _ _ a n c n' c' Try.underlying29
    rw [List.length_nil]
    have HO := Aside0.mk (show Kd.R kRg 41 (w.alloc (.cells #[] 41)) w.heap.size (fun _ => True) (.slice (some ⟨w.heap.size, 0, none⟩) 0 0) [] from (fixed_R kRg_fixed).2 ⟨fun _ _ => trivial, rfl, .inr ⟨w.heap.size, 0, #[], rfl, Nat.le_refl _, heap_alloc_last _ _, Nat.le_refl _, by decide, rfl, rfl⟩⟩)
    have HB := Aside0.mk (show Below w.heap.size w (w.alloc (.cells #[] 41)) from (Below.refl _ w).alloc (Nat.le_refl _) _)
    go_enter Try.func26, Try.ntmps26
    cases A with
    | none =>
      go_wp2
      go_ret
      exact ⟨_, rfl, Kd.R_nil _ _ _ _ _, Below.refl _ _⟩
    | some ad =>
      go_wp2_with (at_builtin; refine Kd.R_append_rows kRg (Rr := kRg.K (w.alloc (.cells #[] 41))) (w0 := w) w.heap.size rfl (.tmp 5) (.tmp 6) 29 41 (.agg #[(.int .i64 0), (.int .i64 0)]) 16 rfl Try.underlying29 info_rg rfl (by decide) (by omega) _ [] [] (some ad) _ _ (fun _ => True) (fun _ => False) rfl rfl HO.out ?aR (fun x cs h => by rw [kRg_K h]; exact kRg_fixed.make _ _ _ x) (fun _ h => h.elim) ?aF HB.out HB.out.size ?aL ?_; (case aR => exact ⟨rfl, by omega, fun h => absurd h (by omega)⟩); (case aF => exact fun _ _ => trivial); (case aL => simp); intro v2 w2 ho hb hg hat; have HO2 := Aside0.mk ho; have HB2 := Aside0.mk hb; clear ho hb hg hat)
      go_ret
      exact ⟨_, rfl, HO2.out, HB2.out⟩
end Go.Proofs.YtoihlfiacnljhaaX
