import Derived.Test.YtepjoiclfoopeaaXIndexInt
import Derived.Test.YtepjoiclfoopeaaXSort
import Derived.Test.YtepjoiclfoopeaaXShelf
import Derived.Deep.SlicePairs
import Derived.Deep.WholeRow
namespace Go.Proofs.YtepjoiclfoopeaaX
open Go.RowKit Go.Proofs.YtepjoiclfoopeaaW.PrintWords Go.Proofs.YtepjoiclfoopeaaW.PrintLast Go.Proofs.YtepjoiclfoopeaaW.PrintMore
set_option linter.unusedVariables false
set_option linter.unusedSimpArgs false
theorem kI_fixed : Fixed kI encInt where
  len _ := rfl
  out h := h
  make _ _ _ x := rfl
theorem flat_Int {w : World} {A : Option Addr} {l : List (Int)} (h : Kd.C kI w A l.length l) (hp : 0 < l.length) :
    ∃ b off, A = some ⟨b, off, none⟩ ∧ b < w.heap.size ∧ ∀ j u, (l.flatMap encInt)[j]? = some u → w.cell? ⟨b, off + j, none⟩ = some u := by
  obtain ⟨ad, rfl, hc⟩ := h.2.2 hp
  obtain ⟨b, off, spot⟩ := ad
  obtain ⟨c0, _, hK0, hcell0⟩ := hc 0 l[0] (List.getElem?_eq_getElem hp)
  obtain rfl := kI_K hK0
  rw [kI_sz] at hcell0
  have h0 := hcell0 0 _ rfl
  have hs : spot = none := by
    rw [show 0 * 1 + 0 = 0 from rfl] at h0
    simp only [Addr.add, if_true, World.cell?] at h0
    cases spot with
    | none => rfl
    | some q =>
      revert h0
      split
      · simp
      · simp
  subst hs
  have hadd : ∀ n, (⟨b, off, none⟩ : Addr).add n = ⟨b, off + n, none⟩ := fun n => by unfold Addr.add; split <;> simp_all
  refine ⟨b, off, rfl, ?_, fun j u hj => ?_⟩
  · have := World.block_lt_of_cell? w _ h0
    rwa [hadd] at this
  · have hlen := flat_len (enc := encInt) 1 (fun _ => rfl) l
    have hjl : j < l.length * 1 := by
      rw [← hlen]
      exact (List.getElem?_eq_some_iff.1 hj).1
    have hr := (reps_of_flat (R := fun p c => c = encInt p) (k := 1) (enc := encInt) (fun _ => rfl) (fun _ => rfl) l).2 (j / 1) _ (List.getElem?_eq_getElem (by omega))
    have hu : (encInt (l[j / 1]'(by omega)))[j % 1]? = some u := by
      rw [← hr, List.getElem?_take, if_pos (by omega), List.getElem?_drop, show j / 1 * 1 + j % 1 = j by omega]
      exact hj
    obtain ⟨c, _, hK, hcell⟩ := hc (j / 1) _ (List.getElem?_eq_getElem (by omega))
    obtain rfl := kI_K hK
    rw [kI_sz] at hcell
    have := hcell (j % 1) u hu
    rw [hadd, show j / 1 * 1 + j % 1 = j by omega] at this
    exact this
theorem info_cInt : (Try.prog.info? 3).map (fun i => (i.zero, i.size, i.bytes)) = some (some (.int .i64 0), 1, 8) := by kernel_rfl
def CloneIntPost (w : World) (l : List (Int)) (e : Ending) (w' : World) : Prop := ∃ v0_ : Value, e = .returned v0_ ∧ Kd.R kI 3 w' w.heap.size (fun _ => True) v0_ l ∧ Below w.heap.size w w'
set_option maxHeartbeats 1000000 in
theorem cloneInt (A : Option Addr) (c : Nat) (l : List (Int)) (w : World) (h : Kd.C kI w A l.length l) (hn : l.length ≤ 100000) :
    Calls Try.prog 30 #[.slice A l.length c] w (CloneIntPost w l) := by
  by_cases hp : 0 < l.length
  · obtain ⟨b, off, rfl, hb, hc⟩ := flat_Int h hp
    obtain ⟨i0, hi, hzz⟩ := Option.map_eq_some_iff.1 info_cInt
    simp only [Prod.mk.injEq] at hzz
    obtain ⟨hz0, hz1, hz2⟩ := hzz
    have hcl := AnyE.slices_Clone Try.lay_cloneInt i0 (.int .i64 0) 1 8 hi hz0 hz1 hz2 rfl (by omega) Try.sizeOf3 b off l.length c (l.flatMap encInt) w ?_ ?_ ?_ ?_ ?_
    · refine hcl.mono fun e w' ⟨v, he, ho, _, hb⟩ => ⟨v, he, (fixed_R kI_fixed).2 ⟨fun _ _ => trivial, ho⟩, hb⟩
    · exact flat_len 1 (fun _ => rfl) l
    · unfold maxLen; omega
    · omega
    · exact hc
    · intro u hu
      obtain ⟨x, _, hx⟩ := List.mem_flatMap.1 hu
      simp only [encInt, List.mem_cons, List.not_mem_nil, or_false] at hx
      subst hx; rfl
  · have e : l = [] := List.length_eq_zero_iff.1 (by omega)
    subst e
    clear h hn hp
    have q29 : ∀ (w : World) (a : Option Addr) (n c n' c' : Nat), (binOp .eql 30 (.slice a n c) (.slice none n' c')).run Try.prog w = .ok (.bool a.isNone) w := fun w a n c n' c' => Lib.run_eql_slice_nil w _ _ a n c n' c' Try.underlying30
    rw [List.length_nil]
    have HO := Aside0.mk (show Kd.R kI 3 (w.alloc (.cells #[] 3)) w.heap.size (fun _ => True) (.slice (some ⟨w.heap.size, 0, none⟩) 0 0) [] from (fixed_R kI_fixed).2 ⟨fun _ _ => trivial, rfl, .inr ⟨w.heap.size, 0, #[], rfl, Nat.le_refl _, heap_alloc_last _ _, Nat.le_refl _, by decide, rfl, rfl⟩⟩)
    have HB := Aside0.mk (show Below w.heap.size w (w.alloc (.cells #[] 3)) from (Below.refl _ w).alloc (Nat.le_refl _) _)
    go_enter Try.func30, Try.ntmps30
    cases A with
    | none =>
      go_wp2
      go_ret
      exact ⟨_, rfl, Kd.R_nil _ _ _ _ _, Below.refl _ _⟩
    | some ad =>
      go_wp2_with (at_builtin; refine Kd.R_append_rows kI (Rr := kI.K (w.alloc (.cells #[] 3))) (w0 := w) w.heap.size rfl (.tmp 5) (.tmp 6) 30 3 (.int .i64 0) 8 rfl Try.underlying30 info_cInt rfl (by decide) (by omega) _ [] [] (some ad) _ _ (fun _ => True) (fun _ => False) rfl rfl HO.out ?aR (fun x cs h => by rw [kI_K h]; exact kI_fixed.make _ _ _ x) (fun _ h => h.elim) ?aF HB.out HB.out.size ?aL ?_; (case aR => exact ⟨rfl, by omega, fun h => absurd h (by omega)⟩); (case aF => exact fun _ _ => trivial); (case aL => simp); intro v2 w2 ho hb hg hat; have HO2 := Aside0.mk ho; have HB2 := Aside0.mk hb; clear ho hb hg hat)
      go_ret
      exact ⟨_, rfl, HO2.out, HB2.out⟩
end Go.Proofs.YtepjoiclfoopeaaX
