import Derived.Test.YtjajehjhonabdaaXVerA
import Derived.Test.YtjajehjhonabdaaXSort
import Derived.Test.YtjajehjhonabdaaXShelf
import Derived.Deep.SlicePairs
import Derived.Deep.WholeRow
namespace Go.Proofs.YtjajehjhonabdaaX
open Go.RowKit Go.Proofs.YtjajehjhonabdaaW.PrintWords Go.Proofs.YtjajehjhonabdaaW.PrintLast Go.Proofs.YtjajehjhonabdaaW.PrintMore
set_option linter.unusedVariables false
set_option linter.unusedSimpArgs false
theorem kIn_fixed : Fixed kIn encInst where
  len _ := rfl
  out h := by
    obtain ⟨_, _, rfl, rfl, _, _, rfl, rfl, _, _, rfl, rfl, _, _, rfl, rfl, rfl⟩ := h
    rfl
  make _ _ _ x := ⟨[_], _, rfl, rfl, [_], _, rfl, rfl, [_], _, rfl, rfl, [_], _, rfl, rfl, rfl⟩
theorem flat_Inst {w : World} {A : Option Addr} {l : List (I5)} (h : Kd.C kIn w A l.length l) (hp : 0 < l.length) :
    ∃ b off, A = some ⟨b, off, none⟩ ∧ b < w.heap.size ∧ ∀ j u, (l.flatMap encInst)[j]? = some u → w.cell? ⟨b, off + j, none⟩ = some u := by
  obtain ⟨ad, rfl, hc⟩ := h.2.2 hp
  obtain ⟨b, off, spot⟩ := ad
  obtain ⟨c0, _, hK0, hcell0⟩ := hc 0 l[0] (List.getElem?_eq_getElem hp)
  obtain rfl := kIn_K hK0
  rw [kIn_sz] at hcell0
  have h0 := hcell0 0 _ rfl
  have hs : spot = none := by
    rw [show 0 * 5 + 0 = 0 from rfl] at h0
    simp only [Addr.add, if_true, World.cell?] at h0
    cases spot with
    | none => rfl
    | some q =>
      revert h0
      split
      · simp
      · simp
  subst hs
  have hadd : ∀ n, (⟨b, off, none⟩ : Addr).add n = ⟨b, off + n, none⟩ := fun n => by unfold Addr.add; split <;> simp_all
  refine ⟨b, off, rfl, ?_, fun j u hj => ?_⟩
  · have := World.block_lt_of_cell? w _ h0
    rwa [hadd] at this
  · have hlen := flat_len (enc := encInst) 5 (fun _ => rfl) l
    have hjl : j < l.length * 5 := by
      rw [← hlen]
      exact (List.getElem?_eq_some_iff.1 hj).1
    have hr := (reps_of_flat (R := fun p c => c = encInst p) (k := 5) (enc := encInst) (fun _ => rfl) (fun _ => rfl) l).2 (j / 5) _ (List.getElem?_eq_getElem (by omega))
    have hu : (encInst (l[j / 5]'(by omega)))[j % 5]? = some u := by
      rw [← hr, List.getElem?_take, if_pos (by omega), List.getElem?_drop, show j / 5 * 5 + j % 5 = j by omega]
      exact hj
    obtain ⟨c, _, hK, hcell⟩ := hc (j / 5) _ (List.getElem?_eq_getElem (by omega))
    obtain rfl := kIn_K hK
    rw [kIn_sz] at hcell
    have := hcell (j % 5) u hu
    rw [hadd, show j / 5 * 5 + j % 5 = j by omega] at this
    exact this
theorem info_cInst : (Try.prog.info? 52).map (fun i => (i.zero, i.size, i.bytes)) = some (some (.agg #[.int .i64 0, .int .i64 0, .int .i64 0, .int .i64 0, .int .i64 0]), 5, 40) := by kernel_rfl
def CloneInstPost (w : World) (l : List (I5)) (e : Ending) (w' : World) : Prop := ∃ v0_ : Value, e = .returned v0_ ∧ Kd.R kIn 52 w' w.heap.size (fun _ => True) v0_ l ∧ Below w.heap.size w w'
set_option maxHeartbeats 1000000 in
theorem cloneInst (A : Option Addr) (c : Nat) (l : List (I5)) (w : World) (h : Kd.C kIn w A l.length l) (hn : l.length ≤ 100000) :
    Calls Try.prog 17 #[.slice A l.length c] w (CloneInstPost w l) := by
  by_cases hp : 0 < l.length
  · obtain ⟨b, off, rfl, hb, hc⟩ := flat_Inst h hp
    obtain ⟨i0, hi, hzz⟩ := Option.map_eq_some_iff.1 info_cInst
    simp only [Prod.mk.injEq] at hzz
    obtain ⟨hz0, hz1, hz2⟩ := hzz
    have hcl := AnyE.slices_Clone Try.lay_cloneInst i0 (.agg #[.int .i64 0, .int .i64 0, .int .i64 0, .int .i64 0, .int .i64 0]) 5 40 hi hz0 hz1 hz2 rfl (by omega) Try.sizeOf52 b off l.length c (l.flatMap encInst) w ?_ ?_ ?_ ?_ ?_
    · refine hcl.mono fun e w' ⟨v, he, ho, _, hb⟩ => ⟨v, he, (fixed_R kIn_fixed).2 ⟨fun _ _ => trivial, ho⟩, hb⟩
    · exact flat_len 5 (fun _ => rfl) l
    · unfold maxLen; omega
    · omega
    · exact hc
    · intro u hu
      obtain ⟨x, _, hx⟩ := List.mem_flatMap.1 hu
      simp only [encInst, List.mem_cons, List.not_mem_nil, or_false] at hx
      rcases hx with rfl | rfl | rfl | rfl | rfl <;> rfl
  · have e : l = [] := List.length_eq_zero_iff.1 (by omega)
    subst e
    clear h hn hp
    have q29 : ∀ (w : World) (a : Option Addr) (n c n' c' : Nat), (binOp .eql 22 (.slice a n c) (.slice none n' c')).run Try.prog w = .ok (.bool a.isNone) w := fun w a n c n' c' => Lib.run_eql_slice_nil w _ _ a n c n' c' Try.underlying22
    rw [List.length_nil]
    have HO := Aside0.mk (show Kd.R kIn 52 (w.alloc (.cells #[] 52)) w.heap.size (fun _ => True) (.slice (some ⟨w.heap.size, 0, none⟩) 0 0) [] from (fixed_R kIn_fixed).2 ⟨fun _ _ => trivial, rfl, .inr ⟨w.heap.size, 0, #[], rfl, Nat.le_refl _, heap_alloc_last _ _, Nat.le_refl _, by decide, rfl, rfl⟩⟩)
    have HB := Aside0.mk (show Below w.heap.size w (w.alloc (.cells #[] 52)) from (Below.refl _ w).alloc (Nat.le_refl _) _)
    go_enter Try.func17, Try.ntmps17
    cases A with
    | none =>
      go_wp2
      go_ret
      exact ⟨_, rfl, Kd.R_nil _ _ _ _ _, Below.refl _ _⟩
    | some ad =>
      go_wp2_with (at_builtin; refine Kd.R_append_rows kIn (Rr := kIn.K (w.alloc (.cells #[] 52))) (w0 := w) w.heap.size rfl (.tmp 5) (.tmp 6) 22 52 (.agg #[.int .i64 0, .int .i64 0, .int .i64 0, .int .i64 0, .int .i64 0]) 40 rfl Try.underlying22 info_cInst rfl (by decide) (by omega) _ [] [] (some ad) _ _ (fun _ => True) (fun _ => False) rfl rfl HO.out ?aR (fun x cs h => by rw [kIn_K h]; exact kIn_fixed.make _ _ _ x) (fun _ h => h.elim) ?aF HB.out HB.out.size ?aL ?_; (case aR => exact ⟨rfl, by omega, fun h => absurd h (by omega)⟩); (case aF => exact fun _ _ => trivial); (case aL => simp); intro v2 w2 ho hb hg hat; have HO2 := Aside0.mk ho; have HB2 := Aside0.mk hb; clear ho hb hg hat)
      go_ret
      exact ⟨_, rfl, HO2.out, HB2.out⟩
end Go.Proofs.YtjajehjhonabdaaX
