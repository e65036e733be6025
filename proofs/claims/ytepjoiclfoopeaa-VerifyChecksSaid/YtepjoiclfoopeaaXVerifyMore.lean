import Derived.Test.YtepjoiclfoopeaaXVerifyMeths
import Derived.Test.YtepjoiclfoopeaaXVerifySpoil
namespace Go.Proofs.YtepjoiclfoopeaaX
open Go.RowKit Go.Proofs.YtepjoiclfoopeaaW.PrintWords Go.Proofs.YtepjoiclfoopeaaW.PrintLast Go.Proofs.YtepjoiclfoopeaaW.PrintMore
set_option linter.unusedVariables false
set_option linter.unusedSimpArgs false
theorem C_move5 {w w' : World} {A : Option Addr} {n : Nat} {xs : List I5} (h : Kd.C kIn w A n xs) (hb : ∀ p : Addr, A = some p → w'.heap[p.block]? = w.heap[p.block]?) : Kd.C kIn w' A n xs := by
  obtain ⟨h1, h2, h3⟩ := h
  refine ⟨h1, h2, fun hp => ?_⟩
  obtain ⟨ad, rfl, h4⟩ := h3 hp
  refine ⟨ad, rfl, fun j p hj => ?_⟩
  obtain ⟨c, c1, c2, c3⟩ := h4 j p hj
  refine ⟨c, c1, c2, fun i u hi => ?_⟩
  have := c3 i u hi
  have e : ∀ k, (ad.add k).block = ad.block := fun k => by unfold Addr.add; split <;> rfl
  unfold World.cell? at this ⊢
  rw [e] at this ⊢
  rw [hb ad rfl]
  exact this
theorem C_moveI {w w' : World} {A : Option Addr} {n : Nat} {xs : List Int} (h : Kd.C (Kd.int .i64) w A n xs) (hb : ∀ p : Addr, A = some p → w'.heap[p.block]? = w.heap[p.block]?) : Kd.C (Kd.int .i64) w' A n xs := by
  obtain ⟨h1, h2, h3⟩ := h
  refine ⟨h1, h2, fun hp => ?_⟩
  obtain ⟨ad, rfl, h4⟩ := h3 hp
  refine ⟨ad, rfl, fun j p hj => ?_⟩
  obtain ⟨c, c1, c2, c3⟩ := h4 j p hj
  refine ⟨c, c1, c2, fun i u hi => ?_⟩
  have := c3 i u hi
  have e : ∀ k, (ad.add k).block = ad.block := fun k => by unfold Addr.add; split <;> rfl
  unfold World.cell? at this ⊢
  rw [e] at this ⊢
  rw [hb ad rfl]
  exact this
/-- What is written into a block ahead of its rows does it no harm. -/
theorem CkB.spoil {base : Nat} {W W2 : World} {g : Nat} {l : List I5} {a b : Int} {o : List Int} (h : CkB base W g l a b o) {row : Option Nat} (hrow : ∀ k, row = some k → k < base) {B : Nat} (hB : Below B W W2) (hk : ∀ k, some k ≠ row → W2.heap[k]? = W.heap[k]?) : CkB base W2 g l a b o := by
  obtain ⟨w0, A0, c0, A3, c3, h1, h2, h3, h4, h5, h6, h7, h8⟩ := h
  cases row with
  | none => exact ⟨w0, A0, c0, A3, c3, (hk g (by simp)).trans h1, h2, ⟨hB.os.trans h3.os, hB.tape.trans h3.tape, hB.output.trans h3.output, Nat.le_trans h3.size hB.size, fun k hlt => (hk k (by simp)).trans (h3.block k hlt)⟩, h4, h5, h6, h7, h8⟩
  | some r =>
    have hr := hrow r rfl
    have hrW : r < W2.heap.size := by have := h3.size; have := hB.size; omega
    have hne : ∀ {k : Nat}, base ≤ k → some k ≠ some r := fun hk e => by injection e with e; omega
    refine ⟨{ w0 with heap := w0.heap.setIfInBounds r W2.heap[r] }, A0, c0, A3, c3, (hk g (hne (by omega))).trans h1, by simpa using h2, ⟨hB.os.trans h3.os, hB.tape.trans h3.tape, hB.output.trans h3.output, by simpa using Nat.le_trans h3.size hB.size, fun k hlt => ?_⟩, C_move5 h4 fun p hp => ?_, C_moveI h5 fun p hp => ?_, by simpa using h6, h7, h8⟩
    · have hlt' : k < w0.heap.size := by simpa using hlt
      show W2.heap[k]? = (w0.heap.setIfInBounds r W2.heap[r])[k]?
      by_cases e : k = r
      · subst e
        rw [Array.getElem?_setIfInBounds_self_of_lt hlt', Array.getElem?_eq_getElem hrW]
      · rw [Array.getElem?_setIfInBounds_ne (Ne.symm e)]
        exact (hk k (fun h => e (Option.some.inj h))).trans (h3.block k hlt')
    · show (w0.heap.setIfInBounds r W2.heap[r])[p.block]? = _
      exact Array.getElem?_setIfInBounds_ne (by have := h7 p hp; omega)
    · show (w0.heap.setIfInBounds r W2.heap[r])[p.block]? = _
      exact Array.getElem?_setIfInBounds_ne (by have := h8 p hp; omega)
def ProgPost (W : World) (l : List I5) (a b : Int) (e : Ending) (w' : World) : Prop := ∃ v, e = .returned (.agg #[v, .int .i64 a, .int .i64 b]) ∧ Kd.R kIn 33 w' W.heap.size (fun _ => True) v l ∧ Below W.heap.size W w'
section
variable {W : World} {g : Nat} {l : List I5} {a b : Int} {o : List Int}
theorem inst_out (h : Ck W g l a b o) (i : Int) (hi : i < 0 ∨ (l.length : Int) ≤ i) : Calls Try.prog 25 #[.pointer (some ⟨g, 0, none⟩), .int .i64 i] W fun e w' => e = .returned (aggIn (0, 0, 0, 0, 0)) ∧ Below W.heap.size W w' := by
  obtain ⟨w0, A0, c0, A3, c3, h1, h2, h3, h4, h5⟩ := h
  have e0 := (blk_cell h1 0).trans rfl
  have hg := blk_lt h1
  have hne : g ≠ W.heap.size := by omega
  have HB := Aside0.mk (fun cs => (Below.refl _ W).alloc (Nat.le_refl _) (.cells cs 33))
  clear h1 h2 h3 h4 h5
  generalize l.length = n at hi e0
  go_enter Try.func25, Try.ntmps25
  by_cases h0 : i < 0
  · go_wp2_with fail
    exact bodyPost_ret (v := aggIn (0, 0, 0, 0, 0)) (by simp [results, Try.results25, go_sem]) rfl ⟨rfl, HB.out _⟩
  · have h1 : (n : Int) ≤ i := by omega
    go_wp2_with fail
    exact bodyPost_ret (v := aggIn (0, 0, 0, 0, 0)) (by simp [results, Try.results25, go_sem]) rfl ⟨rfl, HB.out _⟩
set_option maxHeartbeats 1000000 in
theorem prog_at (h : Ck W g l a b o) (hn : l.length ≤ 100000) : Calls Try.prog 15 #[.pointer (some ⟨g, 0, none⟩)] W (ProgPost W l a b) := by
  obtain ⟨w0, A0, c0, A3, c3, h1, h2, h3, h4, h5⟩ := h
  have e0 := (blk_cell h1 0).trans rfl
  have e1 := (blk_cell h1 1).trans rfl
  have e2 := (blk_cell h1 2).trans rfl
  have hg := blk_lt h1
  have hne : g ≠ W.heap.size := by omega
  have hne1 : g ≠ W.heap.size + 1 := by omega
  have HC := Aside0.mk (fun (W2 : World) (hb : Below W.heap.size W W2) => cloneInst A0 c0 l W2 (Kd.C_below (Kd.C_below h4 h3) hb) hn)
  clear h1 h2 h3 h4 h5
  have HPO := Aside0.mk (show ∀ (e : Ending) (w' : World), (∃ v, e = .returned (.agg #[v, .int .i64 a, .int .i64 b]) ∧ Kd.R kIn 33 w' W.heap.size (fun _ => True) v l ∧ Below W.heap.size W w') → ProgPost W l a b e w' from fun _ _ h => h)
  generalize ProgPost W l a b = PP at HPO ⊢
  go_enter Try.func15, Try.ntmps15
  go_wp2_with fail
  have h0 : ((W.alloc (.cells #[.slice none 0 0, .int .i64 0, .int .i64 0] 24)).alloc (.cells #[.slice A0 l.length c0, .int .i64 a, .int .i64 b] 24)).heap[W.heap.size]? = some (.cells #[.slice none 0 0, .int .i64 0, .int .i64 0] 24 (0, 0)) := ((Below.refl _ _).alloc (Nat.le_refl _) _).block _ (by simp) |>.trans (heap_alloc_last W _)
  have h1 : ((W.alloc (.cells #[.slice none 0 0, .int .i64 0, .int .i64 0] 24)).alloc (.cells #[.slice A0 l.length c0, .int .i64 a, .int .i64 b] 24)).heap[W.heap.size + 1]? = some (.cells #[.slice A0 l.length c0, .int .i64 a, .int .i64 b] 24 (0, 0)) := heap_at (by simp)
  have hb : Below W.heap.size W ((W.alloc (.cells #[.slice none 0 0, .int .i64 0, .int .i64 0] 24)).alloc (.cells #[.slice A0 l.length c0, .int .i64 a, .int .i64 b] 24)) := ((Below.refl _ _).alloc (Nat.le_refl _) _).alloc (by simp) _
  generalize (W.alloc (.cells #[.slice none 0 0, .int .i64 0, .int .i64 0] 24)).alloc (.cells #[.slice A0 l.length c0, .int .i64 a, .int .i64 b] 24) = W2 at h0 h1 hb ⊢
  refine (HC.out W2 hb).mono ?_
  rintro e w3 ⟨v, rfl, hR, hb3⟩
  have hz0 := blk_below h0 hb3
  have hz1 := blk_below h1 hb3
  have hlt := blk_lt h1
  obtain ⟨A2, c2, rfl⟩ := Kd.R_slice hR
  have HR := Aside0.mk (Kd.R_bound hR)
  have HB := Aside0.mk (hb.trans (hb3.mono hb.size))
  have HZ0 := Aside0.mk hz0
  have HZ1 := Aside0.mk hz1
  have HLT := Aside0.mk hlt
  have r0 := (blk_cell hz0 0).trans rfl
  have r1 := (blk_cell hz0 1).trans rfl
  have r2 := (blk_cell hz0 2).trans rfl
  have k0 := (blk_cell hz1 0).trans rfl
  have k1 := (blk_cell hz1 1).trans rfl
  have k2 := (blk_cell hz1 2).trans rfl
  have f0 := blk_frozen hz0 0
  have f1 := blk_frozen hz0 1
  have f2 := blk_frozen hz0 2
  have f3 := blk_frozen hz1 0
  clear h0 h1 hb hR hb3 hz0 hz1 hlt HC
  generalize hnn : l.length = n at *
  go_wp2_with fail
  refine bodyPost_ret (v := .agg #[.slice A2 n c2, .int .i64 a, .int .i64 b]) (results_single (v := .agg #[.slice A2 n c2, .int .i64 a, .int .i64 b]) rfl ?_) rfl (HPO.out _ _ ⟨_, rfl, ?_, ?_⟩)
  · exact Vals.cell W.heap.size 24 #[.slice A2 n c2, .int .i64 a, .int .i64 b] (0, 0) _ rfl (blk_put (blk_put (blk_put (blk_far HZ0.out (p := ⟨W.heap.size + 1, 0, none⟩) (by simp) _) 0 _ rfl) 1 _ rfl) 2 _ rfl) Try.underlying24 rfl (by kernel_rfl) .nil
  · exact Kd.R_mono (Kd.R_lower (Kd.R_far (Kd.R_far (Kd.R_far (Kd.R_far HR.out (p := ⟨W.heap.size + 1, 0, none⟩) (fun k hk => by show k ≠ W.heap.size + 1; have := hk.2.1; have := HLT.out; omega) _) (p := ⟨W.heap.size, 0, none⟩) (fun k hk => by show k ≠ W.heap.size; have := hk.2.1; have := HLT.out; omega) _) (p := ⟨W.heap.size, 1, none⟩) (fun k hk => by show k ≠ W.heap.size; have := hk.2.1; have := HLT.out; omega) _) (p := ⟨W.heap.size, 2, none⟩) (fun k hk => by show k ≠ W.heap.size; have := hk.2.1; have := HLT.out; omega) _) (by have := HLT.out; omega)) (fun _ _ => trivial)
  · exact below_set (below_set (below_set (below_set HB.out (by omega)) (Nat.le_refl _)) (Nat.le_refl _)) (Nat.le_refl _)
end
end Go.Proofs.YtepjoiclfoopeaaX
