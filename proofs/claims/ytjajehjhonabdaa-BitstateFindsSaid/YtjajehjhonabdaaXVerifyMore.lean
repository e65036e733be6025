import Derived.Test.YtjajehjhonabdaaXVerifyMeths
import Derived.Test.YtjajehjhonabdaaXVerifySpoil
namespace Go.Proofs.YtjajehjhonabdaaX
open Go.RowKit Go.Proofs.YtjajehjhonabdaaW.PrintWords Go.Proofs.YtjajehjhonabdaaW.PrintLast Go.Proofs.YtjajehjhonabdaaW.PrintMore
set_option linter.unusedVariables false
set_option linter.unusedSimpArgs false
theorem C_move5 {w w' : World} {A : Option Addr} {n : Nat} {xs : List I5} (h : Kd.C kIn w A n xs) (hb : ∀ p : Addr, A = some p → w'.heap[p.block]? = w.heap[p.block]?) : Kd.C kIn w' A n xs := by
  obtain ⟨h1, h2, h3⟩ := h
  refine ⟨h1, h2, fun hp => ?_⟩
  obtain ⟨ad, rfl, h4⟩ := h3 hp
  refine ⟨ad, rfl, fun j p hj => ?_⟩
  obtain ⟨c, c1, c2, c3⟩ := h4 j p hj
  refine ⟨c, c1, c2, fun i u hi => ?_⟩
  have := c3 i u hi
  have e : ∀ k, (ad.add k).block = ad.block := fun k => by unfold Addr.add; split <;> rfl
  unfold World.cell? at this ⊢
  rw [e] at this ⊢
  rw [hb ad rfl]
  exact this
theorem C_moveI {w w' : World} {A : Option Addr} {n : Nat} {xs : List Int} (h : Kd.C (Kd.int .i64) w A n xs) (hb : ∀ p : Addr, A = some p → w'.heap[p.block]? = w.heap[p.block]?) : Kd.C (Kd.int .i64) w' A n xs := by
  obtain ⟨h1, h2, h3⟩ := h
  refine ⟨h1, h2, fun hp => ?_⟩
  obtain ⟨ad, rfl, h4⟩ := h3 hp
  refine ⟨ad, rfl, fun j p hj => ?_⟩
  obtain ⟨c, c1, c2, c3⟩ := h4 j p hj
  refine ⟨c, c1, c2, fun i u hi => ?_⟩
  have := c3 i u hi
  have e : ∀ k, (ad.add k).block = ad.block := fun k => by unfold Addr.add; split <;> rfl
  unfold World.cell? at this ⊢
  rw [e] at this ⊢
  rw [hb ad rfl]
  exact this
/-- What is written into a block ahead of its rows does it no harm. -/
theorem CkB.spoil {base : Nat} {W W2 : World} {g : Nat} {l : List I5} {a b : Int} {o : List Int} (h : CkB base W g l a b o) {row : Option Nat} (hrow : ∀ k, row = some k → k < base) {B : Nat} (hB : Below B W W2) (hk : ∀ k, some k ≠ row → W2.heap[k]? = W.heap[k]?) : CkB base W2 g l a b o := by
  obtain ⟨w0, A0, c0, A3, c3, h1, h2, h3, h4, h5, h6, h7, h8⟩ := h
  cases row with
  | none => exact ⟨w0, A0, c0, A3, c3, (hk g (by simp)).trans h1, h2, ⟨hB.os.trans h3.os, hB.tape.trans h3.tape, hB.output.trans h3.output, Nat.le_trans h3.size hB.size, fun k hlt => (hk k (by simp)).trans (h3.block k hlt)⟩, h4, h5, h6, h7, h8⟩
  | some r =>
    have hr := hrow r rfl
    have hrW : r < W2.heap.size := by have := h3.size; have := hB.size; omega
    have hne : ∀ {k : Nat}, base ≤ k → some k ≠ some r := fun hk e => by injection e with e; omega
    refine ⟨{ w0 with heap := w0.heap.setIfInBounds r W2.heap[r] }, A0, c0, A3, c3, (hk g (hne (by omega))).trans h1, by simpa using h2, ⟨hB.os.trans h3.os, hB.tape.trans h3.tape, hB.output.trans h3.output, by simpa using Nat.le_trans h3.size hB.size, fun k hlt => ?_⟩, C_move5 h4 fun p hp => ?_, C_moveI h5 fun p hp => ?_, by simpa using h6, h7, h8⟩
    · have hlt' : k < w0.heap.size := by simpa using hlt
      show W2.heap[k]? = (w0.heap.setIfInBounds r W2.heap[r])[k]?
      by_cases e : k = r
      · subst e
        rw [Array.getElem?_setIfInBounds_self_of_lt hlt', Array.getElem?_eq_getElem hrW]
      · rw [Array.getElem?_setIfInBounds_ne (Ne.symm e)]
        exact (hk k (fun h => e (Option.some.inj h))).trans (h3.block k hlt')
    · show (w0.heap.setIfInBounds r W2.heap[r])[p.block]? = _
      exact Array.getElem?_setIfInBounds_ne (by have := h7 p hp; omega)
    · show (w0.heap.setIfInBounds r W2.heap[r])[p.block]? = _
      exact Array.getElem?_setIfInBounds_ne (by have := h8 p hp; omega)
def ProgPost (W : World) (l : List I5) (a b : Int) (e : Ending) (w' : World) : Prop := ∃ v, e = .returned (.agg #[v, .int .i64 a, .int .i64 b]) ∧ Kd.R kIn 52 w' W.heap.size (fun _ => True) v l ∧ Below W.heap.size W w'
section
variable {W : World} {g : Nat} {l : List I5} {a b : Int} {o : List Int}
theorem inst_out (h : Ck W g l a b o) (i : Int) (hi : i < 0 ∨ (l.length : Int) ≤ i) : Calls Try.prog 49 #[.pointer (some ⟨g, 0, none⟩), .int .i64 i] W fun e w' => e = .returned (aggIn (0, 0, 0, 0, 0)) ∧ Below W.heap.size W w' := by
  obtain ⟨w0, A0, c0, A3, c3, h1, h2, h3, h4, h5⟩ := h
  have e0 := (blk_cell h1 0).trans rfl
  have hg := blk_lt h1
  have hne : g ≠ W.heap.size := by omega
  have HB := Aside0.mk (fun cs => (Below.refl _ W).alloc (Nat.le_refl _) (.cells cs 52))
  clear h1 h2 h3 h4 h5
  generalize l.length = n at hi e0
  go_enter Try.func49, Try.ntmps49
  by_cases h0 : i < 0
  · go_wp2_with fail
    exact bodyPost_ret (v := aggIn (0, 0, 0, 0, 0)) (by simp [results, Try.results49, go_sem]) rfl ⟨rfl, HB.out _⟩
  · have h1 : (n : Int) ≤ i := by omega
    go_wp2_with fail
    exact bodyPost_ret (v := aggIn (0, 0, 0, 0, 0)) (by simp [results, Try.results49, go_sem]) rfl ⟨rfl, HB.out _⟩
end
end Go.Proofs.YtjajehjhonabdaaX
