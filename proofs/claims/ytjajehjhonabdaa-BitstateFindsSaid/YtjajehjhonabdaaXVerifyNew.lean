import Derived.Test.YtjajehjhonabdaaXVerifyFree
import Derived.Test.YtjajehjhonabdaaXVerifyFits
import Derived.Test.YtjajehjhonabdaaXCloneInst
import Derived.Test.YtjajehjhonabdaaXCloneInt
namespace Go.Proofs.YtjajehjhonabdaaX
open Go.RowKit Go.Proofs.YtjajehjhonabdaaW.PrintWords Go.Proofs.YtjajehjhonabdaaW.PrintLast Go.Proofs.YtjajehjhonabdaaW.PrintMore
set_option linter.unusedVariables false
set_option linter.unusedSimpArgs false
/-- May a program be written? -/
def checkC (l : List I5) (a b : Int) : Int := if 1 ≤ l.length ∧ l.length ≤ 4000 ∧ (0 ≤ a ∧ a < 4000) ∧ 0 ≤ b ∧ b ≤ 64 ∧ l.all fitsB = true then 0 else 130
/-- What is wrong with a program, and its order. -/
def lookC (l : List I5) (a b : Int) : List Int × Int := if checkC l a b ≠ 0 then ([], 130) else if targetsB l a = false then ([], 150) else if slotsB l b = false then ([], 152) else match ordL l with
  | some o => (o, 0)
  | none => ([], 151)
/-- A program that was looked at, where it lies. -/
def Ck (W : World) (g : Nat) (l : List I5) (a b : Int) (o : List Int) : Prop := ∃ w0 A0 c0 A3 c3, W.heap[g]? = some (.cells #[.slice A0 l.length c0, .int .i64 a, .int .i64 b, .slice A3 o.length c3] 54 (0, 0)) ∧ w0.heap.size ≤ g ∧ Below w0.heap.size w0 W ∧ Kd.C kIn w0 A0 l.length l ∧ Kd.C (Kd.int .i64) w0 A3 o.length o
theorem Ck.step {W W' : World} {g : Nat} {l : List I5} {a b : Int} {o : List Int} (h : Ck W g l a b o) (hb : Below W.heap.size W W') : Ck W' g l a b o := by
  obtain ⟨w0, A0, c0, A3, c3, h1, h2, h3, h4⟩ := h
  exact ⟨w0, A0, c0, A3, c3, (hb.block _ (blk_lt h1)).trans h1, h2, h3.trans (hb.mono h3.size), h4⟩
def NewPost (w : World) (l : List I5) (a b : Int) (e : Ending) (w' : World) : Prop :=
  ((lookC l a b).2 ≠ 0 ∧ e = .returned (.tuple #[.pointer none, .int .i64 (lookC l a b).2]) ∧ Below w.heap.size w w') ∨
  ((lookC l a b).2 = 0 ∧ ∃ g, e = .returned (.tuple #[.pointer (some ⟨g, 0, none⟩), .int .i64 0]) ∧ w.heap.size ≤ g ∧ Ck w' g l a b (lookC l a b).1 ∧ Below w.heap.size w w')
/-- .. and its rows are made behind 'base'. -/
def CkB (base : Nat) (W : World) (g : Nat) (l : List I5) (a b : Int) (o : List Int) : Prop := ∃ w0 A0 c0 A3 c3, W.heap[g]? = some (.cells #[.slice A0 l.length c0, .int .i64 a, .int .i64 b, .slice A3 o.length c3] 54 (0, 0)) ∧ w0.heap.size ≤ g ∧ Below w0.heap.size w0 W ∧ Kd.C kIn w0 A0 l.length l ∧ Kd.C (Kd.int .i64) w0 A3 o.length o ∧ base ≤ w0.heap.size ∧ (∀ p : Addr, A0 = some p → base ≤ p.block) ∧ ∀ p : Addr, A3 = some p → base ≤ p.block
theorem CkB.ck {base : Nat} {W : World} {g : Nat} {l : List I5} {a b : Int} {o : List Int} (h : CkB base W g l a b o) : Ck W g l a b o := by
  obtain ⟨w0, A0, c0, A3, c3, h1, h2, h3, h4, h5, _⟩ := h
  exact ⟨w0, A0, c0, A3, c3, h1, h2, h3, h4, h5⟩
theorem CkB.step {base : Nat} {W W' : World} {g : Nat} {l : List I5} {a b : Int} {o : List Int} (h : CkB base W g l a b o) (hb : Below W.heap.size W W') : CkB base W' g l a b o := by
  obtain ⟨w0, A0, c0, A3, c3, h1, h2, h3, h4⟩ := h
  exact ⟨w0, A0, c0, A3, c3, (hb.block _ (blk_lt h1)).trans h1, h2, h3.trans (hb.mono h3.size), h4⟩
def NewPostB (w : World) (l : List I5) (a b : Int) (e : Ending) (w' : World) : Prop :=
  ((lookC l a b).2 ≠ 0 ∧ e = .returned (.tuple #[.pointer none, .int .i64 (lookC l a b).2]) ∧ Below w.heap.size w w') ∨
  ((lookC l a b).2 = 0 ∧ ∃ g, e = .returned (.tuple #[.pointer (some ⟨g, 0, none⟩), .int .i64 0]) ∧ w.heap.size ≤ g ∧ CkB w.heap.size w' g l a b (lookC l a b).1 ∧ Below w.heap.size w w')
def LookAt : Prop := ∀ (A : Option Addr) (c : Nat) (l : List I5) (a b : Int) (w : World), Kd.C kIn w A l.length l → l.length ≤ c → Calls Try.prog 16 #[.agg #[.slice A l.length c, .int .i64 a, .int .i64 b]] w fun e w' => ∃ v, e = .returned (.tuple #[v, .int .i64 (lookC l a b).2]) ∧ Kd.R (Kd.int .i64) 3 w' w.heap.size (fun _ => True) v (lookC l a b).1 ∧ Below w.heap.size w w'
set_option maxHeartbeats 2000000 in
set_option maxRecDepth 100000 in
theorem new_anyB (HLK : LookAt) (A : Option Addr) (c : Nat) (l : List I5) (a b : Int) (w : World) (hC : Kd.C kIn w A l.length l) (hc : l.length ≤ c) (hn : (lookC l a b).2 = 0 → l.length ≤ 4000) : Calls Try.prog 6 #[.agg #[.slice A l.length c, .int .i64 a, .int .i64 b]] w (NewPostB w l a b) := by
  obtain ⟨w0, hw0⟩ : ∃ w0, w0 = w.alloc (.cells #[.slice A l.length c, .int .i64 a, .int .i64 b] 24) := ⟨_, rfl⟩
  have hb0 : Below w.heap.size w w0 := by rw [hw0]; exact (Below.refl _ w).alloc (Nat.le_refl _) _
  have hl0 : w0.heap[w.heap.size]? = some (.cells #[.slice A l.length c, .int .i64 a, .int .i64 b] 24 (0, 0)) := by rw [hw0]; exact heap_alloc_last w _
  have hs0 : w0.heap.size = w.heap.size + 1 := by rw [hw0]; simp
  have HB := Aside0.mk hb0
  have HP := Aside0.mk hl0
  have HC := Aside0.mk (Kd.C_below hC hb0)
  have HLK0 := Aside0.mk (HLK A c l a b w0 (Kd.C_below hC hb0) hc)
  have HW0 := Aside0.mk hw0
  have HS0 := Aside0.mk hs0
  have HPO := Aside0.mk (show NewPostB w l a b = fun e w' => ((lookC l a b).2 ≠ 0 ∧ e = .returned (.tuple #[.pointer none, .int .i64 (lookC l a b).2]) ∧ Below w.heap.size w w') ∨ ((lookC l a b).2 = 0 ∧ ∃ g, e = .returned (.tuple #[.pointer (some ⟨g, 0, none⟩), .int .i64 0]) ∧ w.heap.size ≤ g ∧ CkB w.heap.size w' g l a b (lookC l a b).1 ∧ Below w.heap.size w w') from rfl)
  generalize hPP : NewPostB w l a b = PP at HPO ⊢
  generalize (lookC l a b).2 = code at HLK0 HPO hn
  generalize (lookC l a b).1 = ord at HLK0 HPO
  have p0 : w0.cell? ⟨w.heap.size, 0, none⟩ = some (.slice A l.length c) := (blk_cell HP.out 0).trans rfl
  have p1 : w0.cell? ⟨w.heap.size, 1, none⟩ = some (.int .i64 a) := (blk_cell HP.out 1).trans rfl
  have p2 : w0.cell? ⟨w.heap.size, 2, none⟩ = some (.int .i64 b) := (blk_cell HP.out 2).trans rfl
  have HN := Aside0.mk hn
  have HCL := Aside0.mk (fun (h : l.length ≤ 4000) (W : World) (hh : Kd.C kIn W A l.length l) => cloneInst A c l W hh (by omega))
  clear hC hb0 hl0 hw0 hs0 hn hPP HLK
  generalize hnn : l.length = n at *
  have HNN := Aside0.mk hnn
  clear hnn
  go_enter Try.func6, Try.ntmps6
  go_wp2_with fail
  rw [← HW0.out]
  go_wp2_with fail
  refine HLK0.out.mono ?_
  rintro e w1 ⟨v1, rfl, hR, hb1⟩
  obtain ⟨A1, c1, rfl⟩ := Kd.R_slice hR
  have HR := Aside0.mk hR
  have HB1 := Aside0.mk (HB.out.trans (hb1.mono HB.out.size))
  have HP1 := Aside0.mk ((hb1.block _ (blk_lt HP.out)).trans HP.out)
  have HC1 := Aside0.mk (Kd.C_below HC.out hb1)
  clear hR hb1 p0 p1 p2 HLK0
  by_cases h0 : code = 0
  · subst h0
    have p0 : w1.cell? ⟨w.heap.size, 0, none⟩ = some (.slice A n c) := (blk_cell HP1.out 0).trans rfl
    go_wp2_with fail
    refine (HCL.out (HN.out (by first | exact rfl | trivial)) w1 HC1.out).mono ?_
    rintro e w2 ⟨v2, rfl, hR2, hb2⟩
    obtain ⟨A2, c2, rfl⟩ := Kd.R_slice hR2
    rw [HNN.out] at hR2 ⊢
    have HP2 := Aside0.mk ((hb2.block _ (blk_lt HP1.out)).trans HP1.out)
    have HB2 := Aside0.mk (HB1.out.trans (hb2.mono HB1.out.size))
    have HR1 := Aside0.mk (Kd.R_below (Kd.R_bound HR.out) hb2)
    have HR2 := Aside0.mk (Kd.R_bound hR2)
    have q0 : w2.cell? ⟨w.heap.size, 0, none⟩ = some (.slice A n c) := (blk_cell HP2.out 0).trans rfl
    have q1 : w2.cell? ⟨w.heap.size, 1, none⟩ = some (.int .i64 a) := (blk_cell HP2.out 1).trans rfl
    have q2 : w2.cell? ⟨w.heap.size, 2, none⟩ = some (.int .i64 b) := (blk_cell HP2.out 2).trans rfl
    have qf := blk_frozen HP2.out 0
    have hbld : ∀ W, (Instr.build 54 #[(0, .agg #[.slice A2 n c2, .int .i64 a, .int .i64 b]), (1, .slice A1 ord.length c1)]).run Try.prog W = .ok (.agg #[.slice A2 n c2, .int .i64 a, .int .i64 b, .slice A1 ord.length c1]) W := fun W => run_build W 54 _ _ (by kernel_rfl)
    clear hR2 hb2 p0
    generalize ord.length = m at HR1 hbld ⊢
    go_wp2_with fail
    rw [HPO.out]
    have f1 := Kd.R_far HR1.out (p := ⟨w.heap.size, 0, none⟩) (fun k hk => by show k ≠ w.heap.size; have := hk.2.1; have := HS0.out; omega) (.slice A2 n c2)
    have f2 := Kd.R_far HR2.out (p := ⟨w.heap.size, 0, none⟩) (fun k hk => by show k ≠ w.heap.size; have := hk.2.1; have := (blk_lt HP1.out); omega) (.slice A2 n c2)
    have r1 := Kd.R_reads' f1
    have r2 := Kd.R_reads' f2
    have hB3 : Below w.heap.size w (w2.setCell ⟨w.heap.size, 0, none⟩ (.slice A2 n c2)) := HB2.out.setCell (p := ⟨w.heap.size, 0, none⟩) (Nat.le_refl _) _
    refine .inr ⟨by first | exact rfl | trivial, w2.heap.size, rfl, HB2.out.size, ⟨w2.setCell ⟨w.heap.size, 0, none⟩ (.slice A2 n c2), A2, c2, A1, c1, ?_, by simp, (Below.refl _ _).alloc (Nat.le_refl _) _, ?_, ?_, hB3.size, fun p hp => ?_, fun p hp => ?_⟩, hB3.alloc hB3.size _⟩
    · rw [HNN.out, ← r1.1]
      exact heap_at (by simp)
    · exact r2.2.2
    · exact r1.2.2
    · have := (HR2.out.1 p.block (by rw [hp]; rfl)).2.1
      have := HB1.out.size
      omega
    · have := (HR1.out.1 p.block (by rw [hp]; rfl)).2.1
      have := HS0.out
      omega
  · have h1 : (code != 0) = true := by simpa using h0
    have h2 : (code == 0) = false := by simpa using h0
    go_wp2_with fail
    rw [HPO.out]
    exact .inl ⟨h0, rfl, HB1.out⟩
theorem new_any (HLK : LookAt) (A : Option Addr) (c : Nat) (l : List I5) (a b : Int) (w : World) (hC : Kd.C kIn w A l.length l) (hc : l.length ≤ c) (hn : (lookC l a b).2 = 0 → l.length ≤ 4000) : Calls Try.prog 6 #[.agg #[.slice A l.length c, .int .i64 a, .int .i64 b]] w (NewPost w l a b) :=
  (new_anyB HLK A c l a b w hC hc hn).mono fun e w' h => h.imp id fun ⟨h0, g, h1, h2, h3, h4⟩ => ⟨h0, g, h1, h2, h3.ck, h4⟩
end Go.Proofs.YtjajehjhonabdaaX
