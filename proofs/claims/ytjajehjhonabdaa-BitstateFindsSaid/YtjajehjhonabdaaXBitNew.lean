import Derived.Test.YtjajehjhonabdaaXBitA
import Derived.OwnWalk
namespace Go.Proofs.YtjajehjhonabdaaX
open Go.RowKit Go.Proofs.YtjajehjhonabdaaW.PrintWords Go.Proofs.YtjajehjhonabdaaW.PrintLast Go.Proofs.YtjajehjhonabdaaW.PrintMore
set_option linter.unusedVariables false
set_option linter.unusedSimpArgs false
/-! marks.New. -/
theorem marks_new (k : Nat) {w1 : World} {base g rows cols : Nat} (ho : w1.ownsRow base 124 1 (.slice (some ⟨g, 0, none⟩) k k) k (madeCells #[.int .u64 0] (k * 1)).toList) (hrc : rows * cols ≤ 64 * k) : MarksI (w1.alloc (.cells #[.int .i64 rows, .int .i64 cols, .slice (some ⟨g, 0, none⟩) k k] 99)) w1.heap.size g rows cols [] := by
  obtain ⟨hl, ho⟩ := ho
  rcases ho with ⟨h1, _⟩ | ⟨g', cap, cur, hv, hg, hh, hle, hmax, hsz, hc⟩
  · cases h1
  · injection hv with e1 e2 e3
    injection e1 with e1
    injection e1 with e1
    subst e1 e3
    have hcur : cur = wordCells (List.replicate k 0) := by
      apply Array.ext'
      rw [Nat.mul_one, List.take_of_length_le (by simp; omega)] at hc
      rw [hc]
      unfold wordCells madeCells
      simp
      apply List.ext_getElem
      · simp
      · intro i h1 h2
        simp [Nat.mod_one]
    subst hcur
    refine ⟨List.replicate k 0, ?_, ?_, ?_, ?_, ?_, ?_⟩
    · rw [List.length_replicate]; exact blk_new w1 _
    · exact ((Below.refl _ w1).alloc (Nat.le_refl _) _).block g (blk_lt hh) |>.trans hh
    · have := blk_lt hh; omega
    · rw [List.length_replicate]; exact hrc
    · intro x hx
      rw [(List.mem_replicate.1 hx).2]
      decide
    · intro j hj
      unfold bitOf
      rw [List.getD_eq_getElem?_getD, List.getElem?_replicate]
      split <;> simp
theorem info_u64 : (Try.prog.info? 124).map (fun i => (i.zero, i.size, i.bytes)) = some (some (.int .u64 0), 1, 8) := by kernel_rfl
set_option maxRecDepth 20000 in
theorem new_marks (rows cols : Nat) (hr : 1 ≤ rows) (hc : 1 ≤ cols) (hm : rows * cols ≤ 262144) (w : World) : Calls Try.prog 19 #[.int .i64 rows, .int .i64 cols] w fun e w' => ∃ gm gd, e = .returned (.tuple #[.pointer (some ⟨gm, 0, none⟩), .int .i64 0]) ∧ w.heap.size ≤ gm ∧ w.heap.size ≤ gd ∧ MarksI w' gm gd rows cols [] ∧ Below w.heap.size w w' := by
  have h0 : ((rows : Int) < 1) = False := eq_false (by omega)
  have h1 : ((cols : Int) < 1) = False := eq_false (by omega)
  have hd : Int.tdiv 262144 (cols : Int) = ((262144 / cols : Nat) : Int) := by rw [Int.tdiv_eq_ediv_of_nonneg (by decide)]; rfl
  have hle : rows ≤ 262144 / cols := (Nat.le_div_iff_mul_le (by omega)).2 hm
  have hq : 262144 / cols ≤ 262144 := Nat.div_le_self _ _
  have h2 : (((262144 / cols : Nat) : Int) < (rows : Int)) = False := eq_false (by omega)
  have hz : ((cols : Int) == 0) = false := beq_eq_false_iff_ne.2 (by omega)
  have wd : IntKind.i64.wrap ((262144 / cols : Nat) : Int) = ((262144 / cols : Nat) : Int) := by rw [IntKind.wrap_i64]; omega
  have m1 : IntKind.i64.wrap ((rows : Int) * (cols : Int)) = ((rows * cols : Nat) : Int) := by rw [show (rows : Int) * (cols : Int) = ((rows * cols : Nat) : Int) by simp, IntKind.wrap_i64]; omega
  generalize 262144 / cols = dv at hd h2 wd
  obtain ⟨k, hk⟩ : ∃ k, (rows * cols + 63) / 64 = k := ⟨_, rfl⟩
  generalize hrc : rows * cols = rc at m1 hk hm
  have m2 : IntKind.i64.wrap ((rc : Int) + 64) = (rc : Int) + 64 := by rw [IntKind.wrap_i64]; omega
  have m3 : IntKind.i64.wrap ((rc : Int) + 64 - 1) = (rc : Int) + 63 := by rw [IntKind.wrap_i64]; omega
  have m4 : Int.tdiv ((rc : Int) + 63) 64 = (k : Int) := by rw [Int.tdiv_eq_ediv_of_nonneg (by omega)]; omega
  have m5 : IntKind.i64.wrap (k : Int) = (k : Int) := by rw [IntKind.wrap_i64]; omega
  have hk2 : k ≤ 5000 := by omega
  clear hle hq
  go_enter Try.func19, Try.ntmps19
  obtain ⟨i0, hi, hz0, hz1, hz2⟩ := info_parts info_u64
  have HI := Aside0.mk hi
  have HZ := Aside0.mk (And.intro hz0 (And.intro hz1 hz2))
  have HB := Aside0.mk (Below.refl w.heap.size w)
  clear hi hz0 hz1 hz2
  go_wp2_with (first | (at_make; refine wpList_make_full _ rfl _ _ 97 rfl w.heap.size 124 i0 (.int .u64 0) 1 Try.underlying97 HI.out HZ.out.1 HZ.out.2.1 _ _ _ _ k rfl rfl ?c0 ?c1 ?c2 ?c3 (Nat.le_refl _) ?_; (case c0 => rfl); (case c1 => rfl); (case c2 => rw [HZ.out.2.2]; omega); (case c3 => unfold maxLen; omega); intro w1 ho hg; have HO := Aside0.mk ho; have HB1 := Aside0.mk (HB.out.grown hg (Nat.le_refl _) (fun k hk => by cases hk)); clear ho hg))
  go_ret2
  have hn := marks_new k (rows := rows) (cols := cols) HO.out
  exact ⟨w1.heap.size, w.heap.size, rfl, HB1.out.size, Nat.le_refl _, hn (by rw [hrc]; omega), HB1.out.alloc HB1.out.size _⟩
end Go.Proofs.YtjajehjhonabdaaX
