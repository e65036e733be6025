import Derived.Test.YtoihlfiacnljhaaXBandsBits
import Derived.Deep.WholeRow
import Derived.RegionTactic
namespace Go.Proofs.YtoihlfiacnljhaaX
open Go.RowKit Go.Proofs.YtoihlfiacnljhaaW.PrintWords Go.Proofs.YtoihlfiacnljhaaW.PrintLast Go.Proofs.YtoihlfiacnljhaaW.PrintMore
set_option linter.unusedVariables false
set_option linter.unusedSimpArgs false
/-- Two ranges of a range that is no sequence; twice the same: it is one. -/
def partG (lo hi : Int) : List Int → (Int × Int) × (Int × Int)
  | [] => ((lo, hi), (lo, hi))
  | p :: ps => if lo - lo % p = hi - hi % p then partG lo hi ps else if lo % p ≠ 0 then ((lo, lo - lo % p + (p - 1)), (lo - lo % p + (p - 1) + 1, hi)) else if hi % p ≠ p - 1 then ((lo, hi - hi % p - 1), (hi - hi % p, hi)) else partG lo hi ps
def psOf : Nat → List Int
  | 2 => [64]
  | 3 => [64, 4096]
  | 4 => [64, 4096, 262144]
  | _ => []
def PartPost (r : (Int × Int) × (Int × Int)) (w : World) (e : Ending) (w' : World) : Prop := e = .returned (.tuple #[.agg #[.int .i64 r.1.1, .int .i64 r.1.2], .agg #[.int .i64 r.2.1, .int .i64 r.2.2]]) ∧ Below w.heap.size w w'
/-- The two results' cells behind their stores. -/
theorem stored2 {w W : World} {R1 R2 : Nat} {T : TypeId} {a b c d : Value} (h1 : W.heap[R1]? = some (.cells #[.int .i64 0, .int .i64 0] T (0, 0))) (h2 : W.heap[R2]? = some (.cells #[.int .i64 0, .int .i64 0] T (0, 0))) (hne : R1 ≠ R2) (g1 : w.heap.size ≤ R1) (g2 : w.heap.size ≤ R2) (hb : Below w.heap.size w W) :
    ((((W.setCell ⟨R1, 0, none⟩ a).setCell ⟨R1, 1, none⟩ b).setCell ⟨R2, 0, none⟩ c).setCell ⟨R2, 1, none⟩ d).heap[R1]? = some (.cells #[a, b] T (0, 0)) ∧
    ((((W.setCell ⟨R1, 0, none⟩ a).setCell ⟨R1, 1, none⟩ b).setCell ⟨R2, 0, none⟩ c).setCell ⟨R2, 1, none⟩ d).heap[R2]? = some (.cells #[c, d] T (0, 0)) ∧
    Below w.heap.size w ((((W.setCell ⟨R1, 0, none⟩ a).setCell ⟨R1, 1, none⟩ b).setCell ⟨R2, 0, none⟩ c).setCell ⟨R2, 1, none⟩ d) := by
  have e1 := blk_put h1 0 a rfl
  have e2 := blk_put e1 1 b rfl
  have f0 : ((W.setCell ⟨R1, 0, none⟩ a).setCell ⟨R1, 1, none⟩ b).heap[R2]? = some (.cells #[.int .i64 0, .int .i64 0] T (0, 0)) := by
    rw [Below.heap_setCell _ ⟨R1, 1, none⟩ b R2 (Ne.symm hne), Below.heap_setCell _ ⟨R1, 0, none⟩ a R2 (Ne.symm hne)]
    exact h2
  have e3 := blk_put f0 0 c rfl
  have e4 := blk_put e3 1 d rfl
  refine ⟨?_, e4, (((hb.setCell (p := ⟨R1, 0, none⟩) g1 _).setCell (p := ⟨R1, 1, none⟩) g1 _).setCell (p := ⟨R2, 0, none⟩) g2 _).setCell (p := ⟨R2, 1, none⟩) g2 _⟩
  rw [Below.heap_setCell _ ⟨R2, 1, none⟩ d R1 hne, Below.heap_setCell _ ⟨R2, 0, none⟩ c R1 hne]
  exact e2
theorem ret_two {w W : World} {tmps : Array Value} {R1 R2 : Nat} {a b c d : Int} (h1 : W.heap[R1]? = some (.cells #[.int .i64 a, .int .i64 b] 61 (0, 0))) (h2 : W.heap[R2]? = some (.cells #[.int .i64 c, .int .i64 d] 61 (0, 0)))
    (t1 : tmps.getD 6 undef = .pointer (some ⟨R1, 0, none⟩)) (t2 : tmps.getD 7 undef = .pointer (some ⟨R2, 0, none⟩)) (hb : Below w.heap.size w W) :
    bodyPost Try.prog Try.f41 (PartPost ((a, b), (c, d)) w) Exit.ret { tmps := tmps, defers := [] } W := by
  exact bodyPost_ret (results_cc (fn := Try.f41) rfl tmps W R1 R2 _ _ #[.int .i64 a, .int .i64 b] #[.int .i64 c, .int .i64 d] (0, 0) (0, 0) _ _ t1 h1 Try.underlying61 rfl (by kernel_rfl) t2 h2 Try.underlying61 rfl (by kernel_rfl)) rfl ⟨rfl, hb⟩
set_option maxHeartbeats 8000000 in
set_option maxRecDepth 100000 in
theorem parted_any (lo hi : Int) (n : Nat) (hn : 1 ≤ n ∧ n ≤ 4) (h0 : 0 ≤ lo) (h1 : lo ≤ hi) (h2 : hi ≤ 1114111) (w : World) :
    Calls Try.prog 41 #[.int .i64 lo, .int .i64 hi, .int .i64 n] w (PartPost (partG lo hi (psOf n)) w) := by
  obtain ⟨R, hR⟩ : ∃ R, R = partG lo hi (psOf n) := ⟨_, rfl⟩
  have HR := Aside0.mk (show R = partG lo hi ((psOf n).drop (1 - 1)) from hR)
  rw [← hR]
  clear hR
  go_enter Try.func41, Try.ntmps41
  go_wp2_with fail
  have a1 := heap_alloc_last w (.cells #[.int .i64 0, .int .i64 0] 61)
  have b1 : Below w.heap.size w (w.alloc (.cells #[.int .i64 0, .int .i64 0] 61)) := (Below.refl _ w).alloc (Nat.le_refl _) _
  have a2 := heap_alloc_last (w.alloc (.cells #[.int .i64 0, .int .i64 0] 61)) (.cells #[.int .i64 0, .int .i64 0] 61)
  have b2 := (Below.refl _ (w.alloc (.cells #[.int .i64 0, .int .i64 0] 61))).alloc (Nat.le_refl _) (.cells #[.int .i64 0, .int .i64 0] 61)
  have a3 := heap_alloc_last ((w.alloc (.cells #[.int .i64 0, .int .i64 0] 61)).alloc (.cells #[.int .i64 0, .int .i64 0] 61)) (.cells #[.int .i64 lo, .int .i64 hi] 61)
  have b3 := (Below.refl _ ((w.alloc (.cells #[.int .i64 0, .int .i64 0] 61)).alloc (.cells #[.int .i64 0, .int .i64 0] 61))).alloc (Nat.le_refl _) (.cells #[.int .i64 lo, .int .i64 hi] 61)
  have HB := Aside0.mk ((b1.trans (b2.mono b1.size)).trans (b3.mono (Nat.le_trans b1.size b2.size)))
  have HA3 := Aside0.mk a3
  have HA2 := Aside0.mk ((b3.block _ (blk_lt a2)).trans a2)
  have HA1 := Aside0.mk ((b3.block _ (Nat.lt_of_lt_of_le (blk_lt a1) b2.size)).trans ((b2.block _ (blk_lt a1)).trans a1))
  clear a1 a2 a3 b1 b2 b3
  rw [show (w.alloc (.cells #[.int .i64 0, .int .i64 0] 61)).heap.size = w.heap.size + 1 by simp] at HA2
  rw [show ((w.alloc (.cells #[.int .i64 0, .int .i64 0] 61)).alloc (.cells #[.int .i64 0, .int .i64 0] 61)).heap.size = w.heap.size + 1 + 1 by simp] at HA3
  generalize ((w.alloc (.cells #[.int .i64 0, .int .i64 0] 61)).alloc (.cells #[.int .i64 0, .int .i64 0] 61)).alloc (.cells #[.int .i64 lo, .int .i64 hi] 61) = wq at HB HA1 HA2 HA3 ⊢
  go_loopg [9] 3 (fun g s9 wr => ∃ k : Nat, 1 ≤ k ∧ k ≤ n ∧ n - k ≤ g ∧ s9 = .int .i64 k ∧ wq = wr ∧ Aside0 (R = partG lo hi ((psOf n).drop (k - 1))))
  case atStart => exact ⟨1, by omega, by omega, by omega, rfl, rfl, HR⟩
  case round =>
    clear HR
    obtain ⟨k, hk1, hkn, hg, rfl, rfl, HR⟩ := hrel
    have r10 : wq.cell? ⟨w.heap.size, 0, none⟩ = some (.int .i64 0) := (blk_cell HA1.out 0).trans rfl
    have r11 : wq.cell? ⟨w.heap.size, 1, none⟩ = some (.int .i64 0) := (blk_cell HA1.out 1).trans rfl
    have r20 : wq.cell? ⟨w.heap.size + 1, 0, none⟩ = some (.int .i64 0) := (blk_cell HA2.out 0).trans rfl
    have r21 : wq.cell? ⟨w.heap.size + 1, 1, none⟩ = some (.int .i64 0) := (blk_cell HA2.out 1).trans rfl
    have x10 : wq.frozen? ⟨w.heap.size, 0, none⟩ = false := blk_frozen HA1.out 0
    have x11 : wq.frozen? ⟨w.heap.size, 1, none⟩ = false := blk_frozen HA1.out 1
    have x20 : wq.frozen? ⟨w.heap.size + 1, 0, none⟩ = false := blk_frozen HA2.out 0
    have x21 : wq.frozen? ⟨w.heap.size + 1, 1, none⟩ = false := blk_frozen HA2.out 1
    have w0 : wq.cell? ⟨w.heap.size + 1 + 1, 0, none⟩ = some (.int .i64 lo) := (blk_cell HA3.out 0).trans rfl
    have w1 : wq.cell? ⟨w.heap.size + 1 + 1, 1, none⟩ = some (.int .i64 hi) := (blk_cell HA3.out 1).trans rfl
    by_cases hlt : k < n
    · have hcase : k = 1 ∨ k = 2 ∨ k = 3 := by omega
      rcases hcase with rfl | rfl | rfl
      · have hd : (psOf n).drop (1 - 1) = 64 :: (psOf n).drop 1 := by
          have : n = 2 ∨ n = 3 ∨ n = 4 := by omega
          rcases this with rfl | rfl | rfl <;> first | rfl | (exfalso; omega)
        have hp := HR.out
        rw [hd, partG] at hp
        have m1 : bits .andNot .i64 lo 63 = lo - lo % 64 := andNot_low 6 (by decide) lo h0 (by omega)
        have m2 : bits .andNot .i64 hi 63 = hi - hi % 64 := andNot_low 6 (by decide) hi (by omega) (by omega)
        have m3 : bits .and .i64 lo 63 = lo % 64 := and_low 6 (by decide) lo h0 (by omega)
        have m4 : bits .and .i64 hi 63 = hi % 64 := and_low 6 (by decide) hi (by omega) (by omega)
        have m5 : bits .or .i64 lo 63 = lo - lo % 64 + 63 := or_low 6 (by decide) lo h0 (by omega)
        clear hd HR
        by_cases c1 : lo - lo % 64 = hi - hi % 64
        · have z1 : (lo - lo % 64 == hi - hi % 64) = true := by simpa using c1
          rw [if_pos c1] at hp
          have HP := Aside0.mk hp
          clear c1 hp
          go_wp2
          go_roundg (n - (1 + 1))
          case measure => omega
          case rel => exact ⟨1 + 1, by omega, by omega, by omega, rfl, rfl, HP⟩
        · have z1 : (lo - lo % 64 == hi - hi % 64) = false := by simpa using c1
          rw [if_neg c1] at hp
          clear c1
          by_cases c2 : lo % 64 = 0
          · have z2 : (lo % 64 != 0) = false := by simpa using c2
            rw [if_neg (by simpa using c2)] at hp
            clear c2
            by_cases c3 : hi % 64 = 63
            · have z3 : (hi % 64 != 63) = false := by simpa using c3
              rw [if_neg (by simpa using c3)] at hp
              have HP := Aside0.mk hp
              clear c3 hp
              go_wp2
              go_roundg (n - (1 + 1))
              case measure => omega
              case rel => exact ⟨1 + 1, by omega, by omega, by omega, rfl, rfl, HP⟩
            · have z3 : (hi % 64 != 63) = true := by simpa using c3
              rw [if_pos (by simpa using c3)] at hp
              have HP := Aside0.mk hp
              clear c3 hp
              go_wp2
              obtain ⟨e1, e2, e3⟩ := stored2 (a := .int .i64 lo) (b := .int .i64 (hi - hi % 64 - 1)) (c := .int .i64 (hi - hi % 64)) (d := .int .i64 hi) HA1.out HA2.out (by omega) (Nat.le_refl _) (by omega) HB.out
              rw [HP.out]
              exact ret_two e1 e2 rfl rfl e3
          · have z2 : (lo % 64 != 0) = true := by simpa using c2
            rw [if_pos (by simpa using c2)] at hp
            have HP := Aside0.mk hp
            clear c2 hp
            go_wp2
            obtain ⟨e1, e2, e3⟩ := stored2 (a := .int .i64 lo) (b := .int .i64 (lo - lo % 64 + 63)) (c := .int .i64 (lo - lo % 64 + 63 + 1)) (d := .int .i64 hi) HA1.out HA2.out (by omega) (Nat.le_refl _) (by omega) HB.out
            rw [HP.out]
            exact ret_two e1 e2 rfl rfl e3
      · have hd : (psOf n).drop (2 - 1) = 4096 :: (psOf n).drop 2 := by
          have : n = 2 ∨ n = 3 ∨ n = 4 := by omega
          rcases this with rfl | rfl | rfl <;> first | rfl | (exfalso; omega)
        have hp := HR.out
        rw [hd, partG] at hp
        have m1 : bits .andNot .i64 lo 4095 = lo - lo % 4096 := andNot_low 12 (by decide) lo h0 (by omega)
        have m2 : bits .andNot .i64 hi 4095 = hi - hi % 4096 := andNot_low 12 (by decide) hi (by omega) (by omega)
        have m3 : bits .and .i64 lo 4095 = lo % 4096 := and_low 12 (by decide) lo h0 (by omega)
        have m4 : bits .and .i64 hi 4095 = hi % 4096 := and_low 12 (by decide) hi (by omega) (by omega)
        have m5 : bits .or .i64 lo 4095 = lo - lo % 4096 + 4095 := or_low 12 (by decide) lo h0 (by omega)
        clear hd HR
        by_cases c1 : lo - lo % 4096 = hi - hi % 4096
        · have z1 : (lo - lo % 4096 == hi - hi % 4096) = true := by simpa using c1
          rw [if_pos c1] at hp
          have HP := Aside0.mk hp
          clear c1 hp
          go_wp2
          go_roundg (n - (2 + 1))
          case measure => omega
          case rel => exact ⟨2 + 1, by omega, by omega, by omega, rfl, rfl, HP⟩
        · have z1 : (lo - lo % 4096 == hi - hi % 4096) = false := by simpa using c1
          rw [if_neg c1] at hp
          clear c1
          by_cases c2 : lo % 4096 = 0
          · have z2 : (lo % 4096 != 0) = false := by simpa using c2
            rw [if_neg (by simpa using c2)] at hp
            clear c2
            by_cases c3 : hi % 4096 = 4095
            · have z3 : (hi % 4096 != 4095) = false := by simpa using c3
              rw [if_neg (by simpa using c3)] at hp
              have HP := Aside0.mk hp
              clear c3 hp
              go_wp2
              go_roundg (n - (2 + 1))
              case measure => omega
              case rel => exact ⟨2 + 1, by omega, by omega, by omega, rfl, rfl, HP⟩
            · have z3 : (hi % 4096 != 4095) = true := by simpa using c3
              rw [if_pos (by simpa using c3)] at hp
              have HP := Aside0.mk hp
              clear c3 hp
              go_wp2
              obtain ⟨e1, e2, e3⟩ := stored2 (a := .int .i64 lo) (b := .int .i64 (hi - hi % 4096 - 1)) (c := .int .i64 (hi - hi % 4096)) (d := .int .i64 hi) HA1.out HA2.out (by omega) (Nat.le_refl _) (by omega) HB.out
              rw [HP.out]
              exact ret_two e1 e2 rfl rfl e3
          · have z2 : (lo % 4096 != 0) = true := by simpa using c2
            rw [if_pos (by simpa using c2)] at hp
            have HP := Aside0.mk hp
            clear c2 hp
            go_wp2
            obtain ⟨e1, e2, e3⟩ := stored2 (a := .int .i64 lo) (b := .int .i64 (lo - lo % 4096 + 4095)) (c := .int .i64 (lo - lo % 4096 + 4095 + 1)) (d := .int .i64 hi) HA1.out HA2.out (by omega) (Nat.le_refl _) (by omega) HB.out
            rw [HP.out]
            exact ret_two e1 e2 rfl rfl e3
      · have hd : (psOf n).drop (3 - 1) = 262144 :: (psOf n).drop 3 := by
          have : n = 2 ∨ n = 3 ∨ n = 4 := by omega
          rcases this with rfl | rfl | rfl <;> first | rfl | (exfalso; omega)
        have hp := HR.out
        rw [hd, partG] at hp
        have m1 : bits .andNot .i64 lo 262143 = lo - lo % 262144 := andNot_low 18 (by decide) lo h0 (by omega)
        have m2 : bits .andNot .i64 hi 262143 = hi - hi % 262144 := andNot_low 18 (by decide) hi (by omega) (by omega)
        have m3 : bits .and .i64 lo 262143 = lo % 262144 := and_low 18 (by decide) lo h0 (by omega)
        have m4 : bits .and .i64 hi 262143 = hi % 262144 := and_low 18 (by decide) hi (by omega) (by omega)
        have m5 : bits .or .i64 lo 262143 = lo - lo % 262144 + 262143 := or_low 18 (by decide) lo h0 (by omega)
        clear hd HR
        by_cases c1 : lo - lo % 262144 = hi - hi % 262144
        · have z1 : (lo - lo % 262144 == hi - hi % 262144) = true := by simpa using c1
          rw [if_pos c1] at hp
          have HP := Aside0.mk hp
          clear c1 hp
          go_wp2
          go_roundg (n - (3 + 1))
          case measure => omega
          case rel => exact ⟨3 + 1, by omega, by omega, by omega, rfl, rfl, HP⟩
        · have z1 : (lo - lo % 262144 == hi - hi % 262144) = false := by simpa using c1
          rw [if_neg c1] at hp
          clear c1
          by_cases c2 : lo % 262144 = 0
          · have z2 : (lo % 262144 != 0) = false := by simpa using c2
            rw [if_neg (by simpa using c2)] at hp
            clear c2
            by_cases c3 : hi % 262144 = 262143
            · have z3 : (hi % 262144 != 262143) = false := by simpa using c3
              rw [if_neg (by simpa using c3)] at hp
              have HP := Aside0.mk hp
              clear c3 hp
              go_wp2
              go_roundg (n - (3 + 1))
              case measure => omega
              case rel => exact ⟨3 + 1, by omega, by omega, by omega, rfl, rfl, HP⟩
            · have z3 : (hi % 262144 != 262143) = true := by simpa using c3
              rw [if_pos (by simpa using c3)] at hp
              have HP := Aside0.mk hp
              clear c3 hp
              go_wp2
              obtain ⟨e1, e2, e3⟩ := stored2 (a := .int .i64 lo) (b := .int .i64 (hi - hi % 262144 - 1)) (c := .int .i64 (hi - hi % 262144)) (d := .int .i64 hi) HA1.out HA2.out (by omega) (Nat.le_refl _) (by omega) HB.out
              rw [HP.out]
              exact ret_two e1 e2 rfl rfl e3
          · have z2 : (lo % 262144 != 0) = true := by simpa using c2
            rw [if_pos (by simpa using c2)] at hp
            have HP := Aside0.mk hp
            clear c2 hp
            go_wp2
            obtain ⟨e1, e2, e3⟩ := stored2 (a := .int .i64 lo) (b := .int .i64 (lo - lo % 262144 + 262143)) (c := .int .i64 (lo - lo % 262144 + 262143 + 1)) (d := .int .i64 hi) HA1.out HA2.out (by omega) (Nat.le_refl _) (by omega) HB.out
            rw [HP.out]
            exact ret_two e1 e2 rfl rfl e3
    · have hkn' : k = n := by omega
      subst hkn'
      have hp := HR.out
      have hd : (psOf k).drop (k - 1) = [] := by
        have : k = 1 ∨ k = 2 ∨ k = 3 ∨ k = 4 := by omega
        rcases this with rfl | rfl | rfl | rfl <;> rfl
      rw [hd, partG] at hp
      have HP := Aside0.mk hp
      clear hp hd HR
      go_wp2_with fail
      go_region
      go_wp2
      obtain ⟨e1, e2, e3⟩ := stored2 (a := .int .i64 lo) (b := .int .i64 hi) (c := .int .i64 lo) (d := .int .i64 hi) HA1.out HA2.out (by omega) (Nat.le_refl _) (by omega) HB.out
      rw [HP.out]
      exact ret_two e1 e2 rfl rfl ⟨e3.os, e3.tape, e3.output, e3.size, e3.block⟩
end Go.Proofs.YtoihlfiacnljhaaX
