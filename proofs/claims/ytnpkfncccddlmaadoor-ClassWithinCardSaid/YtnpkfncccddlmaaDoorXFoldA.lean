import Derived.Test.YtnpkfncccddlmaaDoorXSort
import Derived.Test.YtnpkfncccddlmaaDoorXShelf
import Derived.Test.YtnpkfncccddlmaaDoorProg
import Derived.Below
import Derived.WalkKit
import Derived.KernelRfl
import Derived.RowKit3
import Derived.Deep.LoopGhost
import Derived.Deep.QuietTactic
import Derived.BigQuiet
import Derived.Deep.DeepCutAuto
import Derived.Deep.WholeRow
import Derived.OwnWalk
import Derived.Test.YtnpkfncccddlmaaDoorWMore
import Derived.Test.YtnpkfncccddlmaaDoorWKept
namespace Go.Proofs.YtnpkfncccddlmaaDoorX
open Go.RowKit Go.Sort Go.Proofs.YtnpkfncccddlmaaDoorW.PrintWords
/-- slices.Sort at []int, over a row of the call's own. -/
theorem sortInts_calls (P0_ : Nat → Prop) (u9000_ : Value) (l0 : List Int) (w0 w : World) (hB : Below w0.heap.size w0 w) (ho0 : Kd.R (Kd.int .i64) 3 w w0.heap.size P0_ u9000_ l0) (hs : l0.length < 4611686018427387904) :
    Calls Tryd.prog 67 #[u9000_] w fun e w' => e = .returned (.tuple #[]) ∧ Kd.R (Kd.int .i64) 3 w' w0.heap.size (fun k_ => (P0_ k_ ∨ w.heap.size ≤ k_)) u9000_ (l0.mergeSort fun x y => decide (x ≤ y)) ∧ Below w0.heap.size w0 w' ∧ Kept w w' (fun k_ => P0_ k_) := by
  have hR := (fixed_R (fixed_int .i64)).1 ho0
  rcases own_cases hR.2 with ⟨rfl, h0⟩ | ⟨g, cap, rfl⟩
  · obtain rfl := List.length_eq_zero_iff.1 h0
    exact (AnyM.slices_Sort_int_none Tryd.lay_sortInt none 0 w).mono fun e w' ⟨he, hw⟩ => by
      subst hw
      exact ⟨he, by rw [List.mergeSort_nil]; exact row_none hB ho0⟩
  · have hb := own_block_lt hR.2
    have hm : ∀ l : List Int, l.flatMap (fun x => [Value.int .i64 x]) = l.map (Value.int .i64) := fun l => by induction l <;> simp_all
    refine (AnyM.slices_Sort_int Tryd.lay_sortInt g 0 cap l0 w (holds_of_own _ hR.2 (by rw [hm])) hb.1 hs).mono fun e w' ⟨he, n, os, hw⟩ => ?_
    subst hw
    exact ⟨he, row_put (fixed_int .i64) _ hB ho0 (List.length_mergeSort _) (by rw [hm])⟩
end Go.Proofs.YtnpkfncccddlmaaDoorX

namespace Go.Proofs.YtnpkfncccddlmaaDoorX
open Go.RowKit Go.Proofs.YtnpkfncccddlmaaDoorW.PrintWords Go.Proofs.YtnpkfncccddlmaaDoorW.PrintLast Go.Proofs.YtnpkfncccddlmaaDoorW.PrintMore
set_option linter.unusedVariables false
set_option linter.unusedSimpArgs false
def othersV : Value := .agg #[.int .i64 255, .int .i64 376, .int .i64 181, .int .i64 924, .int .i64 962, .int .i64 931, .int .i64 8490, .int .i64 75, .int .i64 8491, .int .i64 197, .int .i64 383, .int .i64 83, .int .i64 8486, .int .i64 937]
def blocksV : Value := .agg #[.int .i64 65, .int .i64 90, .int .i64 32, .int .i64 192, .int .i64 214, .int .i64 32, .int .i64 216, .int .i64 222, .int .i64 32, .int .i64 913, .int .i64 929, .int .i64 32, .int .i64 931, .int .i64 939, .int .i64 32, .int .i64 1040, .int .i64 1071, .int .i64 32, .int .i64 1024, .int .i64 1039, .int .i64 80]
def othersL : List (Int × Int) := [(255, 376), (181, 924), (962, 931), (8490, 75), (8491, 197), (383, 83), (8486, 937)]
def blocksL : List (Int × Int × Int) := [(65, 90, 32), (192, 214, 32), (216, 222, 32), (913, 929, 32), (931, 939, 32), (1040, 1071, 32), (1024, 1039, 80)]
set_option maxHeartbeats 400000 in
theorem others_any (w : World) : Calls Tryd.prog 48 #[] w fun e w' => e = .returned othersV ∧ Below w.heap.size w w' := by
  go_enter Tryd.func48, Tryd.ntmps48
  go_wp2_with (refine wpList_store_row rfl 71 (.tmp 0) (.tmp 8) rfl w.heap.size #[.int .i64 255, .int .i64 376, .int .i64 181, .int .i64 924, .int .i64 962, .int .i64 931, .int .i64 8490, .int .i64 75, .int .i64 8491, .int .i64 197, .int .i64 383, .int .i64 83, .int .i64 8486, .int .i64 937] rfl rfl 71 #[.int .i64 0, .int .i64 0, .int .i64 0, .int .i64 0, .int .i64 0, .int .i64 0, .int .i64 0, .int .i64 0, .int .i64 0, .int .i64 0, .int .i64 0, .int .i64 0, .int .i64 0, .int .i64 0] (heap_alloc_last w _) (by kernel_rfl) rfl (by kernel_rfl) ?_)
  rw [World.setRow_alloc_new]
  exact bodyPost_ret (v := othersV) (results_single rfl (.cell _ _ _ _ _ rfl (heap_alloc_last _ _) Tryd.underlying71 rfl (by kernel_rfl) .nil)) rfl ⟨rfl, (Below.refl _ _).alloc (Nat.le_refl _) _⟩
set_option maxHeartbeats 400000 in
theorem blocks_any (w : World) : Calls Tryd.prog 47 #[] w fun e w' => e = .returned blocksV ∧ Below w.heap.size w w' := by
  go_enter Tryd.func47, Tryd.ntmps47
  go_wp2_with (refine wpList_store_row rfl 67 (.tmp 0) (.tmp 8) rfl w.heap.size #[.int .i64 65, .int .i64 90, .int .i64 32, .int .i64 192, .int .i64 214, .int .i64 32, .int .i64 216, .int .i64 222, .int .i64 32, .int .i64 913, .int .i64 929, .int .i64 32, .int .i64 931, .int .i64 939, .int .i64 32, .int .i64 1040, .int .i64 1071, .int .i64 32, .int .i64 1024, .int .i64 1039, .int .i64 80] rfl rfl 67 #[.int .i64 0, .int .i64 0, .int .i64 0, .int .i64 0, .int .i64 0, .int .i64 0, .int .i64 0, .int .i64 0, .int .i64 0, .int .i64 0, .int .i64 0, .int .i64 0, .int .i64 0, .int .i64 0, .int .i64 0, .int .i64 0, .int .i64 0, .int .i64 0, .int .i64 0, .int .i64 0, .int .i64 0] (heap_alloc_last w _) (by kernel_rfl) rfl (by kernel_rfl) ?_)
  rw [World.setRow_alloc_new]
  exact bodyPost_ret (v := blocksV) (results_single rfl (.cell _ _ _ _ _ rfl (heap_alloc_last _ _) Tryd.underlying67 rfl (by kernel_rfl) .nil)) rfl ⟨rfl, (Below.refl _ _).alloc (Nat.le_refl _) _⟩
def capB : List (Int × Int × Int) → Int → Int
  | [], r => r
  | (lo, hi, up) :: t, r => if lo + up ≤ r ∧ r ≤ hi + up then r - up else capB t r
def capO : List (Int × Int) → Int → Int
  | [], r => capB blocksL r
  | (a, b) :: t, r => if a = r then b else capO t r
def capF (r : Int) : Int := capO othersL r
theorem capB_no {lo hi up r : Int} {t : List (Int × Int × Int)} (h : ¬ (lo + up ≤ r ∧ r ≤ hi + up)) : capB ((lo, hi, up) :: t) r = capB t r := if_neg h
theorem capB_yes {lo hi up r : Int} {t : List (Int × Int × Int)} (h : lo + up ≤ r ∧ r ≤ hi + up) : capB ((lo, hi, up) :: t) r = r - up := if_pos h
theorem ret_i {a b : Int} (h : a = b) : Ending.returned (.int .i64 a) = .returned (.int .i64 b) := by rw [h]
theorem oi0 (w : World) : (Instr.index 71 othersV (.int .i64 0)).run Tryd.prog w = .ok (.agg #[.int .i64 255, .int .i64 376]) w := by kernel_rfl
theorem oi1 (w : World) : (Instr.index 71 othersV (.int .i64 1)).run Tryd.prog w = .ok (.agg #[.int .i64 181, .int .i64 924]) w := by kernel_rfl
theorem oi2 (w : World) : (Instr.index 71 othersV (.int .i64 2)).run Tryd.prog w = .ok (.agg #[.int .i64 962, .int .i64 931]) w := by kernel_rfl
theorem oi3 (w : World) : (Instr.index 71 othersV (.int .i64 3)).run Tryd.prog w = .ok (.agg #[.int .i64 8490, .int .i64 75]) w := by kernel_rfl
theorem oi4 (w : World) : (Instr.index 71 othersV (.int .i64 4)).run Tryd.prog w = .ok (.agg #[.int .i64 8491, .int .i64 197]) w := by kernel_rfl
theorem oi5 (w : World) : (Instr.index 71 othersV (.int .i64 5)).run Tryd.prog w = .ok (.agg #[.int .i64 383, .int .i64 83]) w := by kernel_rfl
theorem oi6 (w : World) : (Instr.index 71 othersV (.int .i64 6)).run Tryd.prog w = .ok (.agg #[.int .i64 8486, .int .i64 937]) w := by kernel_rfl
theorem bi0 (w : World) : (Instr.index 67 blocksV (.int .i64 0)).run Tryd.prog w = .ok (.agg #[.int .i64 65, .int .i64 90, .int .i64 32]) w := by kernel_rfl
theorem bi1 (w : World) : (Instr.index 67 blocksV (.int .i64 1)).run Tryd.prog w = .ok (.agg #[.int .i64 192, .int .i64 214, .int .i64 32]) w := by kernel_rfl
theorem bi2 (w : World) : (Instr.index 67 blocksV (.int .i64 2)).run Tryd.prog w = .ok (.agg #[.int .i64 216, .int .i64 222, .int .i64 32]) w := by kernel_rfl
theorem bi3 (w : World) : (Instr.index 67 blocksV (.int .i64 3)).run Tryd.prog w = .ok (.agg #[.int .i64 913, .int .i64 929, .int .i64 32]) w := by kernel_rfl
theorem bi4 (w : World) : (Instr.index 67 blocksV (.int .i64 4)).run Tryd.prog w = .ok (.agg #[.int .i64 931, .int .i64 939, .int .i64 32]) w := by kernel_rfl
theorem bi5 (w : World) : (Instr.index 67 blocksV (.int .i64 5)).run Tryd.prog w = .ok (.agg #[.int .i64 1040, .int .i64 1071, .int .i64 32]) w := by kernel_rfl
theorem bi6 (w : World) : (Instr.index 67 blocksV (.int .i64 6)).run Tryd.prog w = .ok (.agg #[.int .i64 1024, .int .i64 1039, .int .i64 80]) w := by kernel_rfl
set_option maxHeartbeats 4000000 in
theorem capital_any (r : Int) (w : World) : Calls Tryd.prog 66 #[.int .i64 r] w fun e w' => e = .returned (.int .i64 (capF r)) ∧ Below w.heap.size w w' := by
  go_enter Tryd.func66, Tryd.ntmps66
  go_wp2_with (go_at_call 48; refine (others_any _).mono ?_; rintro e w' ⟨rfl, hb⟩)
  go_loopg [8] 7 (fun g s8 wr => ∃ k : Nat, k ≤ 7 ∧ 7 - k ≤ g ∧ s8 = .int .i64 k ∧ Aside (Below w.heap.size w wr) ∧ Aside (capF r = capO (othersL.drop k) r))
  case atStart => exact ⟨0, by omega, by omega, rfl, hb, rfl⟩
  case round =>
    obtain ⟨k, hk, hg, rfl, BW, A⟩ := hrel
    clear hb
    have hcase : k = 7 ∨ k = 0 ∨ k = 1 ∨ k = 2 ∨ k = 3 ∨ k = 4 ∨ k = 5 ∨ k = 6 := by omega
    rcases hcase with rfl | rfl | rfl | rfl | rfl | rfl | rfl | rfl
    · go_wp2_with (go_at_call 47; refine (blocks_any _).mono ?_; rintro e w2 ⟨rfl, hb2⟩)
      have BW2 : Aside (Below w.heap.size w w2) := BW.out.trans (hb2.mono BW.out.size)
      clear hb2 BW
      go_loopg [19] 7 (fun g s19 wr2 => ∃ k : Nat, k ≤ 7 ∧ 7 - k ≤ g ∧ s19 = .int .i64 k ∧ Aside (Below w.heap.size w wr2) ∧ Aside (capF r = capB (blocksL.drop k) r))
      case atStart => exact ⟨0, by omega, by omega, rfl, BW2, A⟩
      case round =>
        obtain ⟨j, hj, hg2, rfl, BW3, A3⟩ := hrel
        clear BW2 A
        have hcase : j = 7 ∨ j = 0 ∨ j = 1 ∨ j = 2 ∨ j = 3 ∨ j = 4 ∨ j = 5 ∨ j = 6 := by omega
        rcases hcase with rfl | rfl | rfl | rfl | rfl | rfl | rfl | rfl
        · go_wp2
          go_ret
          exact ⟨ret_i (A3.out.trans rfl).symm, BW3.out⟩
        · have ii := bi0
          by_cases h1 : (97 : Int) ≤ r
          · by_cases h2 : r ≤ (122 : Int)
            · go_wp2
              go_ret
              exact ⟨ret_i (A3.out.trans (capB_yes (lo := 65) (hi := 90) (up := 32) (t := blocksL.drop 1) (by omega))).symm, BW3.out.alloc BW3.out.size _⟩
            · go_wp2
              go_roundg 6
              case measure => omega
              case rel => exact ⟨1, by omega, by omega, rfl, BW3.out.alloc BW3.out.size _, A3.out.trans (capB_no (lo := 65) (hi := 90) (up := 32) (t := blocksL.drop 1) (by omega))⟩
          · go_wp2
            go_roundg 6
            case measure => omega
            case rel => exact ⟨1, by omega, by omega, rfl, BW3.out.alloc BW3.out.size _, A3.out.trans (capB_no (lo := 65) (hi := 90) (up := 32) (t := blocksL.drop 1) (by omega))⟩
        · have ii := bi1
          by_cases h1 : (224 : Int) ≤ r
          · by_cases h2 : r ≤ (246 : Int)
            · go_wp2
              go_ret
              exact ⟨ret_i (A3.out.trans (capB_yes (lo := 192) (hi := 214) (up := 32) (t := blocksL.drop 2) (by omega))).symm, BW3.out.alloc BW3.out.size _⟩
            · go_wp2
              go_roundg 5
              case measure => omega
              case rel => exact ⟨2, by omega, by omega, rfl, BW3.out.alloc BW3.out.size _, A3.out.trans (capB_no (lo := 192) (hi := 214) (up := 32) (t := blocksL.drop 2) (by omega))⟩
          · go_wp2
            go_roundg 5
            case measure => omega
            case rel => exact ⟨2, by omega, by omega, rfl, BW3.out.alloc BW3.out.size _, A3.out.trans (capB_no (lo := 192) (hi := 214) (up := 32) (t := blocksL.drop 2) (by omega))⟩
        · have ii := bi2
          by_cases h1 : (248 : Int) ≤ r
          · by_cases h2 : r ≤ (254 : Int)
            · go_wp2
              go_ret
              exact ⟨ret_i (A3.out.trans (capB_yes (lo := 216) (hi := 222) (up := 32) (t := blocksL.drop 3) (by omega))).symm, BW3.out.alloc BW3.out.size _⟩
            · go_wp2
              go_roundg 4
              case measure => omega
              case rel => exact ⟨3, by omega, by omega, rfl, BW3.out.alloc BW3.out.size _, A3.out.trans (capB_no (lo := 216) (hi := 222) (up := 32) (t := blocksL.drop 3) (by omega))⟩
          · go_wp2
            go_roundg 4
            case measure => omega
            case rel => exact ⟨3, by omega, by omega, rfl, BW3.out.alloc BW3.out.size _, A3.out.trans (capB_no (lo := 216) (hi := 222) (up := 32) (t := blocksL.drop 3) (by omega))⟩
        · have ii := bi3
          by_cases h1 : (945 : Int) ≤ r
          · by_cases h2 : r ≤ (961 : Int)
            · go_wp2
              go_ret
              exact ⟨ret_i (A3.out.trans (capB_yes (lo := 913) (hi := 929) (up := 32) (t := blocksL.drop 4) (by omega))).symm, BW3.out.alloc BW3.out.size _⟩
            · go_wp2
              go_roundg 3
              case measure => omega
              case rel => exact ⟨4, by omega, by omega, rfl, BW3.out.alloc BW3.out.size _, A3.out.trans (capB_no (lo := 913) (hi := 929) (up := 32) (t := blocksL.drop 4) (by omega))⟩
          · go_wp2
            go_roundg 3
            case measure => omega
            case rel => exact ⟨4, by omega, by omega, rfl, BW3.out.alloc BW3.out.size _, A3.out.trans (capB_no (lo := 913) (hi := 929) (up := 32) (t := blocksL.drop 4) (by omega))⟩
        · have ii := bi4
          by_cases h1 : (963 : Int) ≤ r
          · by_cases h2 : r ≤ (971 : Int)
            · go_wp2
              go_ret
              exact ⟨ret_i (A3.out.trans (capB_yes (lo := 931) (hi := 939) (up := 32) (t := blocksL.drop 5) (by omega))).symm, BW3.out.alloc BW3.out.size _⟩
            · go_wp2
              go_roundg 2
              case measure => omega
              case rel => exact ⟨5, by omega, by omega, rfl, BW3.out.alloc BW3.out.size _, A3.out.trans (capB_no (lo := 931) (hi := 939) (up := 32) (t := blocksL.drop 5) (by omega))⟩
          · go_wp2
            go_roundg 2
            case measure => omega
            case rel => exact ⟨5, by omega, by omega, rfl, BW3.out.alloc BW3.out.size _, A3.out.trans (capB_no (lo := 931) (hi := 939) (up := 32) (t := blocksL.drop 5) (by omega))⟩
        · have ii := bi5
          by_cases h1 : (1072 : Int) ≤ r
          · by_cases h2 : r ≤ (1103 : Int)
            · go_wp2
              go_ret
              exact ⟨ret_i (A3.out.trans (capB_yes (lo := 1040) (hi := 1071) (up := 32) (t := blocksL.drop 6) (by omega))).symm, BW3.out.alloc BW3.out.size _⟩
            · go_wp2
              go_roundg 1
              case measure => omega
              case rel => exact ⟨6, by omega, by omega, rfl, BW3.out.alloc BW3.out.size _, A3.out.trans (capB_no (lo := 1040) (hi := 1071) (up := 32) (t := blocksL.drop 6) (by omega))⟩
          · go_wp2
            go_roundg 1
            case measure => omega
            case rel => exact ⟨6, by omega, by omega, rfl, BW3.out.alloc BW3.out.size _, A3.out.trans (capB_no (lo := 1040) (hi := 1071) (up := 32) (t := blocksL.drop 6) (by omega))⟩
        · have ii := bi6
          by_cases h1 : (1104 : Int) ≤ r
          · by_cases h2 : r ≤ (1119 : Int)
            · go_wp2
              go_ret
              exact ⟨ret_i (A3.out.trans (capB_yes (lo := 1024) (hi := 1039) (up := 80) (t := blocksL.drop 7) (by omega))).symm, BW3.out.alloc BW3.out.size _⟩
            · go_wp2
              go_roundg 0
              case measure => omega
              case rel => exact ⟨7, by omega, by omega, rfl, BW3.out.alloc BW3.out.size _, A3.out.trans (capB_no (lo := 1024) (hi := 1039) (up := 80) (t := blocksL.drop 7) (by omega))⟩
          · go_wp2
            go_roundg 0
            case measure => omega
            case rel => exact ⟨7, by omega, by omega, rfl, BW3.out.alloc BW3.out.size _, A3.out.trans (capB_no (lo := 1024) (hi := 1039) (up := 80) (t := blocksL.drop 7) (by omega))⟩
    · have ii := oi0
      by_cases h : (255 : Int) = r
      · subst h
        go_wp2
        go_ret
        exact ⟨by kernel_rfl, BW.out.alloc BW.out.size _⟩
      · have h' : ((255 : Int) == r) = false := by simpa using h
        go_wp2
        go_roundg 6
        case measure => omega
        case rel => exact ⟨1, by omega, by omega, rfl, BW.out.alloc BW.out.size _, A.out.trans (if_neg h)⟩
    · have ii := oi1
      by_cases h : (181 : Int) = r
      · subst h
        go_wp2
        go_ret
        exact ⟨by kernel_rfl, BW.out.alloc BW.out.size _⟩
      · have h' : ((181 : Int) == r) = false := by simpa using h
        go_wp2
        go_roundg 5
        case measure => omega
        case rel => exact ⟨2, by omega, by omega, rfl, BW.out.alloc BW.out.size _, A.out.trans (if_neg h)⟩
    · have ii := oi2
      by_cases h : (962 : Int) = r
      · subst h
        go_wp2
        go_ret
        exact ⟨by kernel_rfl, BW.out.alloc BW.out.size _⟩
      · have h' : ((962 : Int) == r) = false := by simpa using h
        go_wp2
        go_roundg 4
        case measure => omega
        case rel => exact ⟨3, by omega, by omega, rfl, BW.out.alloc BW.out.size _, A.out.trans (if_neg h)⟩
    · have ii := oi3
      by_cases h : (8490 : Int) = r
      · subst h
        go_wp2
        go_ret
        exact ⟨by kernel_rfl, BW.out.alloc BW.out.size _⟩
      · have h' : ((8490 : Int) == r) = false := by simpa using h
        go_wp2
        go_roundg 3
        case measure => omega
        case rel => exact ⟨4, by omega, by omega, rfl, BW.out.alloc BW.out.size _, A.out.trans (if_neg h)⟩
    · have ii := oi4
      by_cases h : (8491 : Int) = r
      · subst h
        go_wp2
        go_ret
        exact ⟨by kernel_rfl, BW.out.alloc BW.out.size _⟩
      · have h' : ((8491 : Int) == r) = false := by simpa using h
        go_wp2
        go_roundg 2
        case measure => omega
        case rel => exact ⟨5, by omega, by omega, rfl, BW.out.alloc BW.out.size _, A.out.trans (if_neg h)⟩
    · have ii := oi5
      by_cases h : (383 : Int) = r
      · subst h
        go_wp2
        go_ret
        exact ⟨by kernel_rfl, BW.out.alloc BW.out.size _⟩
      · have h' : ((383 : Int) == r) = false := by simpa using h
        go_wp2
        go_roundg 1
        case measure => omega
        case rel => exact ⟨6, by omega, by omega, rfl, BW.out.alloc BW.out.size _, A.out.trans (if_neg h)⟩
    · have ii := oi6
      by_cases h : (8486 : Int) = r
      · subst h
        go_wp2
        go_ret
        exact ⟨by kernel_rfl, BW.out.alloc BW.out.size _⟩
      · have h' : ((8486 : Int) == r) = false := by simpa using h
        go_wp2
        go_roundg 0
        case measure => omega
        case rel => exact ⟨7, by omega, by omega, rfl, BW.out.alloc BW.out.size _, A.out.trans (if_neg h)⟩
end Go.Proofs.YtnpkfncccddlmaaDoorX

namespace Go.Proofs.YtnpkfncccddlmaaDoorX
open Go.RowKit Go.Proofs.YtnpkfncccddlmaaDoorW.PrintWords Go.Proofs.YtnpkfncccddlmaaDoorW.PrintLast Go.Proofs.YtnpkfncccddlmaaDoorW.PrintMore
set_option linter.unusedVariables false
set_option linter.unusedSimpArgs false
theorem info_int : (Tryd.prog.info? 3).map (fun i => (i.zero, i.size, i.bytes)) = some (some (.int .i64 0), 1, 8) := by kernel_rfl
def famB : List (Int × Int × Int) → Int → List Int
  | [], _ => []
  | (lo, hi, up) :: t, c => if lo ≤ c ∧ c ≤ hi then (c + up) :: famB t c else famB t c
def famO : List (Int × Int) → Int → List Int
  | [], _ => []
  | (a, b) :: t, c => if b = c then a :: famO t c else famO t c
def fam0 (c : Int) : List Int := c :: (famB blocksL c ++ famO othersL c)
def famF (r : Int) : List Int := (fam0 (capF r)).mergeSort fun x y => decide (x ≤ y)
theorem famB_no {lo hi up c : Int} {t : List (Int × Int × Int)} (h : ¬ (lo ≤ c ∧ c ≤ hi)) : famB ((lo, hi, up) :: t) c = famB t c := if_neg h
theorem famB_yes {lo hi up c : Int} {t : List (Int × Int × Int)} (h : lo ≤ c ∧ c ≤ hi) : famB ((lo, hi, up) :: t) c = (c + up) :: famB t c := if_pos h
theorem famO_no {a b c : Int} {t : List (Int × Int)} (h : ¬ b = c) : famO ((a, b) :: t) c = famO t c := if_neg h
theorem famO_yes {a b c : Int} {t : List (Int × Int)} (h : b = c) : famO ((a, b) :: t) c = a :: famO t c := if_pos h
theorem R_single (W : World) (base e : Nat) (c : Int) (h : base ≤ W.heap.size) : Kd.R (Kd.int .i64) e (W.alloc (.cells #[.int .i64 c] e)) base (fun _ => True) (.slice (some ⟨W.heap.size, 0, none⟩) 1 1) [c] :=
  (fixed_R (fixed_int .i64)).2 ⟨fun _ _ => trivial, rfl, .inr ⟨W.heap.size, 1, #[.int .i64 c], rfl, h, heap_alloc_last _ _, Nat.le_refl _, by decide, rfl, rfl⟩⟩
def FamPost (w : World) (l : List Int) (e : Ending) (w' : World) : Prop := ∃ v0_ : Value, e = .returned v0_ ∧ Kd.R (Kd.int .i64) 3 w' w.heap.size (fun _ => True) v0_ l ∧ Below w.heap.size w w'
set_option maxHeartbeats 4000000 in
theorem family_any (r : Int) (w : World) : Calls Tryd.prog 44 #[.int .i64 r] w (FamPost w (famF r)) := by
  obtain ⟨c, hc⟩ : ∃ c, capF r = c := ⟨_, rfl⟩
  have hcap := capital_any r w
  unfold famF
  rw [hc] at hcap ⊢
  have HT : Aside0 (∀ l, l = fam0 c → (l.mergeSort fun x y => decide (x ≤ y)) = ((fam0 c).mergeSort fun x y => decide (x ≤ y))) := ⟨fun l h => by rw [h]⟩
  have HF : Aside0 ([c] ++ (famB (blocksL.drop 0) c ++ famO othersL c) = fam0 c) := ⟨rfl⟩
  clear hc
  generalize ((fam0 c).mergeSort fun x y => decide (x ≤ y)) = S at HT ⊢
  generalize fam0 c = T at HT HF
  go_enter Tryd.func44, Tryd.ntmps44
  go_wp2_with (first | (go_at_call 66; refine hcap.mono ?_; rintro e w1 ⟨rfl, hb⟩; have HB1 := Aside0.mk hb; clear hb hcap) | (go_at_call 47; refine (blocks_any _).mono ?_; rintro e w2 ⟨rfl, hb2⟩))
  have HO0 := Aside0.mk (Kd.R_below (R_single w1 w.heap.size 3 c HB1.out.size) hb2)
  have HB0 := Aside0.mk (below_then (below_alloc HB1.out (.cells #[.int .i64 c] 3)) (Nat.le_trans HB1.out.size (by simp)) hb2)
  clear hb2 HB1
  go_loopg [4, 14] 7 (fun g s4 s14 wr => ∃ (k : Nat) (acc : List Int), k ≤ 7 ∧ 7 - k ≤ g ∧ s14 = .int .i64 k ∧ Aside0 (Kd.R (Kd.int .i64) 3 wr w.heap.size (fun _ => True) s4 acc) ∧ Aside0 (Below w.heap.size w wr) ∧ Aside0 (acc ++ (famB (blocksL.drop k) c ++ famO othersL c) = T) ∧ Aside0 (acc.length ≤ 1 + k))
  case atStart => exact ⟨0, [c], by omega, by omega, rfl, HO0, HB0, HF, ⟨by simp⟩⟩
  case round =>
    obtain ⟨k, acc, hk, hgk, rfl, HO, HB, HA, HL⟩ := hrel
    clear HO0 HB0 HF
    have hcase : k = 7 ∨ k = 0 ∨ k = 1 ∨ k = 2 ∨ k = 3 ∨ k = 4 ∨ k = 5 ∨ k = 6 := by omega
    rcases hcase with rfl | rfl | rfl | rfl | rfl | rfl | rfl | rfl
    · go_wp2_with (go_at_call 48; refine (others_any _).mono ?_; rintro e w2 ⟨rfl, hb2⟩)
      have HO0 := Aside0.mk (Kd.R_below HO.out hb2)
      have HB0 := Aside0.mk (below_then HB.out HB.out.size hb2)
      have HF := Aside0.mk (show acc ++ famO (othersL.drop 0) c = T from HA.out)
      have HL0 := Aside0.mk (show acc.length ≤ 8 + 0 from HL.out)
      clear hb2 HO HB HA HL
      go_loopg [4, 36] 7 (fun g s4 s36 wr => ∃ (k : Nat) (acc : List Int), k ≤ 7 ∧ 7 - k ≤ g ∧ s36 = .int .i64 k ∧ Aside0 (Kd.R (Kd.int .i64) 3 wr w.heap.size (fun _ => True) s4 acc) ∧ Aside0 (Below w.heap.size w wr) ∧ Aside0 (acc ++ famO (othersL.drop k) c = T) ∧ Aside0 (acc.length ≤ 8 + k))
      case atStart => exact ⟨0, acc, by omega, by omega, rfl, HO0, HB0, HF, HL0⟩
      case round =>
        clear HO0 HB0 HF HL0 acc
        obtain ⟨k, acc, hk, hgk2, rfl, HO, HB, HA, HL⟩ := hrel
        have hcase : k = 7 ∨ k = 0 ∨ k = 1 ∨ k = 2 ∨ k = 3 ∨ k = 4 ∨ k = 5 ∨ k = 6 := by omega
        rcases hcase with rfl | rfl | rfl | rfl | rfl | rfl | rfl | rfl
        · have HE := Aside0.mk (HT.out acc ((List.append_nil acc).symm.trans HA.out))
          clear HT HA
          obtain ⟨Ao, co, eo⟩ := Kd.R_slice HO.out
          subst eo
          have hsort := fun W hB hO => sortInts_calls (fun k_ => some k_ = (.slice Ao acc.length co : Value).ownBlock) (.slice Ao acc.length co) acc w W hB hO (by have := HL.out; omega)
          go_wp2_with (go_at_call 67; refine (hsort _ ?hB ?hO).mono ?_; (case hB => exact HB.out); (case hO => exact Kd.R_tight rfl HO.out); rintro e w' ⟨rfl, hR, hB', hK⟩)
          go_ret
          rw [HE.out] at hR
          exact ⟨_, rfl, Kd.R_mono hR (fun _ _ => trivial), hB'⟩
        · have ii := oi0
          by_cases h : (376 : Int) = c
          · subst h
            go_wp2_with (at_builtin; (refine Kd.R_append (Kd.int .i64) (w0 := w) w.heap.size rfl (.tmp 43) (.tmp 46) 49 3 (.int .i64 0) 8 rfl Tryd.underlying49 info_int rfl (by decide) (by omega) u4 acc (255) [.int .i64 (255)] (fun _ => True) (fun _ => False) rfl ?aX ?aP (fun _ hk => hk.elim) ?aF ?aO ?aB ?aS ?aL ?_); (case aX => (first | rfl | (simp [Act.eval]; done) | (simp [Act.eval] <;> rfl))); (case aP => exact rfl); (case aF => exact fun _ _ => trivial); (case aO => exact (by (with_reducible repeat (first | apply Kd.R_alloc | apply Kd.R_drewN | apply Kd.R_drew)); exact HO.out)); (case aB => exact (by repeat (first | (with_reducible first | exact HB.out | apply below_alloc | apply pw_below_drewN | apply below_drew1) | exact HB.out))); (case aS => exact (below_size (by repeat (first | (with_reducible first | exact HB.out | apply below_alloc | apply pw_below_drewN | apply below_drew1) | exact HB.out)))); (case aL => have := HL.out; omega); intro v1 w1 ho hb hg hat; have n0_ := Aside0.mk ho; have n1_ := Aside0.mk hb; clear HO HB ho hb hg hat; have HO := n0_; have HB := n1_; clear n0_ n1_)
            go_roundg 6
            case measure => omega
            case rel => exact ⟨1, acc ++ [255], by omega, by omega, rfl, ⟨(by (with_reducible repeat (first | apply Kd.R_alloc | apply Kd.R_drewN | apply Kd.R_drew)); exact HO.out)⟩, ⟨(by repeat (first | (with_reducible first | exact HB.out | apply below_alloc | apply pw_below_drewN | apply below_drew1) | exact HB.out))⟩, ⟨by rw [← HA.out]; simp [othersL, famO]⟩, ⟨by have := HL.out; simp; omega⟩⟩
          · have h' : ((376 : Int) == c) = false := by simpa using h
            go_wp2
            go_roundg 6
            case measure => omega
            case rel => exact ⟨1, acc, by omega, by omega, rfl, ⟨(by (with_reducible repeat (first | apply Kd.R_alloc | apply Kd.R_drewN | apply Kd.R_drew)); exact HO.out)⟩, ⟨(by repeat (first | (with_reducible first | exact HB.out | apply below_alloc | apply pw_below_drewN | apply below_drew1) | exact HB.out))⟩, ⟨by rw [← HA.out]; simp [othersL, famO, h]⟩, ⟨by have := HL.out; omega⟩⟩
        · have ii := oi1
          by_cases h : (924 : Int) = c
          · subst h
            go_wp2_with (at_builtin; (refine Kd.R_append (Kd.int .i64) (w0 := w) w.heap.size rfl (.tmp 43) (.tmp 46) 49 3 (.int .i64 0) 8 rfl Tryd.underlying49 info_int rfl (by decide) (by omega) u4 acc (181) [.int .i64 (181)] (fun _ => True) (fun _ => False) rfl ?aX ?aP (fun _ hk => hk.elim) ?aF ?aO ?aB ?aS ?aL ?_); (case aX => (first | rfl | (simp [Act.eval]; done) | (simp [Act.eval] <;> rfl))); (case aP => exact rfl); (case aF => exact fun _ _ => trivial); (case aO => exact (by (with_reducible repeat (first | apply Kd.R_alloc | apply Kd.R_drewN | apply Kd.R_drew)); exact HO.out)); (case aB => exact (by repeat (first | (with_reducible first | exact HB.out | apply below_alloc | apply pw_below_drewN | apply below_drew1) | exact HB.out))); (case aS => exact (below_size (by repeat (first | (with_reducible first | exact HB.out | apply below_alloc | apply pw_below_drewN | apply below_drew1) | exact HB.out)))); (case aL => have := HL.out; omega); intro v1 w1 ho hb hg hat; have n0_ := Aside0.mk ho; have n1_ := Aside0.mk hb; clear HO HB ho hb hg hat; have HO := n0_; have HB := n1_; clear n0_ n1_)
            go_roundg 5
            case measure => omega
            case rel => exact ⟨2, acc ++ [181], by omega, by omega, rfl, ⟨(by (with_reducible repeat (first | apply Kd.R_alloc | apply Kd.R_drewN | apply Kd.R_drew)); exact HO.out)⟩, ⟨(by repeat (first | (with_reducible first | exact HB.out | apply below_alloc | apply pw_below_drewN | apply below_drew1) | exact HB.out))⟩, ⟨by rw [← HA.out]; simp [othersL, famO]⟩, ⟨by have := HL.out; simp; omega⟩⟩
          · have h' : ((924 : Int) == c) = false := by simpa using h
            go_wp2
            go_roundg 5
            case measure => omega
            case rel => exact ⟨2, acc, by omega, by omega, rfl, ⟨(by (with_reducible repeat (first | apply Kd.R_alloc | apply Kd.R_drewN | apply Kd.R_drew)); exact HO.out)⟩, ⟨(by repeat (first | (with_reducible first | exact HB.out | apply below_alloc | apply pw_below_drewN | apply below_drew1) | exact HB.out))⟩, ⟨by rw [← HA.out]; simp [othersL, famO, h]⟩, ⟨by have := HL.out; omega⟩⟩
        · have ii := oi2
          by_cases h : (931 : Int) = c
          · subst h
            go_wp2_with (at_builtin; (refine Kd.R_append (Kd.int .i64) (w0 := w) w.heap.size rfl (.tmp 43) (.tmp 46) 49 3 (.int .i64 0) 8 rfl Tryd.underlying49 info_int rfl (by decide) (by omega) u4 acc (962) [.int .i64 (962)] (fun _ => True) (fun _ => False) rfl ?aX ?aP (fun _ hk => hk.elim) ?aF ?aO ?aB ?aS ?aL ?_); (case aX => (first | rfl | (simp [Act.eval]; done) | (simp [Act.eval] <;> rfl))); (case aP => exact rfl); (case aF => exact fun _ _ => trivial); (case aO => exact (by (with_reducible repeat (first | apply Kd.R_alloc | apply Kd.R_drewN | apply Kd.R_drew)); exact HO.out)); (case aB => exact (by repeat (first | (with_reducible first | exact HB.out | apply below_alloc | apply pw_below_drewN | apply below_drew1) | exact HB.out))); (case aS => exact (below_size (by repeat (first | (with_reducible first | exact HB.out | apply below_alloc | apply pw_below_drewN | apply below_drew1) | exact HB.out)))); (case aL => have := HL.out; omega); intro v1 w1 ho hb hg hat; have n0_ := Aside0.mk ho; have n1_ := Aside0.mk hb; clear HO HB ho hb hg hat; have HO := n0_; have HB := n1_; clear n0_ n1_)
            go_roundg 4
            case measure => omega
            case rel => exact ⟨3, acc ++ [962], by omega, by omega, rfl, ⟨(by (with_reducible repeat (first | apply Kd.R_alloc | apply Kd.R_drewN | apply Kd.R_drew)); exact HO.out)⟩, ⟨(by repeat (first | (with_reducible first | exact HB.out | apply below_alloc | apply pw_below_drewN | apply below_drew1) | exact HB.out))⟩, ⟨by rw [← HA.out]; simp [othersL, famO]⟩, ⟨by have := HL.out; simp; omega⟩⟩
          · have h' : ((931 : Int) == c) = false := by simpa using h
            go_wp2
            go_roundg 4
            case measure => omega
            case rel => exact ⟨3, acc, by omega, by omega, rfl, ⟨(by (with_reducible repeat (first | apply Kd.R_alloc | apply Kd.R_drewN | apply Kd.R_drew)); exact HO.out)⟩, ⟨(by repeat (first | (with_reducible first | exact HB.out | apply below_alloc | apply pw_below_drewN | apply below_drew1) | exact HB.out))⟩, ⟨by rw [← HA.out]; simp [othersL, famO, h]⟩, ⟨by have := HL.out; omega⟩⟩
        · have ii := oi3
          by_cases h : (75 : Int) = c
          · subst h
            go_wp2_with (at_builtin; (refine Kd.R_append (Kd.int .i64) (w0 := w) w.heap.size rfl (.tmp 43) (.tmp 46) 49 3 (.int .i64 0) 8 rfl Tryd.underlying49 info_int rfl (by decide) (by omega) u4 acc (8490) [.int .i64 (8490)] (fun _ => True) (fun _ => False) rfl ?aX ?aP (fun _ hk => hk.elim) ?aF ?aO ?aB ?aS ?aL ?_); (case aX => (first | rfl | (simp [Act.eval]; done) | (simp [Act.eval] <;> rfl))); (case aP => exact rfl); (case aF => exact fun _ _ => trivial); (case aO => exact (by (with_reducible repeat (first | apply Kd.R_alloc | apply Kd.R_drewN | apply Kd.R_drew)); exact HO.out)); (case aB => exact (by repeat (first | (with_reducible first | exact HB.out | apply below_alloc | apply pw_below_drewN | apply below_drew1) | exact HB.out))); (case aS => exact (below_size (by repeat (first | (with_reducible first | exact HB.out | apply below_alloc | apply pw_below_drewN | apply below_drew1) | exact HB.out)))); (case aL => have := HL.out; omega); intro v1 w1 ho hb hg hat; have n0_ := Aside0.mk ho; have n1_ := Aside0.mk hb; clear HO HB ho hb hg hat; have HO := n0_; have HB := n1_; clear n0_ n1_)
            go_roundg 3
            case measure => omega
            case rel => exact ⟨4, acc ++ [8490], by omega, by omega, rfl, ⟨(by (with_reducible repeat (first | apply Kd.R_alloc | apply Kd.R_drewN | apply Kd.R_drew)); exact HO.out)⟩, ⟨(by repeat (first | (with_reducible first | exact HB.out | apply below_alloc | apply pw_below_drewN | apply below_drew1) | exact HB.out))⟩, ⟨by rw [← HA.out]; simp [othersL, famO]⟩, ⟨by have := HL.out; simp; omega⟩⟩
          · have h' : ((75 : Int) == c) = false := by simpa using h
            go_wp2
            go_roundg 3
            case measure => omega
            case rel => exact ⟨4, acc, by omega, by omega, rfl, ⟨(by (with_reducible repeat (first | apply Kd.R_alloc | apply Kd.R_drewN | apply Kd.R_drew)); exact HO.out)⟩, ⟨(by repeat (first | (with_reducible first | exact HB.out | apply below_alloc | apply pw_below_drewN | apply below_drew1) | exact HB.out))⟩, ⟨by rw [← HA.out]; simp [othersL, famO, h]⟩, ⟨by have := HL.out; omega⟩⟩
        · have ii := oi4
          by_cases h : (197 : Int) = c
          · subst h
            go_wp2_with (at_builtin; (refine Kd.R_append (Kd.int .i64) (w0 := w) w.heap.size rfl (.tmp 43) (.tmp 46) 49 3 (.int .i64 0) 8 rfl Tryd.underlying49 info_int rfl (by decide) (by omega) u4 acc (8491) [.int .i64 (8491)] (fun _ => True) (fun _ => False) rfl ?aX ?aP (fun _ hk => hk.elim) ?aF ?aO ?aB ?aS ?aL ?_); (case aX => (first | rfl | (simp [Act.eval]; done) | (simp [Act.eval] <;> rfl))); (case aP => exact rfl); (case aF => exact fun _ _ => trivial); (case aO => exact (by (with_reducible repeat (first | apply Kd.R_alloc | apply Kd.R_drewN | apply Kd.R_drew)); exact HO.out)); (case aB => exact (by repeat (first | (with_reducible first | exact HB.out | apply below_alloc | apply pw_below_drewN | apply below_drew1) | exact HB.out))); (case aS => exact (below_size (by repeat (first | (with_reducible first | exact HB.out | apply below_alloc | apply pw_below_drewN | apply below_drew1) | exact HB.out)))); (case aL => have := HL.out; omega); intro v1 w1 ho hb hg hat; have n0_ := Aside0.mk ho; have n1_ := Aside0.mk hb; clear HO HB ho hb hg hat; have HO := n0_; have HB := n1_; clear n0_ n1_)
            go_roundg 2
            case measure => omega
            case rel => exact ⟨5, acc ++ [8491], by omega, by omega, rfl, ⟨(by (with_reducible repeat (first | apply Kd.R_alloc | apply Kd.R_drewN | apply Kd.R_drew)); exact HO.out)⟩, ⟨(by repeat (first | (with_reducible first | exact HB.out | apply below_alloc | apply pw_below_drewN | apply below_drew1) | exact HB.out))⟩, ⟨by rw [← HA.out]; simp [othersL, famO]⟩, ⟨by have := HL.out; simp; omega⟩⟩
          · have h' : ((197 : Int) == c) = false := by simpa using h
            go_wp2
            go_roundg 2
            case measure => omega
            case rel => exact ⟨5, acc, by omega, by omega, rfl, ⟨(by (with_reducible repeat (first | apply Kd.R_alloc | apply Kd.R_drewN | apply Kd.R_drew)); exact HO.out)⟩, ⟨(by repeat (first | (with_reducible first | exact HB.out | apply below_alloc | apply pw_below_drewN | apply below_drew1) | exact HB.out))⟩, ⟨by rw [← HA.out]; simp [othersL, famO, h]⟩, ⟨by have := HL.out; omega⟩⟩
        · have ii := oi5
          by_cases h : (83 : Int) = c
          · subst h
            go_wp2_with (at_builtin; (refine Kd.R_append (Kd.int .i64) (w0 := w) w.heap.size rfl (.tmp 43) (.tmp 46) 49 3 (.int .i64 0) 8 rfl Tryd.underlying49 info_int rfl (by decide) (by omega) u4 acc (383) [.int .i64 (383)] (fun _ => True) (fun _ => False) rfl ?aX ?aP (fun _ hk => hk.elim) ?aF ?aO ?aB ?aS ?aL ?_); (case aX => (first | rfl | (simp [Act.eval]; done) | (simp [Act.eval] <;> rfl))); (case aP => exact rfl); (case aF => exact fun _ _ => trivial); (case aO => exact (by (with_reducible repeat (first | apply Kd.R_alloc | apply Kd.R_drewN | apply Kd.R_drew)); exact HO.out)); (case aB => exact (by repeat (first | (with_reducible first | exact HB.out | apply below_alloc | apply pw_below_drewN | apply below_drew1) | exact HB.out))); (case aS => exact (below_size (by repeat (first | (with_reducible first | exact HB.out | apply below_alloc | apply pw_below_drewN | apply below_drew1) | exact HB.out)))); (case aL => have := HL.out; omega); intro v1 w1 ho hb hg hat; have n0_ := Aside0.mk ho; have n1_ := Aside0.mk hb; clear HO HB ho hb hg hat; have HO := n0_; have HB := n1_; clear n0_ n1_)
            go_roundg 1
            case measure => omega
            case rel => exact ⟨6, acc ++ [383], by omega, by omega, rfl, ⟨(by (with_reducible repeat (first | apply Kd.R_alloc | apply Kd.R_drewN | apply Kd.R_drew)); exact HO.out)⟩, ⟨(by repeat (first | (with_reducible first | exact HB.out | apply below_alloc | apply pw_below_drewN | apply below_drew1) | exact HB.out))⟩, ⟨by rw [← HA.out]; simp [othersL, famO]⟩, ⟨by have := HL.out; simp; omega⟩⟩
          · have h' : ((83 : Int) == c) = false := by simpa using h
            go_wp2
            go_roundg 1
            case measure => omega
            case rel => exact ⟨6, acc, by omega, by omega, rfl, ⟨(by (with_reducible repeat (first | apply Kd.R_alloc | apply Kd.R_drewN | apply Kd.R_drew)); exact HO.out)⟩, ⟨(by repeat (first | (with_reducible first | exact HB.out | apply below_alloc | apply pw_below_drewN | apply below_drew1) | exact HB.out))⟩, ⟨by rw [← HA.out]; simp [othersL, famO, h]⟩, ⟨by have := HL.out; omega⟩⟩
        · have ii := oi6
          by_cases h : (937 : Int) = c
          · subst h
            go_wp2_with (at_builtin; (refine Kd.R_append (Kd.int .i64) (w0 := w) w.heap.size rfl (.tmp 43) (.tmp 46) 49 3 (.int .i64 0) 8 rfl Tryd.underlying49 info_int rfl (by decide) (by omega) u4 acc (8486) [.int .i64 (8486)] (fun _ => True) (fun _ => False) rfl ?aX ?aP (fun _ hk => hk.elim) ?aF ?aO ?aB ?aS ?aL ?_); (case aX => (first | rfl | (simp [Act.eval]; done) | (simp [Act.eval] <;> rfl))); (case aP => exact rfl); (case aF => exact fun _ _ => trivial); (case aO => exact (by (with_reducible repeat (first | apply Kd.R_alloc | apply Kd.R_drewN | apply Kd.R_drew)); exact HO.out)); (case aB => exact (by repeat (first | (with_reducible first | exact HB.out | apply below_alloc | apply pw_below_drewN | apply below_drew1) | exact HB.out))); (case aS => exact (below_size (by repeat (first | (with_reducible first | exact HB.out | apply below_alloc | apply pw_below_drewN | apply below_drew1) | exact HB.out)))); (case aL => have := HL.out; omega); intro v1 w1 ho hb hg hat; have n0_ := Aside0.mk ho; have n1_ := Aside0.mk hb; clear HO HB ho hb hg hat; have HO := n0_; have HB := n1_; clear n0_ n1_)
            go_roundg 0
            case measure => omega
            case rel => exact ⟨7, acc ++ [8486], by omega, by omega, rfl, ⟨(by (with_reducible repeat (first | apply Kd.R_alloc | apply Kd.R_drewN | apply Kd.R_drew)); exact HO.out)⟩, ⟨(by repeat (first | (with_reducible first | exact HB.out | apply below_alloc | apply pw_below_drewN | apply below_drew1) | exact HB.out))⟩, ⟨by rw [← HA.out]; simp [othersL, famO]⟩, ⟨by have := HL.out; simp; omega⟩⟩
          · have h' : ((937 : Int) == c) = false := by simpa using h
            go_wp2
            go_roundg 0
            case measure => omega
            case rel => exact ⟨7, acc, by omega, by omega, rfl, ⟨(by (with_reducible repeat (first | apply Kd.R_alloc | apply Kd.R_drewN | apply Kd.R_drew)); exact HO.out)⟩, ⟨(by repeat (first | (with_reducible first | exact HB.out | apply below_alloc | apply pw_below_drewN | apply below_drew1) | exact HB.out))⟩, ⟨by rw [← HA.out]; simp [othersL, famO, h]⟩, ⟨by have := HL.out; omega⟩⟩
    · have ii := bi0
      by_cases h1 : (65 : Int) ≤ c
      · by_cases h2 : c ≤ (90 : Int)
        · go_wp2_with (at_builtin; (refine Kd.R_append (Kd.int .i64) (w0 := w) w.heap.size rfl (.tmp 27) (.tmp 32) 49 3 (.int .i64 0) 8 rfl Tryd.underlying49 info_int rfl (by decide) (by omega) u4 acc (c + 32) [.int .i64 (c + 32)] (fun _ => True) (fun _ => False) rfl ?aX ?aP (fun _ hk => hk.elim) ?aF ?aO ?aB ?aS ?aL ?_); (case aX => (first | rfl | (simp [Act.eval]; done) | (simp [Act.eval] <;> rfl))); (case aP => exact rfl); (case aF => exact fun _ _ => trivial); (case aO => exact (by (with_reducible repeat (first | apply Kd.R_alloc | apply Kd.R_drewN | apply Kd.R_drew)); exact HO.out)); (case aB => exact (by repeat (first | (with_reducible first | exact HB.out | apply below_alloc | apply pw_below_drewN | apply below_drew1) | exact HB.out))); (case aS => exact (below_size (by repeat (first | (with_reducible first | exact HB.out | apply below_alloc | apply pw_below_drewN | apply below_drew1) | exact HB.out)))); (case aL => have := HL.out; omega); intro v1 w1 ho hb hg hat; have n0_ := Aside0.mk ho; have n1_ := Aside0.mk hb; clear HO HB ho hb hg hat; have HO := n0_; have HB := n1_; clear n0_ n1_)
          go_roundg 6
          case measure => omega
          case rel => exact ⟨1, acc ++ [c + 32], by omega, by omega, rfl, ⟨(by (with_reducible repeat (first | apply Kd.R_alloc | apply Kd.R_drewN | apply Kd.R_drew)); exact HO.out)⟩, ⟨(by repeat (first | (with_reducible first | exact HB.out | apply below_alloc | apply pw_below_drewN | apply below_drew1) | exact HB.out))⟩, ⟨by rw [← HA.out]; simp only [blocksL, List.drop_succ_cons, List.drop_zero]; rw [famB_yes (lo := 65) (hi := 90) (by omega)]; simp⟩, ⟨by have := HL.out; simp; omega⟩⟩
        · go_wp2
          go_roundg 6
          case measure => omega
          case rel => exact ⟨1, acc, by omega, by omega, rfl, ⟨(by (with_reducible repeat (first | apply Kd.R_alloc | apply Kd.R_drewN | apply Kd.R_drew)); exact HO.out)⟩, ⟨(by repeat (first | (with_reducible first | exact HB.out | apply below_alloc | apply pw_below_drewN | apply below_drew1) | exact HB.out))⟩, ⟨by rw [← HA.out]; simp only [blocksL, List.drop_succ_cons, List.drop_zero]; rw [famB_no (lo := 65) (hi := 90) (by omega)]⟩, ⟨by have := HL.out; omega⟩⟩
      · go_wp2
        go_roundg 6
        case measure => omega
        case rel => exact ⟨1, acc, by omega, by omega, rfl, ⟨(by (with_reducible repeat (first | apply Kd.R_alloc | apply Kd.R_drewN | apply Kd.R_drew)); exact HO.out)⟩, ⟨(by repeat (first | (with_reducible first | exact HB.out | apply below_alloc | apply pw_below_drewN | apply below_drew1) | exact HB.out))⟩, ⟨by rw [← HA.out]; simp only [blocksL, List.drop_succ_cons, List.drop_zero]; rw [famB_no (lo := 65) (hi := 90) (by omega)]⟩, ⟨by have := HL.out; omega⟩⟩
    · have ii := bi1
      by_cases h1 : (192 : Int) ≤ c
      · by_cases h2 : c ≤ (214 : Int)
        · go_wp2_with (at_builtin; (refine Kd.R_append (Kd.int .i64) (w0 := w) w.heap.size rfl (.tmp 27) (.tmp 32) 49 3 (.int .i64 0) 8 rfl Tryd.underlying49 info_int rfl (by decide) (by omega) u4 acc (c + 32) [.int .i64 (c + 32)] (fun _ => True) (fun _ => False) rfl ?aX ?aP (fun _ hk => hk.elim) ?aF ?aO ?aB ?aS ?aL ?_); (case aX => (first | rfl | (simp [Act.eval]; done) | (simp [Act.eval] <;> rfl))); (case aP => exact rfl); (case aF => exact fun _ _ => trivial); (case aO => exact (by (with_reducible repeat (first | apply Kd.R_alloc | apply Kd.R_drewN | apply Kd.R_drew)); exact HO.out)); (case aB => exact (by repeat (first | (with_reducible first | exact HB.out | apply below_alloc | apply pw_below_drewN | apply below_drew1) | exact HB.out))); (case aS => exact (below_size (by repeat (first | (with_reducible first | exact HB.out | apply below_alloc | apply pw_below_drewN | apply below_drew1) | exact HB.out)))); (case aL => have := HL.out; omega); intro v1 w1 ho hb hg hat; have n0_ := Aside0.mk ho; have n1_ := Aside0.mk hb; clear HO HB ho hb hg hat; have HO := n0_; have HB := n1_; clear n0_ n1_)
          go_roundg 5
          case measure => omega
          case rel => exact ⟨2, acc ++ [c + 32], by omega, by omega, rfl, ⟨(by (with_reducible repeat (first | apply Kd.R_alloc | apply Kd.R_drewN | apply Kd.R_drew)); exact HO.out)⟩, ⟨(by repeat (first | (with_reducible first | exact HB.out | apply below_alloc | apply pw_below_drewN | apply below_drew1) | exact HB.out))⟩, ⟨by rw [← HA.out]; simp only [blocksL, List.drop_succ_cons, List.drop_zero]; rw [famB_yes (lo := 192) (hi := 214) (by omega)]; simp⟩, ⟨by have := HL.out; simp; omega⟩⟩
        · go_wp2
          go_roundg 5
          case measure => omega
          case rel => exact ⟨2, acc, by omega, by omega, rfl, ⟨(by (with_reducible repeat (first | apply Kd.R_alloc | apply Kd.R_drewN | apply Kd.R_drew)); exact HO.out)⟩, ⟨(by repeat (first | (with_reducible first | exact HB.out | apply below_alloc | apply pw_below_drewN | apply below_drew1) | exact HB.out))⟩, ⟨by rw [← HA.out]; simp only [blocksL, List.drop_succ_cons, List.drop_zero]; rw [famB_no (lo := 192) (hi := 214) (by omega)]⟩, ⟨by have := HL.out; omega⟩⟩
      · go_wp2
        go_roundg 5
        case measure => omega
        case rel => exact ⟨2, acc, by omega, by omega, rfl, ⟨(by (with_reducible repeat (first | apply Kd.R_alloc | apply Kd.R_drewN | apply Kd.R_drew)); exact HO.out)⟩, ⟨(by repeat (first | (with_reducible first | exact HB.out | apply below_alloc | apply pw_below_drewN | apply below_drew1) | exact HB.out))⟩, ⟨by rw [← HA.out]; simp only [blocksL, List.drop_succ_cons, List.drop_zero]; rw [famB_no (lo := 192) (hi := 214) (by omega)]⟩, ⟨by have := HL.out; omega⟩⟩
    · have ii := bi2
      by_cases h1 : (216 : Int) ≤ c
      · by_cases h2 : c ≤ (222 : Int)
        · go_wp2_with (at_builtin; (refine Kd.R_append (Kd.int .i64) (w0 := w) w.heap.size rfl (.tmp 27) (.tmp 32) 49 3 (.int .i64 0) 8 rfl Tryd.underlying49 info_int rfl (by decide) (by omega) u4 acc (c + 32) [.int .i64 (c + 32)] (fun _ => True) (fun _ => False) rfl ?aX ?aP (fun _ hk => hk.elim) ?aF ?aO ?aB ?aS ?aL ?_); (case aX => (first | rfl | (simp [Act.eval]; done) | (simp [Act.eval] <;> rfl))); (case aP => exact rfl); (case aF => exact fun _ _ => trivial); (case aO => exact (by (with_reducible repeat (first | apply Kd.R_alloc | apply Kd.R_drewN | apply Kd.R_drew)); exact HO.out)); (case aB => exact (by repeat (first | (with_reducible first | exact HB.out | apply below_alloc | apply pw_below_drewN | apply below_drew1) | exact HB.out))); (case aS => exact (below_size (by repeat (first | (with_reducible first | exact HB.out | apply below_alloc | apply pw_below_drewN | apply below_drew1) | exact HB.out)))); (case aL => have := HL.out; omega); intro v1 w1 ho hb hg hat; have n0_ := Aside0.mk ho; have n1_ := Aside0.mk hb; clear HO HB ho hb hg hat; have HO := n0_; have HB := n1_; clear n0_ n1_)
          go_roundg 4
          case measure => omega
          case rel => exact ⟨3, acc ++ [c + 32], by omega, by omega, rfl, ⟨(by (with_reducible repeat (first | apply Kd.R_alloc | apply Kd.R_drewN | apply Kd.R_drew)); exact HO.out)⟩, ⟨(by repeat (first | (with_reducible first | exact HB.out | apply below_alloc | apply pw_below_drewN | apply below_drew1) | exact HB.out))⟩, ⟨by rw [← HA.out]; simp only [blocksL, List.drop_succ_cons, List.drop_zero]; rw [famB_yes (lo := 216) (hi := 222) (by omega)]; simp⟩, ⟨by have := HL.out; simp; omega⟩⟩
        · go_wp2
          go_roundg 4
          case measure => omega
          case rel => exact ⟨3, acc, by omega, by omega, rfl, ⟨(by (with_reducible repeat (first | apply Kd.R_alloc | apply Kd.R_drewN | apply Kd.R_drew)); exact HO.out)⟩, ⟨(by repeat (first | (with_reducible first | exact HB.out | apply below_alloc | apply pw_below_drewN | apply below_drew1) | exact HB.out))⟩, ⟨by rw [← HA.out]; simp only [blocksL, List.drop_succ_cons, List.drop_zero]; rw [famB_no (lo := 216) (hi := 222) (by omega)]⟩, ⟨by have := HL.out; omega⟩⟩
      · go_wp2
        go_roundg 4
        case measure => omega
        case rel => exact ⟨3, acc, by omega, by omega, rfl, ⟨(by (with_reducible repeat (first | apply Kd.R_alloc | apply Kd.R_drewN | apply Kd.R_drew)); exact HO.out)⟩, ⟨(by repeat (first | (with_reducible first | exact HB.out | apply below_alloc | apply pw_below_drewN | apply below_drew1) | exact HB.out))⟩, ⟨by rw [← HA.out]; simp only [blocksL, List.drop_succ_cons, List.drop_zero]; rw [famB_no (lo := 216) (hi := 222) (by omega)]⟩, ⟨by have := HL.out; omega⟩⟩
    · have ii := bi3
      by_cases h1 : (913 : Int) ≤ c
      · by_cases h2 : c ≤ (929 : Int)
        · go_wp2_with (at_builtin; (refine Kd.R_append (Kd.int .i64) (w0 := w) w.heap.size rfl (.tmp 27) (.tmp 32) 49 3 (.int .i64 0) 8 rfl Tryd.underlying49 info_int rfl (by decide) (by omega) u4 acc (c + 32) [.int .i64 (c + 32)] (fun _ => True) (fun _ => False) rfl ?aX ?aP (fun _ hk => hk.elim) ?aF ?aO ?aB ?aS ?aL ?_); (case aX => (first | rfl | (simp [Act.eval]; done) | (simp [Act.eval] <;> rfl))); (case aP => exact rfl); (case aF => exact fun _ _ => trivial); (case aO => exact (by (with_reducible repeat (first | apply Kd.R_alloc | apply Kd.R_drewN | apply Kd.R_drew)); exact HO.out)); (case aB => exact (by repeat (first | (with_reducible first | exact HB.out | apply below_alloc | apply pw_below_drewN | apply below_drew1) | exact HB.out))); (case aS => exact (below_size (by repeat (first | (with_reducible first | exact HB.out | apply below_alloc | apply pw_below_drewN | apply below_drew1) | exact HB.out)))); (case aL => have := HL.out; omega); intro v1 w1 ho hb hg hat; have n0_ := Aside0.mk ho; have n1_ := Aside0.mk hb; clear HO HB ho hb hg hat; have HO := n0_; have HB := n1_; clear n0_ n1_)
          go_roundg 3
          case measure => omega
          case rel => exact ⟨4, acc ++ [c + 32], by omega, by omega, rfl, ⟨(by (with_reducible repeat (first | apply Kd.R_alloc | apply Kd.R_drewN | apply Kd.R_drew)); exact HO.out)⟩, ⟨(by repeat (first | (with_reducible first | exact HB.out | apply below_alloc | apply pw_below_drewN | apply below_drew1) | exact HB.out))⟩, ⟨by rw [← HA.out]; simp only [blocksL, List.drop_succ_cons, List.drop_zero]; rw [famB_yes (lo := 913) (hi := 929) (by omega)]; simp⟩, ⟨by have := HL.out; simp; omega⟩⟩
        · go_wp2
          go_roundg 3
          case measure => omega
          case rel => exact ⟨4, acc, by omega, by omega, rfl, ⟨(by (with_reducible repeat (first | apply Kd.R_alloc | apply Kd.R_drewN | apply Kd.R_drew)); exact HO.out)⟩, ⟨(by repeat (first | (with_reducible first | exact HB.out | apply below_alloc | apply pw_below_drewN | apply below_drew1) | exact HB.out))⟩, ⟨by rw [← HA.out]; simp only [blocksL, List.drop_succ_cons, List.drop_zero]; rw [famB_no (lo := 913) (hi := 929) (by omega)]⟩, ⟨by have := HL.out; omega⟩⟩
      · go_wp2
        go_roundg 3
        case measure => omega
        case rel => exact ⟨4, acc, by omega, by omega, rfl, ⟨(by (with_reducible repeat (first | apply Kd.R_alloc | apply Kd.R_drewN | apply Kd.R_drew)); exact HO.out)⟩, ⟨(by repeat (first | (with_reducible first | exact HB.out | apply below_alloc | apply pw_below_drewN | apply below_drew1) | exact HB.out))⟩, ⟨by rw [← HA.out]; simp only [blocksL, List.drop_succ_cons, List.drop_zero]; rw [famB_no (lo := 913) (hi := 929) (by omega)]⟩, ⟨by have := HL.out; omega⟩⟩
    · have ii := bi4
      by_cases h1 : (931 : Int) ≤ c
      · by_cases h2 : c ≤ (939 : Int)
        · go_wp2_with (at_builtin; (refine Kd.R_append (Kd.int .i64) (w0 := w) w.heap.size rfl (.tmp 27) (.tmp 32) 49 3 (.int .i64 0) 8 rfl Tryd.underlying49 info_int rfl (by decide) (by omega) u4 acc (c + 32) [.int .i64 (c + 32)] (fun _ => True) (fun _ => False) rfl ?aX ?aP (fun _ hk => hk.elim) ?aF ?aO ?aB ?aS ?aL ?_); (case aX => (first | rfl | (simp [Act.eval]; done) | (simp [Act.eval] <;> rfl))); (case aP => exact rfl); (case aF => exact fun _ _ => trivial); (case aO => exact (by (with_reducible repeat (first | apply Kd.R_alloc | apply Kd.R_drewN | apply Kd.R_drew)); exact HO.out)); (case aB => exact (by repeat (first | (with_reducible first | exact HB.out | apply below_alloc | apply pw_below_drewN | apply below_drew1) | exact HB.out))); (case aS => exact (below_size (by repeat (first | (with_reducible first | exact HB.out | apply below_alloc | apply pw_below_drewN | apply below_drew1) | exact HB.out)))); (case aL => have := HL.out; omega); intro v1 w1 ho hb hg hat; have n0_ := Aside0.mk ho; have n1_ := Aside0.mk hb; clear HO HB ho hb hg hat; have HO := n0_; have HB := n1_; clear n0_ n1_)
          go_roundg 2
          case measure => omega
          case rel => exact ⟨5, acc ++ [c + 32], by omega, by omega, rfl, ⟨(by (with_reducible repeat (first | apply Kd.R_alloc | apply Kd.R_drewN | apply Kd.R_drew)); exact HO.out)⟩, ⟨(by repeat (first | (with_reducible first | exact HB.out | apply below_alloc | apply pw_below_drewN | apply below_drew1) | exact HB.out))⟩, ⟨by rw [← HA.out]; simp only [blocksL, List.drop_succ_cons, List.drop_zero]; rw [famB_yes (lo := 931) (hi := 939) (by omega)]; simp⟩, ⟨by have := HL.out; simp; omega⟩⟩
        · go_wp2
          go_roundg 2
          case measure => omega
          case rel => exact ⟨5, acc, by omega, by omega, rfl, ⟨(by (with_reducible repeat (first | apply Kd.R_alloc | apply Kd.R_drewN | apply Kd.R_drew)); exact HO.out)⟩, ⟨(by repeat (first | (with_reducible first | exact HB.out | apply below_alloc | apply pw_below_drewN | apply below_drew1) | exact HB.out))⟩, ⟨by rw [← HA.out]; simp only [blocksL, List.drop_succ_cons, List.drop_zero]; rw [famB_no (lo := 931) (hi := 939) (by omega)]⟩, ⟨by have := HL.out; omega⟩⟩
      · go_wp2
        go_roundg 2
        case measure => omega
        case rel => exact ⟨5, acc, by omega, by omega, rfl, ⟨(by (with_reducible repeat (first | apply Kd.R_alloc | apply Kd.R_drewN | apply Kd.R_drew)); exact HO.out)⟩, ⟨(by repeat (first | (with_reducible first | exact HB.out | apply below_alloc | apply pw_below_drewN | apply below_drew1) | exact HB.out))⟩, ⟨by rw [← HA.out]; simp only [blocksL, List.drop_succ_cons, List.drop_zero]; rw [famB_no (lo := 931) (hi := 939) (by omega)]⟩, ⟨by have := HL.out; omega⟩⟩
    · have ii := bi5
      by_cases h1 : (1040 : Int) ≤ c
      · by_cases h2 : c ≤ (1071 : Int)
        · go_wp2_with (at_builtin; (refine Kd.R_append (Kd.int .i64) (w0 := w) w.heap.size rfl (.tmp 27) (.tmp 32) 49 3 (.int .i64 0) 8 rfl Tryd.underlying49 info_int rfl (by decide) (by omega) u4 acc (c + 32) [.int .i64 (c + 32)] (fun _ => True) (fun _ => False) rfl ?aX ?aP (fun _ hk => hk.elim) ?aF ?aO ?aB ?aS ?aL ?_); (case aX => (first | rfl | (simp [Act.eval]; done) | (simp [Act.eval] <;> rfl))); (case aP => exact rfl); (case aF => exact fun _ _ => trivial); (case aO => exact (by (with_reducible repeat (first | apply Kd.R_alloc | apply Kd.R_drewN | apply Kd.R_drew)); exact HO.out)); (case aB => exact (by repeat (first | (with_reducible first | exact HB.out | apply below_alloc | apply pw_below_drewN | apply below_drew1) | exact HB.out))); (case aS => exact (below_size (by repeat (first | (with_reducible first | exact HB.out | apply below_alloc | apply pw_below_drewN | apply below_drew1) | exact HB.out)))); (case aL => have := HL.out; omega); intro v1 w1 ho hb hg hat; have n0_ := Aside0.mk ho; have n1_ := Aside0.mk hb; clear HO HB ho hb hg hat; have HO := n0_; have HB := n1_; clear n0_ n1_)
          go_roundg 1
          case measure => omega
          case rel => exact ⟨6, acc ++ [c + 32], by omega, by omega, rfl, ⟨(by (with_reducible repeat (first | apply Kd.R_alloc | apply Kd.R_drewN | apply Kd.R_drew)); exact HO.out)⟩, ⟨(by repeat (first | (with_reducible first | exact HB.out | apply below_alloc | apply pw_below_drewN | apply below_drew1) | exact HB.out))⟩, ⟨by rw [← HA.out]; simp only [blocksL, List.drop_succ_cons, List.drop_zero]; rw [famB_yes (lo := 1040) (hi := 1071) (by omega)]; simp⟩, ⟨by have := HL.out; simp; omega⟩⟩
        · go_wp2
          go_roundg 1
          case measure => omega
          case rel => exact ⟨6, acc, by omega, by omega, rfl, ⟨(by (with_reducible repeat (first | apply Kd.R_alloc | apply Kd.R_drewN | apply Kd.R_drew)); exact HO.out)⟩, ⟨(by repeat (first | (with_reducible first | exact HB.out | apply below_alloc | apply pw_below_drewN | apply below_drew1) | exact HB.out))⟩, ⟨by rw [← HA.out]; simp only [blocksL, List.drop_succ_cons, List.drop_zero]; rw [famB_no (lo := 1040) (hi := 1071) (by omega)]⟩, ⟨by have := HL.out; omega⟩⟩
      · go_wp2
        go_roundg 1
        case measure => omega
        case rel => exact ⟨6, acc, by omega, by omega, rfl, ⟨(by (with_reducible repeat (first | apply Kd.R_alloc | apply Kd.R_drewN | apply Kd.R_drew)); exact HO.out)⟩, ⟨(by repeat (first | (with_reducible first | exact HB.out | apply below_alloc | apply pw_below_drewN | apply below_drew1) | exact HB.out))⟩, ⟨by rw [← HA.out]; simp only [blocksL, List.drop_succ_cons, List.drop_zero]; rw [famB_no (lo := 1040) (hi := 1071) (by omega)]⟩, ⟨by have := HL.out; omega⟩⟩
    · have ii := bi6
      by_cases h1 : (1024 : Int) ≤ c
      · by_cases h2 : c ≤ (1039 : Int)
        · go_wp2_with (at_builtin; (refine Kd.R_append (Kd.int .i64) (w0 := w) w.heap.size rfl (.tmp 27) (.tmp 32) 49 3 (.int .i64 0) 8 rfl Tryd.underlying49 info_int rfl (by decide) (by omega) u4 acc (c + 80) [.int .i64 (c + 80)] (fun _ => True) (fun _ => False) rfl ?aX ?aP (fun _ hk => hk.elim) ?aF ?aO ?aB ?aS ?aL ?_); (case aX => (first | rfl | (simp [Act.eval]; done) | (simp [Act.eval] <;> rfl))); (case aP => exact rfl); (case aF => exact fun _ _ => trivial); (case aO => exact (by (with_reducible repeat (first | apply Kd.R_alloc | apply Kd.R_drewN | apply Kd.R_drew)); exact HO.out)); (case aB => exact (by repeat (first | (with_reducible first | exact HB.out | apply below_alloc | apply pw_below_drewN | apply below_drew1) | exact HB.out))); (case aS => exact (below_size (by repeat (first | (with_reducible first | exact HB.out | apply below_alloc | apply pw_below_drewN | apply below_drew1) | exact HB.out)))); (case aL => have := HL.out; omega); intro v1 w1 ho hb hg hat; have n0_ := Aside0.mk ho; have n1_ := Aside0.mk hb; clear HO HB ho hb hg hat; have HO := n0_; have HB := n1_; clear n0_ n1_)
          go_roundg 0
          case measure => omega
          case rel => exact ⟨7, acc ++ [c + 80], by omega, by omega, rfl, ⟨(by (with_reducible repeat (first | apply Kd.R_alloc | apply Kd.R_drewN | apply Kd.R_drew)); exact HO.out)⟩, ⟨(by repeat (first | (with_reducible first | exact HB.out | apply below_alloc | apply pw_below_drewN | apply below_drew1) | exact HB.out))⟩, ⟨by rw [← HA.out]; simp only [blocksL, List.drop_succ_cons, List.drop_zero]; rw [famB_yes (lo := 1024) (hi := 1039) (by omega)]; simp⟩, ⟨by have := HL.out; simp; omega⟩⟩
        · go_wp2
          go_roundg 0
          case measure => omega
          case rel => exact ⟨7, acc, by omega, by omega, rfl, ⟨(by (with_reducible repeat (first | apply Kd.R_alloc | apply Kd.R_drewN | apply Kd.R_drew)); exact HO.out)⟩, ⟨(by repeat (first | (with_reducible first | exact HB.out | apply below_alloc | apply pw_below_drewN | apply below_drew1) | exact HB.out))⟩, ⟨by rw [← HA.out]; simp only [blocksL, List.drop_succ_cons, List.drop_zero]; rw [famB_no (lo := 1024) (hi := 1039) (by omega)]⟩, ⟨by have := HL.out; omega⟩⟩
      · go_wp2
        go_roundg 0
        case measure => omega
        case rel => exact ⟨7, acc, by omega, by omega, rfl, ⟨(by (with_reducible repeat (first | apply Kd.R_alloc | apply Kd.R_drewN | apply Kd.R_drew)); exact HO.out)⟩, ⟨(by repeat (first | (with_reducible first | exact HB.out | apply below_alloc | apply pw_below_drewN | apply below_drew1) | exact HB.out))⟩, ⟨by rw [← HA.out]; simp only [blocksL, List.drop_succ_cons, List.drop_zero]; rw [famB_no (lo := 1024) (hi := 1039) (by omega)]⟩, ⟨by have := HL.out; omega⟩⟩
end Go.Proofs.YtnpkfncccddlmaaDoorX
