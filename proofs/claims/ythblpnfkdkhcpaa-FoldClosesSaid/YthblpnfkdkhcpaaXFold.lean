import Derived.Test.YthblpnfkdkhcpaaProg
import Derived.Below
import Derived.WalkKit
import Derived.KernelRfl
import Derived.RowKit3
import Derived.Deep.LoopGhost
import Derived.Deep.QuietTactic
import Derived.BigQuiet
import Derived.Deep.DeepCutAuto
import Derived.Deep.WholeRow
import Derived.OwnWalk
import Derived.Test.YthblpnfkdkhcpaaWMore
import Derived.Test.YthblpnfkdkhcpaaXSortInts
namespace Go.Proofs.YthblpnfkdkhcpaaX
open Go.RowKit Go.Proofs.YthblpnfkdkhcpaaW.PrintWords Go.Proofs.YthblpnfkdkhcpaaW.PrintLast Go.Proofs.YthblpnfkdkhcpaaW.PrintMore
set_option linter.unusedVariables false
set_option linter.unusedSimpArgs false
def othersV : Value := .agg #[.int .i64 255, .int .i64 376, .int .i64 181, .int .i64 924, .int .i64 962, .int .i64 931, .int .i64 8490, .int .i64 75, .int .i64 8491, .int .i64 197, .int .i64 383, .int .i64 83, .int .i64 8486, .int .i64 937]
def blocksV : Value := .agg #[.int .i64 65, .int .i64 90, .int .i64 32, .int .i64 192, .int .i64 214, .int .i64 32, .int .i64 216, .int .i64 222, .int .i64 32, .int .i64 913, .int .i64 929, .int .i64 32, .int .i64 931, .int .i64 939, .int .i64 32, .int .i64 1040, .int .i64 1071, .int .i64 32, .int .i64 1024, .int .i64 1039, .int .i64 80]
def othersL : List (Int × Int) := [(255, 376), (181, 924), (962, 931), (8490, 75), (8491, 197), (383, 83), (8486, 937)]
def blocksL : List (Int × Int × Int) := [(65, 90, 32), (192, 214, 32), (216, 222, 32), (913, 929, 32), (931, 939, 32), (1040, 1071, 32), (1024, 1039, 80)]
set_option maxHeartbeats 400000 in
theorem others_any (w : World) : Calls Try.prog 28 #[] w fun e w' => e = .returned othersV ∧ Below w.heap.size w w' := by
  go_enter Try.func28, Try.ntmps28
  go_wp2_with (refine wpList_store_row rfl 45 (.tmp 0) (.tmp 8) rfl w.heap.size #[.int .i64 255, .int .i64 376, .int .i64 181, .int .i64 924, .int .i64 962, .int .i64 931, .int .i64 8490, .int .i64 75, .int .i64 8491, .int .i64 197, .int .i64 383, .int .i64 83, .int .i64 8486, .int .i64 937] rfl rfl 45 #[.int .i64 0, .int .i64 0, .int .i64 0, .int .i64 0, .int .i64 0, .int .i64 0, .int .i64 0, .int .i64 0, .int .i64 0, .int .i64 0, .int .i64 0, .int .i64 0, .int .i64 0, .int .i64 0] (heap_alloc_last w _) (by kernel_rfl) rfl (by kernel_rfl) ?_)
  rw [World.setRow_alloc_new]
  exact bodyPost_ret (v := othersV) (results_single rfl (.cell _ _ _ _ _ rfl (heap_alloc_last _ _) Try.underlying45 rfl (by kernel_rfl) .nil)) rfl ⟨rfl, (Below.refl _ _).alloc (Nat.le_refl _) _⟩
set_option maxHeartbeats 400000 in
theorem blocks_any (w : World) : Calls Try.prog 27 #[] w fun e w' => e = .returned blocksV ∧ Below w.heap.size w w' := by
  go_enter Try.func27, Try.ntmps27
  go_wp2_with (refine wpList_store_row rfl 41 (.tmp 0) (.tmp 8) rfl w.heap.size #[.int .i64 65, .int .i64 90, .int .i64 32, .int .i64 192, .int .i64 214, .int .i64 32, .int .i64 216, .int .i64 222, .int .i64 32, .int .i64 913, .int .i64 929, .int .i64 32, .int .i64 931, .int .i64 939, .int .i64 32, .int .i64 1040, .int .i64 1071, .int .i64 32, .int .i64 1024, .int .i64 1039, .int .i64 80] rfl rfl 41 #[.int .i64 0, .int .i64 0, .int .i64 0, .int .i64 0, .int .i64 0, .int .i64 0, .int .i64 0, .int .i64 0, .int .i64 0, .int .i64 0, .int .i64 0, .int .i64 0, .int .i64 0, .int .i64 0, .int .i64 0, .int .i64 0, .int .i64 0, .int .i64 0, .int .i64 0, .int .i64 0, .int .i64 0] (heap_alloc_last w _) (by kernel_rfl) rfl (by kernel_rfl) ?_)
  rw [World.setRow_alloc_new]
  exact bodyPost_ret (v := blocksV) (results_single rfl (.cell _ _ _ _ _ rfl (heap_alloc_last _ _) Try.underlying41 rfl (by kernel_rfl) .nil)) rfl ⟨rfl, (Below.refl _ _).alloc (Nat.le_refl _) _⟩
def capB : List (Int × Int × Int) → Int → Int
  | [], r => r
  | (lo, hi, up) :: t, r => if lo + up ≤ r ∧ r ≤ hi + up then r - up else capB t r
def capO : List (Int × Int) → Int → Int
  | [], r => capB blocksL r
  | (a, b) :: t, r => if a = r then b else capO t r
def capF (r : Int) : Int := capO othersL r
theorem capB_no {lo hi up r : Int} {t : List (Int × Int × Int)} (h : ¬ (lo + up ≤ r ∧ r ≤ hi + up)) : capB ((lo, hi, up) :: t) r = capB t r := if_neg h
theorem capB_yes {lo hi up r : Int} {t : List (Int × Int × Int)} (h : lo + up ≤ r ∧ r ≤ hi + up) : capB ((lo, hi, up) :: t) r = r - up := if_pos h
theorem ret_i {a b : Int} (h : a = b) : Ending.returned (.int .i64 a) = .returned (.int .i64 b) := by rw [h]
theorem oi0 (w : World) : (Instr.index 45 othersV (.int .i64 0)).run Try.prog w = .ok (.agg #[.int .i64 255, .int .i64 376]) w := by kernel_rfl
theorem oi1 (w : World) : (Instr.index 45 othersV (.int .i64 1)).run Try.prog w = .ok (.agg #[.int .i64 181, .int .i64 924]) w := by kernel_rfl
theorem oi2 (w : World) : (Instr.index 45 othersV (.int .i64 2)).run Try.prog w = .ok (.agg #[.int .i64 962, .int .i64 931]) w := by kernel_rfl
theorem oi3 (w : World) : (Instr.index 45 othersV (.int .i64 3)).run Try.prog w = .ok (.agg #[.int .i64 8490, .int .i64 75]) w := by kernel_rfl
theorem oi4 (w : World) : (Instr.index 45 othersV (.int .i64 4)).run Try.prog w = .ok (.agg #[.int .i64 8491, .int .i64 197]) w := by kernel_rfl
theorem oi5 (w : World) : (Instr.index 45 othersV (.int .i64 5)).run Try.prog w = .ok (.agg #[.int .i64 383, .int .i64 83]) w := by kernel_rfl
theorem oi6 (w : World) : (Instr.index 45 othersV (.int .i64 6)).run Try.prog w = .ok (.agg #[.int .i64 8486, .int .i64 937]) w := by kernel_rfl
theorem bi0 (w : World) : (Instr.index 41 blocksV (.int .i64 0)).run Try.prog w = .ok (.agg #[.int .i64 65, .int .i64 90, .int .i64 32]) w := by kernel_rfl
theorem bi1 (w : World) : (Instr.index 41 blocksV (.int .i64 1)).run Try.prog w = .ok (.agg #[.int .i64 192, .int .i64 214, .int .i64 32]) w := by kernel_rfl
theorem bi2 (w : World) : (Instr.index 41 blocksV (.int .i64 2)).run Try.prog w = .ok (.agg #[.int .i64 216, .int .i64 222, .int .i64 32]) w := by kernel_rfl
theorem bi3 (w : World) : (Instr.index 41 blocksV (.int .i64 3)).run Try.prog w = .ok (.agg #[.int .i64 913, .int .i64 929, .int .i64 32]) w := by kernel_rfl
theorem bi4 (w : World) : (Instr.index 41 blocksV (.int .i64 4)).run Try.prog w = .ok (.agg #[.int .i64 931, .int .i64 939, .int .i64 32]) w := by kernel_rfl
theorem bi5 (w : World) : (Instr.index 41 blocksV (.int .i64 5)).run Try.prog w = .ok (.agg #[.int .i64 1040, .int .i64 1071, .int .i64 32]) w := by kernel_rfl
theorem bi6 (w : World) : (Instr.index 41 blocksV (.int .i64 6)).run Try.prog w = .ok (.agg #[.int .i64 1024, .int .i64 1039, .int .i64 80]) w := by kernel_rfl
set_option maxHeartbeats 4000000 in
theorem capital_any (r : Int) (w : World) : Calls Try.prog 26 #[.int .i64 r] w fun e w' => e = .returned (.int .i64 (capF r)) ∧ Below w.heap.size w w' := by
  go_enter Try.func26, Try.ntmps26
  go_wp2_with (go_at_call 28; refine (others_any _).mono ?_; rintro e w' ⟨rfl, hb⟩)
  go_loopg [8] 7 (fun g s8 wr => ∃ k : Nat, k ≤ 7 ∧ 7 - k ≤ g ∧ s8 = .int .i64 k ∧ Aside (Below w.heap.size w wr) ∧ Aside (capF r = capO (othersL.drop k) r))
  case atStart => exact ⟨0, by omega, by omega, rfl, hb, rfl⟩
  case round =>
    obtain ⟨k, hk, hg, rfl, BW, A⟩ := hrel
    clear hb
    have hcase : k = 7 ∨ k = 0 ∨ k = 1 ∨ k = 2 ∨ k = 3 ∨ k = 4 ∨ k = 5 ∨ k = 6 := by omega
    rcases hcase with rfl | rfl | rfl | rfl | rfl | rfl | rfl | rfl
    · go_wp2_with (go_at_call 27; refine (blocks_any _).mono ?_; rintro e w2 ⟨rfl, hb2⟩)
      have BW2 : Aside (Below w.heap.size w w2) := BW.out.trans (hb2.mono BW.out.size)
      clear hb2 BW
      go_loopg [19] 7 (fun g s19 wr2 => ∃ k : Nat, k ≤ 7 ∧ 7 - k ≤ g ∧ s19 = .int .i64 k ∧ Aside (Below w.heap.size w wr2) ∧ Aside (capF r = capB (blocksL.drop k) r))
      case atStart => exact ⟨0, by omega, by omega, rfl, BW2, A⟩
      case round =>
        obtain ⟨j, hj, hg2, rfl, BW3, A3⟩ := hrel
        clear BW2 A
        have hcase : j = 7 ∨ j = 0 ∨ j = 1 ∨ j = 2 ∨ j = 3 ∨ j = 4 ∨ j = 5 ∨ j = 6 := by omega
        rcases hcase with rfl | rfl | rfl | rfl | rfl | rfl | rfl | rfl
        · go_wp2
          go_ret
          exact ⟨ret_i (A3.out.trans rfl).symm, BW3.out⟩
        · have ii := bi0
          by_cases h1 : (97 : Int) ≤ r
          · by_cases h2 : r ≤ (122 : Int)
            · go_wp2
              go_ret
              exact ⟨ret_i (A3.out.trans (capB_yes (lo := 65) (hi := 90) (up := 32) (t := blocksL.drop 1) (by omega))).symm, BW3.out.alloc BW3.out.size _⟩
            · go_wp2
              go_roundg 6
              case measure => omega
              case rel => exact ⟨1, by omega, by omega, rfl, BW3.out.alloc BW3.out.size _, A3.out.trans (capB_no (lo := 65) (hi := 90) (up := 32) (t := blocksL.drop 1) (by omega))⟩
          · go_wp2
            go_roundg 6
            case measure => omega
            case rel => exact ⟨1, by omega, by omega, rfl, BW3.out.alloc BW3.out.size _, A3.out.trans (capB_no (lo := 65) (hi := 90) (up := 32) (t := blocksL.drop 1) (by omega))⟩
        · have ii := bi1
          by_cases h1 : (224 : Int) ≤ r
          · by_cases h2 : r ≤ (246 : Int)
            · go_wp2
              go_ret
              exact ⟨ret_i (A3.out.trans (capB_yes (lo := 192) (hi := 214) (up := 32) (t := blocksL.drop 2) (by omega))).symm, BW3.out.alloc BW3.out.size _⟩
            · go_wp2
              go_roundg 5
              case measure => omega
              case rel => exact ⟨2, by omega, by omega, rfl, BW3.out.alloc BW3.out.size _, A3.out.trans (capB_no (lo := 192) (hi := 214) (up := 32) (t := blocksL.drop 2) (by omega))⟩
          · go_wp2
            go_roundg 5
            case measure => omega
            case rel => exact ⟨2, by omega, by omega, rfl, BW3.out.alloc BW3.out.size _, A3.out.trans (capB_no (lo := 192) (hi := 214) (up := 32) (t := blocksL.drop 2) (by omega))⟩
        · have ii := bi2
          by_cases h1 : (248 : Int) ≤ r
          · by_cases h2 : r ≤ (254 : Int)
            · go_wp2
              go_ret
              exact ⟨ret_i (A3.out.trans (capB_yes (lo := 216) (hi := 222) (up := 32) (t := blocksL.drop 3) (by omega))).symm, BW3.out.alloc BW3.out.size _⟩
            · go_wp2
              go_roundg 4
              case measure => omega
              case rel => exact ⟨3, by omega, by omega, rfl, BW3.out.alloc BW3.out.size _, A3.out.trans (capB_no (lo := 216) (hi := 222) (up := 32) (t := blocksL.drop 3) (by omega))⟩
          · go_wp2
            go_roundg 4
            case measure => omega
            case rel => exact ⟨3, by omega, by omega, rfl, BW3.out.alloc BW3.out.size _, A3.out.trans (capB_no (lo := 216) (hi := 222) (up := 32) (t := blocksL.drop 3) (by omega))⟩
        · have ii := bi3
          by_cases h1 : (945 : Int) ≤ r
          · by_cases h2 : r ≤ (961 : Int)
            · go_wp2
              go_ret
              exact ⟨ret_i (A3.out.trans (capB_yes (lo := 913) (hi := 929) (up := 32) (t := blocksL.drop 4) (by omega))).symm, BW3.out.alloc BW3.out.size _⟩
            · go_wp2
              go_roundg 3
              case measure => omega
              case rel => exact ⟨4, by omega, by omega, rfl, BW3.out.alloc BW3.out.size _, A3.out.trans (capB_no (lo := 913) (hi := 929) (up := 32) (t := blocksL.drop 4) (by omega))⟩
          · go_wp2
            go_roundg 3
            case measure => omega
            case rel => exact ⟨4, by omega, by omega, rfl, BW3.out.alloc BW3.out.size _, A3.out.trans (capB_no (lo := 913) (hi := 929) (up := 32) (t := blocksL.drop 4) (by omega))⟩
        · have ii := bi4
          by_cases h1 : (963 : Int) ≤ r
          · by_cases h2 : r ≤ (971 : Int)
            · go_wp2
              go_ret
              exact ⟨ret_i (A3.out.trans (capB_yes (lo := 931) (hi := 939) (up := 32) (t := blocksL.drop 5) (by omega))).symm, BW3.out.alloc BW3.out.size _⟩
            · go_wp2
              go_roundg 2
              case measure => omega
              case rel => exact ⟨5, by omega, by omega, rfl, BW3.out.alloc BW3.out.size _, A3.out.trans (capB_no (lo := 931) (hi := 939) (up := 32) (t := blocksL.drop 5) (by omega))⟩
          · go_wp2
            go_roundg 2
            case measure => omega
            case rel => exact ⟨5, by omega, by omega, rfl, BW3.out.alloc BW3.out.size _, A3.out.trans (capB_no (lo := 931) (hi := 939) (up := 32) (t := blocksL.drop 5) (by omega))⟩
        · have ii := bi5
          by_cases h1 : (1072 : Int) ≤ r
          · by_cases h2 : r ≤ (1103 : Int)
            · go_wp2
              go_ret
              exact ⟨ret_i (A3.out.trans (capB_yes (lo := 1040) (hi := 1071) (up := 32) (t := blocksL.drop 6) (by omega))).symm, BW3.out.alloc BW3.out.size _⟩
            · go_wp2
              go_roundg 1
              case measure => omega
              case rel => exact ⟨6, by omega, by omega, rfl, BW3.out.alloc BW3.out.size _, A3.out.trans (capB_no (lo := 1040) (hi := 1071) (up := 32) (t := blocksL.drop 6) (by omega))⟩
          · go_wp2
            go_roundg 1
            case measure => omega
            case rel => exact ⟨6, by omega, by omega, rfl, BW3.out.alloc BW3.out.size _, A3.out.trans (capB_no (lo := 1040) (hi := 1071) (up := 32) (t := blocksL.drop 6) (by omega))⟩
        · have ii := bi6
          by_cases h1 : (1104 : Int) ≤ r
          · by_cases h2 : r ≤ (1119 : Int)
            · go_wp2
              go_ret
              exact ⟨ret_i (A3.out.trans (capB_yes (lo := 1024) (hi := 1039) (up := 80) (t := blocksL.drop 7) (by omega))).symm, BW3.out.alloc BW3.out.size _⟩
            · go_wp2
              go_roundg 0
              case measure => omega
              case rel => exact ⟨7, by omega, by omega, rfl, BW3.out.alloc BW3.out.size _, A3.out.trans (capB_no (lo := 1024) (hi := 1039) (up := 80) (t := blocksL.drop 7) (by omega))⟩
          · go_wp2
            go_roundg 0
            case measure => omega
            case rel => exact ⟨7, by omega, by omega, rfl, BW3.out.alloc BW3.out.size _, A3.out.trans (capB_no (lo := 1024) (hi := 1039) (up := 80) (t := blocksL.drop 7) (by omega))⟩
    · have ii := oi0
      by_cases h : (255 : Int) = r
      · subst h
        go_wp2
        go_ret
        exact ⟨by kernel_rfl, BW.out.alloc BW.out.size _⟩
      · have h' : ((255 : Int) == r) = false := by simpa using h
        go_wp2
        go_roundg 6
        case measure => omega
        case rel => exact ⟨1, by omega, by omega, rfl, BW.out.alloc BW.out.size _, A.out.trans (if_neg h)⟩
    · have ii := oi1
      by_cases h : (181 : Int) = r
      · subst h
        go_wp2
        go_ret
        exact ⟨by kernel_rfl, BW.out.alloc BW.out.size _⟩
      · have h' : ((181 : Int) == r) = false := by simpa using h
        go_wp2
        go_roundg 5
        case measure => omega
        case rel => exact ⟨2, by omega, by omega, rfl, BW.out.alloc BW.out.size _, A.out.trans (if_neg h)⟩
    · have ii := oi2
      by_cases h : (962 : Int) = r
      · subst h
        go_wp2
        go_ret
        exact ⟨by kernel_rfl, BW.out.alloc BW.out.size _⟩
      · have h' : ((962 : Int) == r) = false := by simpa using h
        go_wp2
        go_roundg 4
        case measure => omega
        case rel => exact ⟨3, by omega, by omega, rfl, BW.out.alloc BW.out.size _, A.out.trans (if_neg h)⟩
    · have ii := oi3
      by_cases h : (8490 : Int) = r
      · subst h
        go_wp2
        go_ret
        exact ⟨by kernel_rfl, BW.out.alloc BW.out.size _⟩
      · have h' : ((8490 : Int) == r) = false := by simpa using h
        go_wp2
        go_roundg 3
        case measure => omega
        case rel => exact ⟨4, by omega, by omega, rfl, BW.out.alloc BW.out.size _, A.out.trans (if_neg h)⟩
    · have ii := oi4
      by_cases h : (8491 : Int) = r
      · subst h
        go_wp2
        go_ret
        exact ⟨by kernel_rfl, BW.out.alloc BW.out.size _⟩
      · have h' : ((8491 : Int) == r) = false := by simpa using h
        go_wp2
        go_roundg 2
        case measure => omega
        case rel => exact ⟨5, by omega, by omega, rfl, BW.out.alloc BW.out.size _, A.out.trans (if_neg h)⟩
    · have ii := oi5
      by_cases h : (383 : Int) = r
      · subst h
        go_wp2
        go_ret
        exact ⟨by kernel_rfl, BW.out.alloc BW.out.size _⟩
      · have h' : ((383 : Int) == r) = false := by simpa using h
        go_wp2
        go_roundg 1
        case measure => omega
        case rel => exact ⟨6, by omega, by omega, rfl, BW.out.alloc BW.out.size _, A.out.trans (if_neg h)⟩
    · have ii := oi6
      by_cases h : (8486 : Int) = r
      · subst h
        go_wp2
        go_ret
        exact ⟨by kernel_rfl, BW.out.alloc BW.out.size _⟩
      · have h' : ((8486 : Int) == r) = false := by simpa using h
        go_wp2
        go_roundg 0
        case measure => omega
        case rel => exact ⟨7, by omega, by omega, rfl, BW.out.alloc BW.out.size _, A.out.trans (if_neg h)⟩
end Go.Proofs.YthblpnfkdkhcpaaX
