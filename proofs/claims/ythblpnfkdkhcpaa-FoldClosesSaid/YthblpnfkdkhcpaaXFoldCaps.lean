import Derived.Test.YthblpnfkdkhcpaaXFoldClone
namespace Go.Proofs.YthblpnfkdkhcpaaX
set_option linter.unusedVariables false
/-- The capitals, in the order of Close's loops. -/
def runL (lo hi : Int) : List Int := (List.range (hi + 1 - lo).toNat).map (fun (i : Nat) => lo + i)
def capsB (k : Nat) : List Int := (blocksL.drop k).flatMap (fun x => runL x.1 x.2.1)
def capsO (k : Nat) : List Int := (othersL.drop k).map (fun x => x.2)
def closeL (l : List (Int × Int)) : List (Int × Int) := normL (l ++ (capsB 0 ++ capsO 0).flatMap (addF l))
theorem famB_len (c : Int) : ∀ t : List (Int × Int × Int), (famB t c).length ≤ t.length
  | [] => by simp [famB]
  | (lo, hi, up) :: t => by
    have := famB_len c t
    unfold famB
    split <;> simp <;> omega
theorem famO_len (c : Int) : ∀ t : List (Int × Int), (famO t c).length ≤ t.length
  | [] => by simp [famO]
  | (a, b) :: t => by
    have := famO_len c t
    unfold famO
    split <;> simp <;> omega
theorem fam_small (c : Int) : (famF c).length ≤ 15 := by
  unfold famF fam0
  rw [List.length_mergeSort, List.length_cons, List.length_append]
  have h1 := famB_len (capF c) blocksL
  have h2 := famO_len (capF c) othersL
  have e1 : blocksL.length = 7 := rfl
  have e2 : othersL.length = 7 := rfl
  omega
theorem addF_small (l : List (Int × Int)) (c : Int) : (addF l c).length ≤ 15 := by
  have := fam_small c
  unfold addF
  split <;> simp <;> omega
theorem runL_cons {lo hi : Int} (h : lo ≤ hi) : runL lo hi = lo :: runL (lo + 1) hi := by
  unfold runL
  rw [show (hi + 1 - lo).toNat = (hi + 1 - (lo + 1)).toNat + 1 by omega, List.range_succ_eq_map, List.map_cons, List.map_map]
  congr 1
  · simp
  · apply List.map_congr_left
    intro i _
    simp only [Function.comp]
    omega
theorem runL_nil {lo hi : Int} (h : hi < lo) : runL lo hi = [] := by
  unfold runL
  rw [show (hi + 1 - lo).toNat = 0 by omega]
  rfl
def blkAt (k : Nat) : Int × Int × Int := blocksL.getD k (0, 0, 0)
def othAt (k : Nat) : Int × Int := othersL.getD k (0, 0)
theorem capsB_step {k : Nat} (h : k < 7) : capsB k = runL (blkAt k).1 (blkAt k).2.1 ++ capsB (k + 1) := by
  unfold capsB blkAt
  have h' : k < blocksL.length := h
  rw [List.drop_eq_getElem_cons h', List.flatMap_cons, List.getD_eq_getElem?_getD, List.getElem?_eq_getElem h']
  rfl
theorem capsO_step {k : Nat} (h : k < 7) : capsO k = (othAt k).2 :: capsO (k + 1) := by
  unfold capsO othAt
  have h' : k < othersL.length := h
  rw [List.drop_eq_getElem_cons h', List.map_cons, List.getD_eq_getElem?_getD, List.getElem?_eq_getElem h']
  rfl
theorem blkAt_in {k : Nat} (h : k < 7) : 0 ≤ (blkAt k).1 ∧ (blkAt k).1 ≤ (blkAt k).2.1 ∧ (blkAt k).2.1 ≤ 2000 ∧ (blkAt k).2.1 - (blkAt k).1 ≤ 31 := by
  have : k = 0 ∨ k = 1 ∨ k = 2 ∨ k = 3 ∨ k = 4 ∨ k = 5 ∨ k = 6 := by omega
  rcases this with rfl | rfl | rfl | rfl | rfl | rfl | rfl <;> decide
theorem bi_all {k : Nat} (h : k < 7) (w : World) : (Instr.index 41 blocksV (.int .i64 k)).run Try.prog w = .ok (.agg #[.int .i64 (blkAt k).1, .int .i64 (blkAt k).2.1, .int .i64 (blkAt k).2.2]) w := by
  have : k = 0 ∨ k = 1 ∨ k = 2 ∨ k = 3 ∨ k = 4 ∨ k = 5 ∨ k = 6 := by omega
  rcases this with rfl | rfl | rfl | rfl | rfl | rfl | rfl
  · exact bi0 w
  · exact bi1 w
  · exact bi2 w
  · exact bi3 w
  · exact bi4 w
  · exact bi5 w
  · exact bi6 w
theorem oi_all {k : Nat} (h : k < 7) (w : World) : (Instr.index 45 othersV (.int .i64 k)).run Try.prog w = .ok (.agg #[.int .i64 (othAt k).1, .int .i64 (othAt k).2]) w := by
  have : k = 0 ∨ k = 1 ∨ k = 2 ∨ k = 3 ∨ k = 4 ∨ k = 5 ∨ k = 6 := by omega
  rcases this with rfl | rfl | rfl | rfl | rfl | rfl | rfl
  · exact oi0 w
  · exact oi1 w
  · exact oi2 w
  · exact oi3 w
  · exact oi4 w
  · exact oi5 w
  · exact oi6 w
end Go.Proofs.YthblpnfkdkhcpaaX
