import Derived.Test.YtnpkfncccddlmaaDoorXClassStr
import Derived.Test.YtnpkfncccddlmaaDoorWKept
import Derived.RangeFuncNested
import Derived.RangeFuncBound
import Derived.RangeFuncCalls
import Derived.RangeFuncLeaves
import Derived.Shelf.Abstract
import Derived.Shelf.RegionOpen
import Derived.WalkKit
import Derived.OwnWalkIn
import Derived.TacticsInMore
import Derived.LoopNIn
import Derived.LoopIn
namespace Go.Proofs.YtnpkfncccddlmaaDoorX
open Go.RowKit Go.Shelf Go.Proofs.YtnpkfncccddlmaaDoorW.PrintWords Go.Proofs.YtnpkfncccddlmaaDoorW.PrintLast
set_option linter.unusedVariables false
set_option linter.unusedSimpArgs false
attribute [local go_sem] Oper.semAt_some
abbrev encRgA (x : Int × Int) : Array Value := #[.agg #[.int .i64 x.1, .int .i64 x.2]]
/-- Rows of strings stay. -/
def KeepStr (W W' : World) : Prop := ∀ (k : Nat) (cs : Array Value) (fr : Nat × Nat), W.heap[k]? = some (.cells cs 9 fr) → W'.heap[k]? = some (.cells cs 9 fr)
theorem KeepStr.refl (W : World) : KeepStr W W := fun _ _ _ h => h
theorem KeepStr.trans {A B C : World} (h : KeepStr A B) (k : KeepStr B C) : KeepStr A C := fun i cs fr hi => k i cs fr (h i cs fr hi)
theorem KeepStr.of_below {A B : World} (h : Below A.heap.size A B) : KeepStr A B := fun i cs fr hi => (h.block i (Array.getElem?_eq_some_iff.1 hi).1).trans hi
def pieceV (s : ByteArray) : Int × Int := (numV (cutV s).1, numV (if (cutV s).2.2 then (cutV s).2.1 else (cutV s).1))
def piecesV (s : ByteArray) : List (Int × Int) := (splitV s).map pieceV
theorem cut_size (s : ByteArray) : (cutV s).1.size ≤ s.size ∧ (cutV s).2.1.size ≤ s.size := by
  unfold cutV
  split
  · simp only [ByteArray.size_extract]; omega
  · exact ⟨Nat.le_refl _, Nat.zero_le _⟩
/-- Each piece is no longer than the text. -/
def SmallPieces (s : ByteArray) : Prop := s.size ≤ 1000000 ∧ ∀ x ∈ splitV s, x.size ≤ 1000000
set_option maxRecDepth 100000 in
set_option maxHeartbeats 2000000 in
theorem pieces1_in (n : Nat) (hn : 1 ≤ n) (l Bn : Nat) (s : ByteArray) (hs : SmallPieces s) (hN : splitN s ≤ 1000000) (J Jx : List (Int × Int) → World → Prop) (W : World) (hJ : AbidesFrom W.heap.size J)
    (hY : ∀ pre x W1, J pre W1 → pre.length < splitN s → YieldAt Fence.wide (n - 1) Tryd.prog l (encRgA x) W1 fun e W' =>
      (e = .returned (.bool true) ∧ J (pre ++ [x]) W' ∧ KeepStr W1 W') ∨ (e = .returned (.bool false) ∧ Jx (pre ++ [x]) W'))
    (hBn : W.cell? ⟨Bn, 0, none⟩ = some (.string s)) (h0 : J [] W) :
    CallsIn Fence.wide n Tryd.prog 69 #[.func (.yield l) #[] #[], .pointer (some ⟨Bn, 0, none⟩)] W fun e W' => (∃ v, e = .returned v) ∧
      ((∃ ys, ys = piecesV s ∧ J ys W') ∨ (∃ pre, pre <+: piecesV s ∧ Jx pre W')) := by
  have HC := Aside0.mk (fun (x : ByteArray) (hx : x.size ≤ 1000000) (w : World) => callsIn_wide (n := n - 1).2 (cut_at x hx w))
  have HD := Aside0.mk (fun (x : ByteArray) (hx : x.size ≤ 1000000) (w : World) => callsIn_wide (n := n - 1).2 (number_at x hx w))
  have HS := Aside0.mk (callsIn_wide (n := n - 1).2 (split_at s (by have := hs.1; omega) W))
  refine callsIn_of_wp Tryd.func69 rfl trivial ?_ rfl
  simp only [Tryd.ntmps69, List.size_toArray, List.length_cons, List.length_nil, Nat.reduceAdd, Nat.reduceSub, Array.replicate_succ, Array.replicate_zero, List.push_toArray, List.append_toArray, List.nil_append, List.cons_append]
  gi_wp2_with fail
  refine ⟨trivial, HS.out.mono ?_⟩
  rintro e w' ⟨rfl, rfl⟩
  have HR := Aside0.mk (heap_alloc_new W (.cells ((splitV s).map Value.string).toArray 9))
  have HJ0 := Aside0.mk (hJ _ _ _ none h0 (World.grownBy_alloc W (.cells ((splitV s).map Value.string).toArray 9) none) (fun r e => by cases e))
  generalize W.alloc (.cells ((splitV s).map Value.string).toArray 9) = W1 at HR HJ0 ⊢
  have HJ := Aside0.mk hJ
  have HY := Aside0.mk hY
  have HPL := Aside0.mk (show (piecesV s).length = splitN s by unfold piecesV; rw [List.length_map, split_len])
  have hsn : 1 ≤ splitN s := by unfold splitN; omega
  clear hBn h0 hJ hY HS
  obtain ⟨N, hNN⟩ : ∃ N, N = splitN s := ⟨_, rfl⟩
  rw [← hNN] at hN hsn HPL HY ⊢
  generalize W.heap.size = b at HR ⊢
  gi_wp2_with fail
  gi_loopw [11] (fun i wr => ∃ k : Nat, k ≤ N ∧ i = .int .i64 k ∧ Aside0 (J ((piecesV s).take k) wr) ∧ Aside0 (wr.heap[b]? = some (.cells ((splitV s).map Value.string).toArray 9 (0, 0)))) (fun i _ => N - (intOf i).toNat)
  case atStart => exact ⟨0, Nat.zero_le _, rfl, HJ0, HR⟩
  case round =>
    clear HJ0 HR
    obtain ⟨k, hk, rfl, HJ1, HR⟩ := hrel
    by_cases hlt : k < N
    · have hkl : k < (splitV s).length := by rw [split_len, ← hNN]; exact hlt
      have hkp : k < (piecesV s).length := by rw [HPL.out]; exact hlt
      have hc : wr.cell? ⟨b, k, none⟩ = some (.string (splitV s)[k]) := (blk_cell HR.out k).trans (by simp [hkl])
      have hx := hs.2 _ (List.getElem_mem hkl)
      have HP := Aside0.mk (show (piecesV s).take (k + 1) = (piecesV s).take k ++ [pieceV (splitV s)[k]] by
        rw [List.take_succ_eq_append_getElem hkp]
        simp [piecesV])
      generalize (splitV s)[k] = x at hc hx HP
      have hz := cut_size x
      gi_wp2_with fail
      refine ⟨trivial, (HC.out x hx wr).mono ?_⟩
      rintro e w' ⟨rfl, m, rfl⟩
      have HJ2 := Aside0.mk (HJ.out _ _ _ none HJ1.out (grown_of_below (pw_below_drewN (Below.refl _ wr) m) none) (fun r e => by cases e))
      have HR2 := Aside0.mk (show (wr.drewN m).heap[b]? = some (.cells ((splitV s).map Value.string).toArray 9 (0, 0)) from HR.out)
      have hpv : pieceV x = (numV (cutV x).1, numV (if (cutV x).2.2 then (cutV x).2.1 else (cutV x).1)) := rfl
      generalize wr.drewN m = w2 at HJ2 HR2 ⊢
      clear hc HJ1 HR
      generalize cutV x = cv at hz hpv ⊢
      obtain ⟨lo, hi, two⟩ := cv
      simp only at hz hpv
      have hzl : lo.size ≤ 1000000 := by omega
      have hzh : (if two = true then hi else lo).size ≤ 1000000 := by split <;> omega
      obtain ⟨fn, tmps, assign, body, hy, hR⟩ := HY.out _ (pieceV x) w2 HJ2.out (by rw [List.length_take]; omega)
      rw [← HP.out] at hR
      have HRD := Aside0.mk hR
      clear hR hz HC
      cases two with
      | true =>
        rw [show pieceV x = (numV lo, numV hi) from hpv] at hy
        rw [if_pos rfl] at hzh
        dsimp only [encRgA] at hy
        gi_wp2_with fail
        refine ⟨trivial, (HD.out lo hzl w2).mono ?_⟩
        rintro e w' ⟨rfl, rfl⟩
        gi_wp2_with fail
        refine ⟨trivial, (HD.out hi hzh w').mono ?_⟩
        rintro e w'' ⟨rfl, rfl⟩
        gi_wp2_with fail
        refine HRD.out.mono ?_
        rintro e W3 (⟨rfl, hJ3, hk3⟩ | ⟨rfl, hJx3⟩)
        · gi_wp2
          go_roundw
          case rel => exact ⟨k + 1, by omega, by simp, ⟨hJ3⟩, ⟨hk3 _ _ _ HR2.out⟩⟩
          case measure => simp [intOf]; omega
        · gi_wp2
          refine bodyPost_ret (results_none rfl _ _ _) rfl ?_
          exact ⟨⟨_, rfl⟩, .inr ⟨_, List.take_prefix _ _, hJx3⟩⟩
      | false =>
        rw [show pieceV x = (numV lo, numV lo) from hpv] at hy
        rw [if_neg (by decide)] at hzh
        dsimp only [encRgA] at hy
        gi_wp2_with fail
        refine ⟨trivial, (HD.out lo hzl w2).mono ?_⟩
        rintro e w' ⟨rfl, rfl⟩
        gi_wp2_with fail
        refine ⟨trivial, (HD.out lo hzh w').mono ?_⟩
        rintro e w'' ⟨rfl, rfl⟩
        gi_wp2_with fail
        refine HRD.out.mono ?_
        rintro e W3 (⟨rfl, hJ3, hk3⟩ | ⟨rfl, hJx3⟩)
        · gi_wp2
          go_roundw
          case rel => exact ⟨k + 1, by omega, by simp, ⟨hJ3⟩, ⟨hk3 _ _ _ HR2.out⟩⟩
          case measure => simp [intOf]; omega
        · gi_wp2
          refine bodyPost_ret (results_none rfl _ _ _) rfl ?_
          exact ⟨⟨_, rfl⟩, .inr ⟨_, List.take_prefix _ _, hJx3⟩⟩
    · obtain rfl : k = N := by omega
      gi_wp2
      go_end0
      exact ⟨⟨_, rfl⟩, .inl ⟨_, rfl, by have := HJ1.out; rwa [List.take_of_length_le (by rw [HPL.out]; exact Nat.le_refl _)] at this⟩⟩
end Go.Proofs.YtnpkfncccddlmaaDoorX
