import Derived.Test.YtnpkfncccddlmaaDoorXShelfC
import Derived.Test.YtnpkfncccddlmaaDoorWWords
import Derived.Test.YtnpkfncccddlmaaDoorWLast
import Derived.Deep.QuietTactic
import Derived.BigQuiet
namespace Go.Proofs.YtnpkfncccddlmaaDoorX
open Go.RowKit Go.Proofs.YtnpkfncccddlmaaDoorW.PrintWords Go.Proofs.YtnpkfncccddlmaaDoorW.PrintLast
set_option linter.unusedVariables false
set_option linter.unusedSimpArgs false
/-- class.number: its value. -/
def hexes : List UInt8 := [48, 49, 50, 51, 52, 53, 54, 55, 56, 57, 65, 66, 67, 68, 69, 70]
def numStep (n : Int) (c : UInt8) : Int := wrap64 (wrap64 (16 * n) + Lib.indexByte hexes c)
def numV (s : ByteArray) : Int := s.data.toList.foldl numStep 0
set_option maxHeartbeats 1000000 in
theorem number_at (s : ByteArray) (hs : s.size ≤ 1000000) (w : World) : Calls Tryd.prog 72 #[.string s] w fun e w' => e = .returned (.int .i64 (numV s)) ∧ w' = w := by
  have HI := Aside0.mk (fun (c : Int) => Any.strings_IndexByte Tryd.lay_idxByte ⟨#[48, 49, 50, 51, 52, 53, 54, 55, 56, 57, 65, 66, 67, 68, 69, 70]⟩ c w)
  have HS := Aside0.mk hs
  go_enter Tryd.func72, Tryd.ntmps72
  go_wp2_with fail
  go_loopg [3, 7] s.size (fun gq t3 t7 wr => ∃ i : Nat, i ≤ s.size ∧ s.size - i ≤ gq ∧ t3 = .int .i64 ((s.data.toList.take i).foldl numStep 0) ∧ t7 = .int .i64 i ∧ Aside0 (wr = w))
  case atStart => exact ⟨0, Nat.zero_le _, Nat.le_refl _, rfl, rfl, ⟨rfl⟩⟩
  case round =>
    obtain ⟨i, hi, hgq, rfl, rfl, hw⟩ := hrel
    have hw := hw.out
    subst hw
    by_cases hlt : i < s.size
    · have hl : i < s.data.toList.length := by simpa using hlt
      have e : (s.data.toList.take (i + 1)).foldl numStep 0 = numStep ((s.data.toList.take i).foldl numStep 0) (s.data.toList[i]) := by
        rw [List.take_succ_eq_append_getElem hl, List.foldl_append]
        rfl
      have HE := Aside0.mk e
      clear e
      generalize (s.data.toList.take i).foldl numStep 0 = n at HE ⊢
      go_wp2_with fail
      refine (HI.out _).mono ?_
      rintro e w' ⟨rfl, rfl⟩
      have hback : ((s[i].toNat : Int)).toNat.toUInt8 = s[i] := by simp
      go_wp2_with fail
      go_roundg (s.size - (i + 1))
      case measure => omega
      case rel =>
        refine ⟨i + 1, by omega, Nat.le_refl _, ?_, by rw [show ((i + 1 : Nat) : Int) = (i : Int) + 1 by omega], ⟨rfl⟩⟩
        rw [HE.out]
        rfl
    · obtain rfl : i = s.size := by omega
      have e : (s.data.toList.take s.size).foldl numStep 0 = numV s := by
        rw [List.take_of_length_le (show s.data.toList.length ≤ s.size from Nat.le_of_eq Array.length_toList)]
        rfl
      rw [e]
      go_wp2_with fail
      go_ret
      exact ⟨rfl, rfl⟩
/-- strings.Cut at a hyphen. -/
def cutV (s : ByteArray) : ByteArray × ByteArray × Bool := if 0 ≤ Lib.indexByte s.data.toList 45 then (s.extract 0 (Lib.indexByte s.data.toList 45).toNat, s.extract ((Lib.indexByte s.data.toList 45).toNat + 1) s.size, true) else (s, ⟨#[]⟩, false)
theorem index_lt (l : List UInt8) (c : UInt8) : Lib.indexByte l c < l.length := by
  induction l with
  | nil => unfold Lib.indexByte; decide
  | cons b l ih =>
    unfold Lib.indexByte
    rw [List.length_cons]
    split
    · omega
    split
    · omega
    · omega
set_option maxHeartbeats 1000000 in
theorem cut_at (s : ByteArray) (hs : s.size ≤ 1000000) (w : World) : Calls Tryd.prog 71 #[.string s, .string ⟨#[45]⟩] w fun e w' => e = .returned (.tuple #[.string (cutV s).1, .string (cutV s).2.1, .bool (cutV s).2.2]) ∧ ∃ m, w' = w.drewN m := by
  have HI := Aside0.mk (Any.stringslite_Index_one Tryd.lay_idxLite s 45 w)
  have hlt := index_lt s.data.toList 45
  rw [show s.data.toList.length = s.size from Array.length_toList] at hlt
  obtain ⟨r, hr⟩ : ∃ r, r = cutV s := ⟨_, rfl⟩
  rw [← hr]
  have hin : Calls Tryd.prog 81 #[.string s, .string ⟨#[45]⟩] w fun e w' => e = .returned (.tuple #[.string r.1, .string r.2.1, .bool r.2.2]) ∧ ∃ m, w' = w.drewN m := by
    unfold cutV at hr
    generalize Lib.indexByte s.data.toList 45 = i at HI hlt hr
    by_cases h0 : 0 ≤ i
    · rw [if_pos h0] at hr
      subst hr
      obtain ⟨j, rfl⟩ : ∃ j : Nat, i = j := ⟨i.toNat, by omega⟩
      have hj : j < s.size := by omega
      have hj2 : j + 1 ≤ s.size := by omega
      go_enter Tryd.func81, Tryd.ntmps81
      go_wp2_with fail
      refine HI.out.mono ?_
      rintro e w' ⟨rfl, rfl⟩
      go_wp2_with fail
      go_quiet (fail)
      go_wp2_with fail
      go_ret3
      exact ⟨by simp, _, rfl⟩
    · rw [if_neg h0] at hr
      subst hr
      go_enter Tryd.func81, Tryd.ntmps81
      go_wp2_with fail
      refine HI.out.mono ?_
      rintro e w' ⟨rfl, rfl⟩
      go_wp2_with fail
      go_ret3
      exact ⟨rfl, 0, rfl⟩
  clear hr HI hlt
  go_enter Tryd.func71, Tryd.ntmps71
  go_wp2_with fail
  refine hin.mono ?_
  rintro e w' ⟨rfl, m, rfl⟩
  go_wp2_with fail
  go_ret3
  exact ⟨rfl, _, rfl⟩
/-- strings.Split at a blank. -/
def splitN (s : ByteArray) : Nat := Lib.countB s ⟨#[32]⟩ + 1
def splitV (s : ByteArray) : List ByteArray := Lib.splitB ⟨#[32]⟩ 0 (Lib.countB s ⟨#[32]⟩) s
theorem split_len (s : ByteArray) : (splitV s).length = splitN s := Lib.splitB_all ⟨#[32]⟩ (by decide) 0 _ s rfl
theorem info_str : (Tryd.prog.info? 9).map (fun i => (i.zero, i.size, i.bytes)) = some (some (.string ByteArray.empty), 1, 16) := by kernel_rfl
set_option maxHeartbeats 1000000 in
theorem split_at (s : ByteArray) (hs : s.size < 4294967281) (w : World) : Calls Tryd.prog 70 #[.string s, .string ⟨#[32]⟩] w fun e w' =>
    e = .returned (.slice (some ⟨w.heap.size, 0, none⟩) (splitN s) (splitN s)) ∧ w' = w.alloc (.cells ((splitV s).map Value.string).toArray 9) := by
  have h1 : 1 ≤ (⟨#[32]⟩ : ByteArray).size := by decide
  have hle := Lib.countB_le ⟨#[32]⟩ h1 s.size s (Nat.le_refl _)
  have hlen := split_len s
  have c := Any.strings_genSplit_core Tryd.lay_genSplit info_str s ⟨#[32]⟩ 0 (-1) (splitN s) w hs h1 (Nat.zero_le _)
    (fun x c hx => by
      refine (Any.strings_Index_one { Tryd.lay_genSplit with } x 32 _).mono fun e w' ⟨he, hw⟩ => ⟨?_, hw⟩
      rw [he, ← Lib.index_one])
    (by
      refine (Any.strings_Count_one { Tryd.lay_genSplit with } s 32 w).mono fun e w' ⟨he, hw⟩ => ⟨?_, hw⟩
      rw [he]
      show _ = Ending.returned (Value.int .i64 ((Lib.count s.data.toList [32] : Nat) : Int))
      rw [Lib.count_one]
      rfl)
    (by decide) (by decide) (by unfold splitN; rw [if_pos (by decide)]; omega)
  rw [show splitN s - 1 = Lib.countB s ⟨#[32]⟩ by unfold splitN; omega] at c
  change Calls _ _ _ _ (fun e w' => e = .returned (.slice (some ⟨w.heap.size, 0, none⟩) (splitV s).length (splitN s)) ∧ w' = w.alloc (.cells (Lib.cellsOf (splitV s) (splitN s)) _)) at c
  rw [split_len] at c
  have e2 : Lib.cellsOf (splitV s) (splitN s) = ((splitV s).map Value.string).toArray := by rw [← split_len]; exact Lib.cellsOf_full _
  rw [e2] at c
  have C := Aside0.mk c
  clear c e2 hlen hle
  go_enter Tryd.func70, Tryd.ntmps70
  go_wp2_with fail
  refine C.out.mono ?_
  rintro e w' ⟨rfl, rfl⟩
  go_wp2_with fail
  go_ret
  exact ⟨rfl, rfl⟩
end Go.Proofs.YtnpkfncccddlmaaDoorX
