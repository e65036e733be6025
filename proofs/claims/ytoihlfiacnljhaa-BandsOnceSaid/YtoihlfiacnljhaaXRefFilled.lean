import Derived.Test.YtoihlfiacnljhaaXBandsA
import Derived.Lib.ConvBytes
namespace Go.Proofs.YtoihlfiacnljhaaX
open Go.RowKit Go.Proofs.YtoihlfiacnljhaaW.PrintWords Go.Proofs.YtoihlfiacnljhaaW.PrintLast Go.Proofs.YtoihlfiacnljhaaW.PrintMore
set_option linter.unusedVariables false
set_option linter.unusedSimpArgs false
/-- A text's bytes with the last n put to one. -/
def fillL (s : ByteArray) (n : Nat) (c : Int) : List Int := (List.range s.size).map fun j => if s.size - n ≤ j then c else byteI s j
theorem bytesWorld_below (w : World) (e : TypeId) (s : ByteArray) : Below w.heap.size w (Go.Lib.bytesWorld w e s) := by
  have h1 : Below w.heap.size w (w.drew.alloc (.cells (Go.Lib.bytesCells w e s) e)) := ((Below.refl _ w).drew).alloc (Nat.le_refl _) _
  refine ⟨h1.os, h1.tape, h1.output, by rw [Go.Lib.bytesWorld_size]; omega, fun j hj => Go.Lib.bytesWorld_at_old w e s j hj⟩
theorem frozen_in {w : World} {B i m : Nat} {C : Array Value} {T : TypeId} (h : w.heap[B]? = some (.cells C T (m, m + 1))) (hi : i < m) : w.frozen? ⟨B, i, none⟩ = false := by
  simp [World.frozen?, h]
  omega
theorem cell_in {w : World} {B i m : Nat} {C : Array Value} {T : TypeId} (h : w.heap[B]? = some (.cells C T (m, m + 1))) : w.cell? ⟨B, i, none⟩ = C[i]? := by
  simp [World.cell?, h]
theorem put_in {w : World} {B i m : Nat} {C : Array Value} {T : TypeId} (h : w.heap[B]? = some (.cells C T (m, m + 1))) (v : Value) : (w.setCell ⟨B, i, none⟩ v).heap[B]? = some (.cells (C.setIfInBounds i v) T (m, m + 1)) := by
  simp [World.setCell, Array.getElem?_modify, h]
set_option maxHeartbeats 2000000 in
set_option maxRecDepth 100000 in
theorem filled_any (s : ByteArray) (n : Nat) (c : Int) (hc : 0 ≤ c ∧ c ≤ 255) (hn : n ≤ s.size) (hs : s.size ≤ 1000) (w : World) (r m : Int)
    (HD : ∀ w, Calls Try.prog 51 #[.string (strOfNums (fillL s n c))] w fun e w' => e = .returned (.tuple #[.int .i64 r, .int .i64 m]) ∧ Below w.heap.size w w') :
    Calls Try.prog 44 #[.string s, .int .i64 n, .int .u8 c] w fun e w' => e = .returned (.int .i64 r) ∧ Below w.heap.size w w' := by
  have HD := Aside0.mk HD
  have hcv := Go.Lib.run_convert_string_bytes (P := Try.prog) w 9 42 5 s Try.underlying9 Try.underlying42 Try.underlying5
  have HB0 := Aside0.mk (bytesWorld_below w 5 s)
  have HH0 := Aside0.mk (Go.Lib.bytesWorld_at_new w 5 s)
  have HC0 := Aside0.mk (fun j (hj : j < s.size) => (cell_in HH0.out).symm.trans (Go.Lib.bytesWorld_cell w 5 s j hj))
  have hsz : s.size ≤ (Go.Lib.bytesCells w 5 s).size := by
    unfold Go.Lib.bytesCells
    simp
  have HBY := Aside0.mk (fun j (hj : j < s.size) => show (((s.data.toList.getD j 0).toNat : Nat) : Int) = byteI s j by
    unfold byteI
    rw [dif_pos hj, List.getD_eq_getElem?_getD, List.getElem?_eq_getElem (by simpa using hj)]
    rfl)
  obtain ⟨S, hS⟩ : ∃ S, S = s.size := ⟨_, rfl⟩
  have HSS := Aside0.mk hS
  rw [← hS] at hn hs hsz HC0 HBY hcv
  generalize Go.Lib.bytesCells w 5 s = C0 at HH0 HC0 hsz
  obtain ⟨M, hM0⟩ : ∃ M, C0.size = M := ⟨_, rfl⟩
  rw [hM0] at HH0 hsz
  have HM0 := Aside0.mk hM0
  clear hM0
  generalize Go.grownCap w S 0 5 = cap at hcv
  generalize Go.Lib.bytesWorld w 5 s = wq at hcv HB0 HH0 HC0
  generalize Value.string s = Vs at hcv ⊢
  clear hS
  go_enter Try.func44, Try.ntmps44
  go_wp2_with fail
  go_loopg [8] n (fun gq s8 wr => ∃ i : Nat, S - n ≤ i ∧ i ≤ S ∧ S - i ≤ gq ∧ s8 = .int .i64 i ∧ Aside0 (∃ C : Array Value, wr.heap[w.heap.size]? = some (.cells C 5 (M, M + 1)) ∧ C.size = M ∧ ∀ j, j < S → C[j]? = some (.int .u8 (if S - n ≤ j ∧ j < i then c else byteI s j))) ∧ Aside0 (Below w.heap.size w wr))
  case atStart =>
    refine ⟨S - n, Nat.le_refl _, by omega, by omega, by rw [show (S : Int) - n = ((S - n : Nat) : Int) by omega], ⟨C0, HH0.out, ?_, fun j hj => ?_⟩, HB0⟩
    · exact HM0.out
    · rw [if_neg (by omega), HC0.out j hj, HBY.out j hj]
  case round =>
    clear HH0 HC0 HB0
    obtain ⟨i, hi1, hi2, hgq, rfl, HH, HB⟩ := hrel
    by_cases hlt : i < S
    · obtain ⟨C, hh, hM, hCj⟩ := HH.out
      have hc0 : wr.cell? ⟨w.heap.size, i, none⟩ = some (.int .u8 (if S - n ≤ i ∧ i < i then c else byteI s i)) := (cell_in hh).trans (hCj i hlt)
      have hf0 : wr.frozen? ⟨w.heap.size, i, none⟩ = false := frozen_in hh (by omega)
      generalize (if S - n ≤ i ∧ i < i then c else byteI s i) = old at hc0
      have HH2 := Aside0.mk (show ∃ C : Array Value, (wr.setCell ⟨w.heap.size, i, none⟩ (.int .u8 c)).heap[w.heap.size]? = some (.cells C 5 (M, M + 1)) ∧ C.size = M ∧ ∀ j, j < S → C[j]? = some (.int .u8 (if S - n ≤ j ∧ j < i + 1 then c else byteI s j)) from by
        refine ⟨_, put_in hh _, by simp [hM], fun j hj => ?_⟩
        by_cases e : j = i
        · subst e
          rw [if_pos ⟨hi1, by omega⟩, Array.getElem?_setIfInBounds_self_of_lt (by omega)]
        · rw [Array.getElem?_setIfInBounds_ne (Ne.symm e), hCj j hj]
          by_cases h1 : S - n ≤ j ∧ j < i
          · rw [if_pos h1, if_pos (by omega)]
          · rw [if_neg h1, if_neg (by omega)])
      have HB2 := Aside0.mk (HB.out.setCell (p := ⟨w.heap.size, i, none⟩) (Nat.le_refl _) (.int .u8 c))
      clear hh hM hCj HH HB
      go_wp2_with fail
      go_roundg (S - (i + 1))
      case measure => omega
      case rel => exact ⟨i + 1, by omega, by omega, by omega, by rw [show (i : Int) + 1 = ((i + 1 : Nat) : Int) by omega], HH2, HB2⟩
    · obtain rfl : i = S := by omega
      have hcv2 : (convert 42 9 (.slice (some ⟨w.heap.size, 0, none⟩) i cap)).run Try.prog wr = .ok (.string (strOfNums (fillL s n c))) wr := by
        obtain ⟨C, hh, hM, hCj⟩ := HH.out
        refine Kd.C_string (xs := fillL s n c) Try.underlying42 Try.underlying5 Try.underlying9 ⟨by unfold fillL; rw [List.length_map, List.length_range, ← HSS.out], by omega, fun _ => ⟨⟨w.heap.size, 0, none⟩, rfl, ?_⟩⟩
        intro j p hj
        unfold fillL at hj
        rw [List.getElem?_map, Option.map_eq_some_iff] at hj
        obtain ⟨j', hj', rfl⟩ := hj
        obtain ⟨hlt, hj'⟩ := List.getElem?_eq_some_iff.1 hj'
        rw [List.length_range] at hlt
        simp only [List.getElem_range] at hj'
        subst hj'
        refine ⟨[_], rfl, rfl, fun k u hk => ?_⟩
        match k, hk with
        | 0, hk =>
          simp at hk
          subst hk
          have e : (⟨w.heap.size, 0, none⟩ : Addr).add (j * (Kd.int .u8).sz + 0) = ⟨w.heap.size, j, none⟩ := by
            rw [show (Kd.int .u8).sz = 1 from rfl, Nat.mul_one, Nat.add_zero]
            unfold Addr.add
            split <;> simp_all
          rw [e, cell_in hh, hCj j (by have := HSS.out; omega), ← HSS.out]
          by_cases h1 : i - n ≤ j
          · rw [if_pos ⟨h1, by have := HSS.out; omega⟩, if_pos (by omega)]
          · rw [if_neg (fun h => h1 h.1), if_neg (by omega)]
        | k + 1, hk => simp at hk
      have HB2 := Aside0.mk HB.out
      clear HH HB
      generalize strOfNums (fillL s n c) = F at HD hcv2
      go_wp2_with fail
      refine (HD.out _).mono ?_
      rintro e w2 ⟨rfl, hb⟩
      have HB3 := Aside0.mk (HB2.out.trans (hb.mono HB2.out.size))
      clear hb hcv2
      go_wp2_with fail
      go_ret
      exact ⟨rfl, HB3.out⟩
end Go.Proofs.YtoihlfiacnljhaaX
