import Derived.Test.YthblpnfkdkhcpaaXFamily
import Derived.Test.YthblpnfkdkhcpaaXRangesEdge
import Derived.Test.YthblpnfkdkhcpaaXRangesSpoil
namespace Go.Proofs.YthblpnfkdkhcpaaX
open Go.RowKit Go.Proofs.YthblpnfkdkhcpaaW.PrintWords Go.Proofs.YthblpnfkdkhcpaaW.PrintLast Go.Proofs.YthblpnfkdkhcpaaW.PrintMore
set_option linter.unusedVariables false
set_option linter.unusedSimpArgs false
theorem has_pairs (A : Option Addr) (c : Nat) (l : List (Int × Int)) (r : Int) (w : World) (h : Kd.C kRg w A l.length l) :
    Calls Try.prog 22 #[.slice A l.length c, .int .i64 r] w fun e w' => e = .returned (.bool (hasL l r)) ∧ Below w.heap.size w w' := by
  have := has_any (d := kRg) (of := fun x => x) (fun h => kRg_K h) kRg_sz A c l r w h
  rwa [List.map_id'] at this
/-- Close's inner function: is it in the list that was handed in. -/
theorem inner_has (A : Option Addr) (c : Nat) (l : List (Int × Int)) (r : Int) (B : Nat) (w : World) (hB : w.cell? ⟨B, 0, none⟩ = some (.slice A l.length c)) (h : Kd.C kRg w A l.length l) :
    Calls Try.prog 36 #[.int .i64 r, .pointer (some ⟨B, 0, none⟩)] w fun e w' => e = .returned (.bool (hasL l r)) ∧ Below w.heap.size w w' := by
  have HC := Aside0.mk (has_pairs A c l r w h)
  clear h
  generalize hasL l r = q at HC ⊢
  generalize l.length = n at *
  go_enter Try.func36, Try.ntmps36
  go_wp2_with fail
  refine HC.out.mono ?_
  rintro e w' ⟨rfl, hb⟩
  go_wp2
  go_ret
  exact ⟨rfl, hb⟩
set_option maxHeartbeats 1000000 in
theorem index_any (A : Option Addr) (c : Nat) (f : List Int) (Al : Option Addr) (cl : Nat) (l : List (Int × Int)) (B : Nat) (w : World) (hB : w.cell? ⟨B, 0, none⟩ = some (.slice Al l.length cl)) (hBw : B < w.heap.size) (h : Kd.C kRg w Al l.length l)
    (hf : Kd.C (Kd.int .i64) w A f.length f) (hn : f.length ≤ 1000000) :
    Calls Try.prog 49 #[.slice A f.length c, .func (.func 36) #[] #[.pointer (some ⟨B, 0, none⟩)]] w fun e w' => (∃ i : Int, e = .returned (.int .i64 i) ∧ decide (0 ≤ i) = f.any (hasL l)) ∧ Below w.heap.size w w' := by
  have HI := Aside0.mk (fun (W : World) (r : Int) (hb : Below w.heap.size w W) => inner_has Al cl l r B W ((hb.cell (p := ⟨B, 0, none⟩) hBw).trans hB) (Kd.C_below h hb))
  clear hB h
  have HF := Aside0.mk hf
  clear hf
  generalize hasL l = p at HI ⊢
  obtain ⟨n, hln⟩ : ∃ n, n = f.length := ⟨_, rfl⟩
  have HL := Aside0.mk hln
  rw [← hln] at HF hn ⊢
  clear hln
  have HB0 := Aside0.mk (Below.refl w.heap.size w)
  go_enter Try.func49, Try.ntmps49
  go_wp2
  go_loopg [8] n (fun g s8 wr => ∃ k : Nat, k ≤ n ∧ n - k ≤ g ∧ s8 = .int .i64 k ∧ Aside0 (f.any p = (f.drop k).any p) ∧ Aside0 (Below w.heap.size w wr))
  case atStart => exact ⟨0, by omega, by omega, rfl, ⟨rfl⟩, HB0⟩
  case round =>
    clear HB0
    obtain ⟨k, hk, hg, rfl, HA, HB⟩ := hrel
    by_cases hlt : k < n
    · have hf := Kd.C_below HF.out HB.out
      obtain ⟨ad, cs, rfl, hcl, hK, hcell⟩ := ReadsRow.get_ hf (0 : Int) (k : Int) (by omega) (by omega)
      have hx : f.getD ((k : Int)).toNat 0 = f[k]'(by have := HL.out; omega) := by
        rw [Int.toNat_natCast, List.getD_eq_getElem?_getD, List.getElem?_eq_getElem (by have := HL.out; omega)]
        rfl
      rw [hx] at hK
      have hd : (f.drop k).any p = (p (f[k]'(by have := HL.out; omega)) || (f.drop (k + 1)).any p) := by
        rw [List.drop_eq_getElem_cons (by have := HL.out; omega), List.any_cons]
      clear hx
      generalize f[k]'(by have := HL.out; omega) = x at hK hd
      obtain rfl : cs = [.int .i64 x] := hK
      have hc := hcell 0 (.int .i64 x) rfl
      rw [Int.toNat_natCast, show (Kd.int .i64).sz = 1 from rfl, Nat.mul_one, Nat.add_zero] at hc
      have HD := Aside0.mk hd
      clear hd hcell hcl hf
      have HP := Aside0.mk (HI.out wr x HB.out)
      by_cases hp : p x = true
      · rw [hp] at HP HD
        clear hp
        go_wp2_with fail
        refine HP.out.mono ?_
        rintro e w' ⟨rfl, hb⟩
        have HB' := Aside0.mk (HB.out.trans (hb.mono HB.out.size))
        clear hb
        go_wp2
        go_ret
        refine ⟨⟨(k : Int), rfl, ?_⟩, HB'.out⟩
        rw [HA.out, HD.out, Bool.true_or]
        exact decide_eq_true (by omega)
      · rw [Bool.not_eq_true] at hp
        rw [hp] at HP HD
        clear hp
        go_wp2_with fail
        refine HP.out.mono ?_
        rintro e w' ⟨rfl, hb⟩
        have HB' := Aside0.mk (HB.out.trans (hb.mono HB.out.size))
        clear hb
        go_wp2
        go_roundg (n - (k + 1))
        case measure => omega
        case rel => exact ⟨k + 1, by omega, by omega, by rw [show (k : Int) + 1 = ((k + 1 : Nat) : Int) by omega], ⟨by rw [HA.out, HD.out, Bool.false_or]⟩, HB'⟩
    · go_wp2
      go_ret
      refine ⟨⟨-1, rfl, ?_⟩, HB.out⟩
      rw [HA.out, List.drop_of_length_le (by have := HL.out; omega)]
      rfl
theorem contains_any (A : Option Addr) (c : Nat) (f : List Int) (Al : Option Addr) (cl : Nat) (l : List (Int × Int)) (B : Nat) (w : World) (hB : w.cell? ⟨B, 0, none⟩ = some (.slice Al l.length cl)) (hBw : B < w.heap.size) (h : Kd.C kRg w Al l.length l)
    (hf : Kd.C (Kd.int .i64) w A f.length f) (hn : f.length ≤ 1000000) :
    Calls Try.prog 35 #[.slice A f.length c, .func (.func 36) #[] #[.pointer (some ⟨B, 0, none⟩)]] w fun e w' => e = .returned (.bool (f.any (hasL l))) ∧ Below w.heap.size w w' := by
  have HI := Aside0.mk (index_any A c f Al cl l B w hB hBw h hf hn)
  clear hB h hf
  generalize f.any (hasL l) = q at HI ⊢
  generalize f.length = n at *
  go_enter Try.func35, Try.ntmps35
  go_wp2_with fail
  refine HI.out.mono ?_
  rintro e w' ⟨⟨i, rfl, hi⟩, hb⟩
  subst hi
  have HB := Aside0.mk hb
  clear hb
  go_wp2
  go_ret
  exact ⟨by first | rfl | simp, HB.out⟩
end Go.Proofs.YthblpnfkdkhcpaaX
