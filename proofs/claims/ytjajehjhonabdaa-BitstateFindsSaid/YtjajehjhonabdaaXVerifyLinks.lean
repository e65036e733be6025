import Derived.Test.YtjajehjhonabdaaXVerA
import Derived.Deep.WholeRow
import Derived.OneCell
import Derived.Shelf.Abstract
namespace Go.Proofs.YtjajehjhonabdaaX
open Go.RowKit Go.Proofs.YtjajehjhonabdaaW.PrintWords Go.Proofs.YtjajehjhonabdaaW.PrintLast Go.Proofs.YtjajehjhonabdaaW.PrintMore
set_option linter.unusedVariables false
set_option linter.unusedSimpArgs false
/-- What an instruction leads to, and whether by a byte. -/
def leadsV (x : I5) : List Int × Bool := if x.1 = 2 then ([x.2.2.2.1, x.2.2.2.2], false) else if x.1 = 1 then ([x.2.2.2.1], true) else if x.1 = 3 then ([x.2.2.2.1], false) else if x.1 = 4 then ([x.2.2.2.1], false) else ([], false)
abbrev aggIn (x : I5) : Value := .agg #[.int .i64 x.1, .int .i64 x.2.1, .int .i64 x.2.2.1, .int .i64 x.2.2.2.1, .int .i64 x.2.2.2.2]
def LeadsAt : Prop := ∀ (x : I5) (w : World), Calls Try.prog 62 #[aggIn x] w fun e w' => ∃ v, e = .returned (.tuple #[v, .bool (leadsV x).2]) ∧ Kd.R (Kd.int .i64) 3 w' w.heap.size (fun _ => True) v (leadsV x).1 ∧ Below w.heap.size w w'
theorem leads_len (x : I5) : (leadsV x).1.length ≤ 2 := by
  unfold leadsV
  repeat' split
  all_goals simp
theorem past_any (t n : Int) (B : Nat) (w : World) (hB : w.cell? ⟨B, 0, none⟩ = some (.int .i64 n)) : Calls Try.prog 64 #[.int .i64 t, .pointer (some ⟨B, 0, none⟩)] w fun e w' => e = .returned (.bool (decide (n ≤ t))) ∧ Below w.heap.size w w' := by
  by_cases h : n ≤ t
  · have h1 : decide (n ≤ t) = true := decide_eq_true h
    rw [h1]
    go_enter Try.func64, Try.ntmps64
    go_wp2
    go_ret
    exact ⟨rfl, Below.refl _ _⟩
  · have h1 : decide (n ≤ t) = false := decide_eq_false h
    rw [h1]
    go_enter Try.func64, Try.ntmps64
    go_wp2
    go_ret
    exact ⟨rfl, Below.refl _ _⟩
def pastB (n : Int) (x : I5) : Bool := (leadsV x).1.any fun t => decide (n ≤ t)
set_option maxHeartbeats 1000000 in
theorem targets1_any (HLD : LeadsAt) (x : I5) (n : Int) (B : Nat) (w : World) (hBw : B < w.heap.size) (hB : w.cell? ⟨B, 0, none⟩ = some (.int .i64 n)) : Calls Try.prog 61 #[aggIn x, .pointer (some ⟨B, 0, none⟩)] w fun e w' => e = .returned (.bool (pastB n x)) ∧ Below w.heap.size w w' := by
  have hb0 := (Below.refl _ w).alloc (Nat.le_refl _) (.cells #[.int .i64 x.1, .int .i64 x.2.1, .int .i64 x.2.2.1, .int .i64 x.2.2.2.1, .int .i64 x.2.2.2.2] 52)
  have HL := Aside0.mk (HLD x (w.alloc (.cells #[.int .i64 x.1, .int .i64 x.2.1, .int .i64 x.2.2.1, .int .i64 x.2.2.2.1, .int .i64 x.2.2.2.2] 52)))
  have HB := Aside0.mk hb0
  have HN := Aside0.mk (fun (W : World) (h : Below w.heap.size w W) => (h.cell (p := ⟨B, 0, none⟩) hBw).trans hB)
  have HPL := Aside0.mk (leads_len x)
  have HQ := Aside0.mk (show pastB n x = (leadsV x).1.any fun t => decide (n ≤ t) from rfl)
  generalize pastB n x = q at HQ ⊢
  obtain ⟨x1, x2, x3, x4, x5⟩ := x
  dsimp only at HL HB
  clear hB hb0
  generalize (leadsV (x1, x2, x3, x4, x5)).1 = tos at HL HPL HQ
  generalize (leadsV (x1, x2, x3, x4, x5)).2 = by_ at HL
  go_enter Try.func61, Try.ntmps61
  go_wp2_with fail
  refine HL.out.mono ?_
  rintro e w1 ⟨v, rfl, hR, hb⟩
  obtain ⟨A1, c1, rfl⟩ := Kd.R_slice hR
  have HB1 := Aside0.mk (HB.out.trans (hb.mono HB.out.size))
  have HC1 := Aside0.mk (Kd.R_reads' hR).2.2
  clear hR hb HB HL
  have HCI := Aside0.mk (containsInt A1 c1 tos 64 #[.pointer (some ⟨B, 0, none⟩)] (fun t => decide (n ≤ t)) w1 HC1.out (by have := HPL.out; omega) (enters_of Try.func64 (by kernel_rfl) rfl) (fun W t _ h => past_any t n B W (HN.out W (HB1.out.trans (h.mono HB1.out.size)))))
  rw [← HQ.out] at HCI
  generalize tos.length = m at HCI ⊢
  go_wp2_with fail
  refine HCI.out.mono ?_
  rintro e w2 ⟨rfl, hb⟩
  have HB2 := Aside0.mk (HB1.out.trans (hb.mono HB1.out.size))
  clear hb
  go_wp2
  go_ret
  exact ⟨rfl, HB2.out⟩
def targetsB (l : List I5) (start : Int) : Bool := decide (start < l.length) && !(l.any (pastB l.length))
set_option maxHeartbeats 1000000 in
theorem targets_any (HLD : LeadsAt) (A : Option Addr) (c : Nat) (l : List I5) (start slots : Int) (w : World) (hC : Kd.C kIn w A l.length l) (hn : l.length ≤ 1000000) : Calls Try.prog 37 #[.agg #[.slice A l.length c, .int .i64 start, .int .i64 slots]] w fun e w' => e = .returned (.bool (targetsB l start)) ∧ Below w.heap.size w w' := by
  have hb0 := ((Below.refl _ w).alloc (Nat.le_refl _) (.cells #[.slice A l.length c, .int .i64 start, .int .i64 slots] 24)).alloc (by simp) (.cells #[.int .i64 l.length] 3)
  have hl := heap_alloc_last (w.alloc (.cells #[.slice A l.length c, .int .i64 start, .int .i64 slots] 24)) (.cells #[.int .i64 l.length] 3)
  rw [show (w.alloc (.cells #[.slice A l.length c, .int .i64 start, .int .i64 slots] 24)).heap.size = w.heap.size + 1 by simp] at hl
  have HCI := Aside0.mk (containsInst A c l 61 #[.pointer (some ⟨w.heap.size + 1, 0, none⟩)] (pastB l.length) _ (Kd.C_below hC hb0) (by omega) (enters_of Try.func61 (by kernel_rfl) rfl) (fun W x _ h => targets1_any HLD x l.length (w.heap.size + 1) W (Nat.lt_of_lt_of_le (by simp) h.size) ((h.cell (p := ⟨w.heap.size + 1, 0, none⟩) (by simp)).trans ((blk_cell hl 0).trans rfl))))
  have HB := Aside0.mk hb0
  have HT := Aside0.mk (show targetsB l start = (decide (start < l.length) && !(l.any (pastB l.length))) from rfl)
  clear hb0 hl hC
  generalize targetsB l start = T at HT ⊢
  generalize l.any (pastB l.length) = q at HCI HT
  generalize l.length = n at *
  by_cases h1 : start < n
  · obtain rfl : T = !q := by rw [HT.out, decide_eq_true h1, Bool.true_and]
    clear HT
    go_enter Try.func37, Try.ntmps37
    go_wp2_with fail
    refine HCI.out.mono ?_
    rintro e w2 ⟨rfl, hb⟩
    have HB2 := Aside0.mk (HB.out.trans (hb.mono HB.out.size))
    clear hb
    go_wp2
    go_ret
    exact ⟨rfl, HB2.out⟩
  · obtain rfl : T = false := by rw [HT.out, decide_eq_false h1, Bool.false_and]
    clear HT HCI
    have h2 : decide (start < n) = false := decide_eq_false h1
    go_enter Try.func37, Try.ntmps37
    go_wp2
    go_ret
    exact ⟨rfl, HB.out⟩
def badSlot (s : Int) (x : I5) : Bool := decide (x.1 = 3) && (decide (x.2.1 < 2) || decide (s ≤ x.2.1))
set_option maxHeartbeats 1000000 in
theorem slots1_any (x : I5) (A : Option Addr) (n c : Nat) (start slots : Int) (B : Nat) (w : World) (hB : w.heap[B]? = some (.cells #[.slice A n c, .int .i64 start, .int .i64 slots] 24 (0, 0))) : Calls Try.prog 65 #[aggIn x, .pointer (some ⟨B, 0, none⟩)] w fun e w' => e = .returned (.bool (badSlot slots x)) ∧ Below w.heap.size w w' := by
  have hb0 := (Below.refl _ w).alloc (Nat.le_refl _) (.cells #[.int .i64 x.1, .int .i64 x.2.1, .int .i64 x.2.2.1, .int .i64 x.2.2.2.1, .int .i64 x.2.2.2.2] 52)
  have hlt : B < w.heap.size := blk_lt hB
  have c2 : w.cell? ⟨B, 2, none⟩ = some (.int .i64 slots) := (blk_cell hB 2).trans rfl
  have hne : B ≠ w.heap.size := by omega
  have HB := Aside0.mk hb0
  have HQ := Aside0.mk (show badSlot slots x = (decide (x.1 = 3) && (decide (x.2.1 < 2) || decide (slots ≤ x.2.1))) from rfl)
  generalize badSlot slots x = q at HQ ⊢
  obtain ⟨x1, x2, x3, x4, x5⟩ := x
  dsimp only at HB HQ
  clear hb0 hB
  by_cases h1 : x1 = 3
  · subst h1
    by_cases h2 : x2 < 2
    · obtain rfl : q = true := by rw [HQ.out, decide_eq_true h2]; rfl
      clear HQ
      go_enter Try.func65, Try.ntmps65
      go_wp2
      go_ret
      exact ⟨rfl, HB.out⟩
    · by_cases h3 : slots ≤ x2
      · obtain rfl : q = true := by rw [HQ.out, decide_eq_true h3]; simp
        clear HQ
        have h2' : decide (x2 < 2) = false := decide_eq_false h2
        go_enter Try.func65, Try.ntmps65
        go_wp2
        go_ret
        exact ⟨rfl, HB.out⟩
      · obtain rfl : q = false := by rw [HQ.out, decide_eq_false h3, decide_eq_false h2]; rfl
        clear HQ
        have h2' : decide (x2 < 2) = false := decide_eq_false h2
        have h3' : decide (slots ≤ x2) = false := decide_eq_false h3
        go_enter Try.func65, Try.ntmps65
        go_wp2
        go_ret
        exact ⟨rfl, HB.out⟩
  · obtain rfl : q = false := by rw [HQ.out, decide_eq_false h1]; rfl
    clear HQ
    have h1' : (x1 == 3) = false := by simpa using h1
    go_enter Try.func65, Try.ntmps65
    go_wp2
    go_ret
    exact ⟨rfl, HB.out⟩
def slotsB (l : List I5) (slots : Int) : Bool := decide (2 ≤ slots) && (decide (slots % 2 = 0) && !(l.any (badSlot slots)))
set_option maxHeartbeats 1000000 in
theorem slots_any (A : Option Addr) (c : Nat) (l : List I5) (start slots : Int) (w : World) (hC : Kd.C kIn w A l.length l) (hn : l.length ≤ 1000000) : Calls Try.prog 38 #[.agg #[.slice A l.length c, .int .i64 start, .int .i64 slots]] w fun e w' => e = .returned (.bool (slotsB l slots)) ∧ Below w.heap.size w w' := by
  have hb0 := ((Below.refl _ w).alloc (Nat.le_refl _) (.cells #[.slice A l.length c, .int .i64 start, .int .i64 slots] 24))
  have hl := heap_alloc_last w (.cells #[.slice A l.length c, .int .i64 start, .int .i64 slots] 24)
  have HCI := Aside0.mk (containsInst A c l 65 #[.pointer (some ⟨w.heap.size, 0, none⟩)] (badSlot slots) _ (Kd.C_below hC hb0) (by omega) (enters_of Try.func65 (by kernel_rfl) rfl) (fun W x _ h => slots1_any x A l.length c start slots w.heap.size W ((h.block _ (blk_lt hl)).trans hl)))
  have HB := Aside0.mk hb0
  have HT := Aside0.mk (show slotsB l slots = (decide (2 ≤ slots) && (decide (slots % 2 = 0) && !(l.any (badSlot slots)))) from rfl)
  clear hb0 hl hC
  generalize slotsB l slots = T at HT ⊢
  generalize l.any (badSlot slots) = q at HCI HT
  generalize l.length = n at *
  by_cases h1 : 2 ≤ slots
  · by_cases h2 : slots % 2 = 0
    · obtain rfl : T = !q := by rw [HT.out, decide_eq_true h1, decide_eq_true h2, Bool.true_and, Bool.true_and]
      clear HT
      have h2' : (slots % 2 == 0) = true := by simpa using h2
      clear h2
      go_enter Try.func38, Try.ntmps38
      go_wp2_with fail
      refine HCI.out.mono ?_
      rintro e w2 ⟨rfl, hb⟩
      have HB2 := Aside0.mk (HB.out.trans (hb.mono HB.out.size))
      clear hb
      go_wp2
      go_ret
      exact ⟨rfl, HB2.out⟩
    · obtain rfl : T = false := by rw [HT.out, decide_eq_false h2]; simp
      clear HT HCI
      have h2' : (slots % 2 == 0) = false := by simpa using h2
      clear h2
      go_enter Try.func38, Try.ntmps38
      go_wp2
      go_ret
      exact ⟨rfl, HB.out⟩
  · obtain rfl : T = false := by rw [HT.out, decide_eq_false h1, Bool.false_and]
    clear HT HCI
    have h2 : decide (2 ≤ slots) = false := decide_eq_false h1
    go_enter Try.func38, Try.ntmps38
    go_wp2
    go_ret
    exact ⟨rfl, HB.out⟩
end Go.Proofs.YtjajehjhonabdaaX
