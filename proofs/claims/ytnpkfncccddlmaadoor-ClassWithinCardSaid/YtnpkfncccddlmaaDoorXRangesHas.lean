import Derived.Test.YtnpkfncccddlmaaDoorXSortRange
import Derived.Test.YtnpkfncccddlmaaDoorWWords
import Derived.Deep.QuietTactic
import Derived.BigQuiet
import Derived.Deep.RegionHeld3
import Derived.RegionTactic
namespace Go.Proofs.YtnpkfncccddlmaaDoorX
open Go.RowKit Go.Sort Go.Lib Go.Proofs.YtnpkfncccddlmaaDoorW.PrintWords
set_option maxHeartbeats 1000000 in
theorem index_none (p : Option Addr) (cap : Nat) (fv : Value) (w : World) : Calls Tryd.prog 64 #[.slice p 0 cap, fv] w fun e w' => e = .returned (.int .i64 (-1)) ∧ w' = w := by
  go_enter Tryd.func64, Tryd.ntmps64
  go_wp2
  refine wp_loop_rounds 1 ?_
  rw [rounds_succ]
  go_wp2
  go_ret
  exact ⟨rfl, rfl⟩
set_option maxHeartbeats 1000000 in
theorem contains_none (p : Option Addr) (cap : Nat) (fv : Value) (w : World) : Calls Tryd.prog 37 #[.slice p 0 cap, fv] w fun e w' => e = .returned (.bool false) ∧ w' = w := by
  go_enter Tryd.func37, Tryd.ntmps37
  go_wp2_with (go_at_call 64; refine (index_none _ _ _ _).mono ?_; rintro e w' ⟨rfl, rfl⟩)
  go_ret
  exact ⟨rfl, rfl⟩
set_option maxHeartbeats 1000000 in
theorem pred_has (r : Int) (B : Nat) (w : World) (hB : B < w.heap.size) (hcell : w.cell? ⟨B, 0, none⟩ = some (.int .i64 r)) :
    PredBelow Tryd.prog 38 #[.pointer (some ⟨B, 0, none⟩)] (fun x => .agg (encRg x).toArray) (fun x => decide (x.1 ≤ r) && decide (r ≤ x.2)) w := fun W x hb => by
  have hc : W.cell? ⟨B, 0, none⟩ = some (.int .i64 r) := (hb.cell (p := ⟨B, 0, none⟩) hB).trans hcell
  have hBW : B < W.heap.size := Nat.lt_of_lt_of_le hB hb.size
  have hne : B ≠ W.heap.size := by omega
  show Calls Tryd.prog 38 #[.agg #[.int .i64 x.1, .int .i64 x.2], .pointer (some ⟨B, 0, none⟩)] W _
  have HB := Aside0.mk hb
  clear hb
  obtain ⟨a, b⟩ := x
  dsimp only
  by_cases h1 : a ≤ r
  · have hd1 : decide (a ≤ r) = true := decide_eq_true h1
    rw [hd1, Bool.true_and]
    go_enter Tryd.func38, Tryd.ntmps38
    go_wp2
    go_ret
    exact ⟨rfl, HB.out.alloc HB.out.size _⟩
  · have hd1 : decide (a ≤ r) = false := decide_eq_false h1
    rw [hd1, Bool.false_and]
    go_enter Tryd.func38, Tryd.ntmps38
    go_wp2
    go_ret
    exact ⟨rfl, HB.out.alloc HB.out.size _⟩
def inL (l : List (Int × Int)) (r : Int) : Bool := l.any fun x => decide (x.1 ≤ r) && decide (r ≤ x.2)
def hasL (l : List (Int × Int)) (r : Int) : Bool := decide (0 ≤ r) && (decide (r ≤ 1114111) && inL l r)
/-- A row that is read: its cells, address and all. -/
theorem row_cells {α : Type} {d : Kd α} {of : α → Int × Int} (hK : ∀ {w x cs}, d.K w x cs → cs = encRg (of x)) (hsz : d.sz = 2) {w : World} {A : Option Addr} {l : List α} (h : Kd.C d w A l.length l) (hp : 0 < l.length) :
    ∃ b off, A = some ⟨b, off, none⟩ ∧ b < w.heap.size ∧ l.length ≤ 9223372036854775807 ∧ ∀ j, j < (l.map of).length → ∀ i v, (encRg (l.map of)[j]!)[i]? = some v → w.cell? ⟨b, off + j * 2 + i, none⟩ = some v := by
  obtain ⟨_, hn, hc0⟩ := h
  obtain ⟨ad, rfl, hc⟩ := hc0 hp
  clear hc0
  obtain ⟨b, off, spot⟩ := ad
  have key : ∀ j (hj : j < l.length) i v, (encRg (of l[j]))[i]? = some v → w.cell? ((⟨b, off, spot⟩ : Addr).add (j * 2 + i)) = some v := by
    intro j hj i v hi
    obtain ⟨c, _, hk, hcell⟩ := hc j l[j] (List.getElem?_eq_getElem hj)
    obtain rfl := hK hk
    have := hcell i v hi
    rwa [hsz] at this
  have h0 := key 0 hp 0 _ rfl
  have hs : spot = none := by
    rw [show 0 * 2 + 0 = 0 from rfl] at h0
    simp only [Addr.add, if_true, World.cell?] at h0
    cases spot with
    | none => rfl
    | some q =>
      revert h0
      split
      · simp
      · simp
  subst hs
  have hadd : ∀ n, (⟨b, off, none⟩ : Addr).add n = ⟨b, off + n, none⟩ := fun n => by unfold Addr.add; split <;> simp_all
  refine ⟨b, off, rfl, ?_, hn, fun j hj i v hi => ?_⟩
  · have := World.block_lt_of_cell? w _ h0
    rwa [hadd] at this
  · have hj' : j < l.length := by simpa using hj
    have := key j hj' i v (by rw [getElem!_pos (l.map of) j hj] at hi; simpa using hi)
    rwa [hadd, ← Nat.add_assoc] at this
set_option maxHeartbeats 1000000 in
theorem contains_in {α : Type} {d : Kd α} {of : α → Int × Int} (hK : ∀ {w x cs}, d.K w x cs → cs = encRg (of x)) (hsz : d.sz = 2) (A : Option Addr) (c : Nat) (l : List α) (r : Int) (w : World) (B : Nat) (hB : B < w.heap.size) (hcell : w.cell? ⟨B, 0, none⟩ = some (.int .i64 r)) (h : Kd.C d w A l.length l) :
    Calls Tryd.prog 37 #[.slice A l.length c, .func (.func 38) #[] #[.pointer (some ⟨B, 0, none⟩)]] w fun e w' => e = .returned (.bool (inL (l.map of) r)) ∧ Below w.heap.size w w' := by
  by_cases hp : 0 < l.length
  · obtain ⟨b, off, rfl, hb, hn, hc⟩ := row_cells (of := of) hK hsz h hp
    have eg : ∀ args w, (callFunc 38 args).run Tryd.prog w = .ok (.enter 38 args) w := enters_of Tryd.func38 (by kernel_rfl) rfl
    have hcon := AnyQ.slices_ContainsFunc Tryd.lay_containsFuncRange 2 Tryd.isAgg42 Tryd.sizeOf42 encRg (fun _ => rfl) (fun x => decide (x.1 ≤ r) && decide (r ≤ x.2)) 38 #[.pointer (some ⟨B, 0, none⟩)] eg b off l.length c (l.map of) w (pred_has r B w hB hcell) (by simp) hn hb hc
    change Calls Tryd.prog 37 _ _ _ at hcon
    have e : (l.map of).take l.length = l.map of := List.take_of_length_le (by simp)
    rw [e] at hcon
    exact hcon
  · have e : l = [] := List.length_eq_zero_iff.1 (by omega)
    subst e
    exact (contains_none A c _ w).mono fun e w' ⟨he, hw⟩ => by subst hw; exact ⟨he, Below.refl _ _⟩
set_option maxHeartbeats 1000000 in
/-- ranges.Has. -/
theorem has_any {α : Type} {d : Kd α} {of : α → Int × Int} (hK : ∀ {w x cs}, d.K w x cs → cs = encRg (of x)) (hsz : d.sz = 2) (A : Option Addr) (c : Nat) (l : List α) (r : Int) (w : World) (h : Kd.C d w A l.length l) :
    Calls Tryd.prog 20 #[.slice A l.length c, .int .i64 r] w fun e w' => e = .returned (.bool (hasL (l.map of) r)) ∧ Below w.heap.size w w' := by
  have hcon := contains_in (of := of) hK hsz A c l r (w.alloc (.cells #[.int .i64 r] 3)) w.heap.size (by simp) (by simp) (Kd.C_alloc h _)
  have HC := Aside0.mk hcon
  clear h hcon
  unfold hasL
  by_cases h1 : 0 ≤ r
  · rw [decide_eq_true h1, Bool.true_and]
    by_cases h2 : r ≤ 1114111
    · rw [decide_eq_true h2, Bool.true_and]
      generalize inL (l.map of) r = q at HC ⊢
      go_enter Tryd.func20, Tryd.ntmps20
      go_wp2_with (go_at_call 37; refine HC.out.mono ?_; rintro e w' ⟨rfl, hb⟩)
      go_ret
      exact ⟨rfl, ((Below.refl _ w).alloc (Nat.le_refl _) _).trans (hb.mono (by simp))⟩
    · rw [decide_eq_false h2, Bool.false_and]
      go_enter Tryd.func20, Tryd.ntmps20
      go_wp2
      go_ret
      exact ⟨rfl, (Below.refl _ w).alloc (Nat.le_refl _) _⟩
  · rw [decide_eq_false h1, Bool.false_and]
    go_enter Tryd.func20, Tryd.ntmps20
    go_wp2
    go_ret
    exact ⟨rfl, (Below.refl _ w).alloc (Nat.le_refl _) _⟩
end Go.Proofs.YtnpkfncccddlmaaDoorX
