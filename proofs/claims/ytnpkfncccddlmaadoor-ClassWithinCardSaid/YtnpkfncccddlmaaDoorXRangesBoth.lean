import Derived.Test.YtnpkfncccddlmaaDoorXRangesBase
import Derived.Test.YtnpkfncccddlmaaDoorWKept
import Derived.Deep.LoopGhost
import Derived.Deep.QuietTactic
import Derived.BigQuiet
import Derived.OwnWalk
import Derived.Outline
namespace Go.Proofs.YtnpkfncccddlmaaDoorX
open Go.RowKit Go.Proofs.YtnpkfncccddlmaaDoorW.PrintWords Go.Proofs.YtnpkfncccddlmaaDoorW.PrintLast Go.Proofs.YtnpkfncccddlmaaDoorW.PrintMore
set_option linter.unusedVariables false
set_option linter.unusedSimpArgs false
/-- What is in two ranges. -/
def meet (x y : Int × Int) : List (Int × Int) := if max x.1 y.1 ≤ min x.2 y.2 then [(max x.1 y.1, min x.2 y.2)] else []
/-- The variable 'out' at block B holds a row of the call's own, told by acc; W1: the world when the loops began; S: blocks that the row is none of. -/
def Col (w W1 : World) (B : Nat) (S : Nat → Prop) (W : World) (acc : List (Int × Int)) : Prop :=
  ∃ v, W.heap[B]? = some (.cells #[v] 22 (0, 0)) ∧ Kd.R kRg 42 W W1.heap.size (fun k => ¬ S k) v acc ∧ KeepBut W1 W B none ∧ Below w.heap.size w W
set_option maxHeartbeats 1000000 in
theorem both_closure (w W1 : World) (B : Nat) (S : Nat → Prop) (hB : B < W1.heap.size) (hwB : w.heap.size ≤ B) (x y : Int × Int) (acc : List (Int × Int)) (hacc : acc.length ≤ 1000000) (W : World) (hS : ∀ k, S k → k < W.heap.size) (hc : Col w W1 B S W acc) :
    Calls Tryd.prog 41 #[.agg #[.int .i64 x.1, .int .i64 x.2], .agg #[.int .i64 y.1, .int .i64 y.2], .pointer (some ⟨B, 0, none⟩)] W fun e w' => e = .returned (.tuple #[]) ∧ Col w W1 B S w' (acc ++ meet x y) ∧ ∀ k, S k → k ≠ B → w'.heap[k]? = W.heap[k]? := by
  obtain ⟨v, hb, hR, hK, hL⟩ := hc
  have hcell : W.cell? ⟨B, 0, none⟩ = some v := by simp [World.cell?, hb]
  have hfr : W.frozen? ⟨B, 0, none⟩ = false := by simp [World.frozen?, hb]
  have hlt : B < W.heap.size := Nat.lt_of_lt_of_le hB hK.1
  have hne : B ≠ W.heap.size := by omega
  have hne1 : B ≠ W.heap.size + 1 := by omega
  have hne2 : B ≠ W.heap.size + 1 + 1 := by omega
  obtain ⟨a, b⟩ := x
  obtain ⟨c, d⟩ := y
  have HB := Aside0.mk hb
  have HR := Aside0.mk hR
  have HK := Aside0.mk hK
  have HL := Aside0.mk hL
  clear hb hR hK hL
  unfold meet
  dsimp only
  have hb3 : Below W.heap.size W (((W.alloc (.cells #[.int .i64 a, .int .i64 b] 42)).alloc (.cells #[.int .i64 c, .int .i64 d] 42)).alloc (.cells #[.int .i64 (max a c), .int .i64 (min b d)] 42)) := (((Below.refl _ _).alloc (Nat.le_refl _) _).alloc (by simp) _).alloc (by simp; omega) _
  have hc3 := pw_cell_below hb3 hcell
  have HB3 := Aside0.mk hb3
  clear hb3 hcell hfr
  by_cases h : max a c ≤ min b d
  · rw [if_pos h]
    go_enter Tryd.func41, Tryd.ntmps41
    go_wp2_with (at_builtin; refine Kd.R_append kRg (w0 := W) (W := (((W.alloc (.cells #[.int .i64 a, .int .i64 b] 42)).alloc (.cells #[.int .i64 c, .int .i64 d] 42)).alloc (.cells #[.int .i64 (max a c), .int .i64 (min b d)] 42))) W1.heap.size rfl (.tmp 22) (.tmp 24) 22 42 (.agg #[(.int .i64 0), (.int .i64 0)]) 16 rfl Tryd.underlying22 info_rg rfl (by decide) (by omega) v acc (max a c, min b d) [.int .i64 (max a c), .int .i64 (min b d)] (fun k => ¬ S k) (fun _ => False) rfl ?aX ?aP (fun _ hk => hk.elim) ?aF ?aO ?aB ?aS ?aL ?_; (case aX => (first | rfl | (simp [Act.eval]; done) | (simp [Act.eval] <;> rfl))); (case aP => exact kRg_fixed.make _ _ _ (max a c, min b d)); (case aF => exact fun k hk hs => Nat.not_lt.2 (Nat.le_trans HB3.out.size hk) (hS k hs)); (case aO => exact Kd.R_alloc (Kd.R_alloc (Kd.R_alloc HR.out _) _) _); (case aB => exact HB3.out.mono HK.out.1); (case aS => exact Nat.le_trans HK.out.1 HB3.out.size); (case aL => omega); intro v1 w1 ho hb hg hat; obtain ⟨A1, c1, e1⟩ := Kd.R_slice ho; rw [show (acc ++ [(max a c, min b d)]).length = acc.length + 1 by simp] at e1; subst e1; have hnv : some B ≠ v.ownBlock := (fun e => by have := (Kd.R_bound HR.out).1 B e.symm; omega); have hb1 : w1.heap[B]? = some (.cells #[v] 22 (0, 0)) := (hg.block B (Nat.lt_of_lt_of_le hlt HB3.out.size) hnv).trans ((HB3.out.block B hlt).trans HB.out); have hcell1 : w1.cell? ⟨B, 0, none⟩ = some v := (by simp [World.cell?, hb1]); have hfr1 : w1.frozen? ⟨B, 0, none⟩ = false := (by simp [World.frozen?, hb1]); have HO := Aside0.mk ho; have HG := Aside0.mk hg; have HX := Aside0.mk hb1; clear ho hb hg hat hnv hb1)
    go_end0
    have hSt : (w1.setCell ⟨B, 0, none⟩ (.slice A1 (acc.length + 1) c1)).heap[B]? = some (.cells #[.slice A1 (acc.length + 1) c1] 22 (0, 0)) := by
      simp [World.setCell, Array.getElem?_modify, HX.out]
    refine ⟨rfl, ⟨(.slice A1 (acc.length + 1) c1), hSt, Kd.R_mono (Kd.R_far (Kd.R_bound HO.out) (p := ⟨B, 0, none⟩) (fun k hk => by have := hk.2.1; show k ≠ B; omega) (.slice A1 (acc.length + 1) c1)) (fun _ hk => hk.1), ?_, ?_⟩, fun k hs hkB => ?_⟩
    · refine ⟨Nat.le_trans HK.out.1 (Nat.le_trans HB3.out.size (by simpa [World.setCell] using HG.out.size)), fun i hi hne' _ => ?_⟩
      have hiW : i < W.heap.size := Nat.lt_of_lt_of_le hi HK.out.1
      have hiv : some i ≠ v.ownBlock := fun e => by have := (Kd.R_bound HR.out).1 i e.symm; omega
      rw [Below.heap_setCell w1 ⟨B, 0, none⟩ (.slice A1 (acc.length + 1) c1) i hne']
      exact (HG.out.block i (Nat.lt_of_lt_of_le hiW HB3.out.size) hiv).trans ((HB3.out.block i hiW).trans (HK.out.2 i hi hne' (by simp)))
    · exact ((HL.out.trans (HB3.out.mono HL.out.size)).grown HG.out (Nat.le_trans HL.out.size HB3.out.size) (fun k hk => by have := (Kd.R_bound HR.out).1 k hk; omega)).setCell (p := ⟨B, 0, none⟩) hwB (.slice A1 (acc.length + 1) c1)
    · rw [Below.heap_setCell w1 ⟨B, 0, none⟩ _ k hkB]
      have hkW := hS k hs
      exact (HG.out.block k (Nat.lt_of_lt_of_le hkW HB3.out.size) (fun e => HR.out.1 k e.symm hs)).trans (HB3.out.block k hkW)
  · rw [if_neg h, List.append_nil]
    go_enter Tryd.func41, Tryd.ntmps41
    go_wp2
    go_end0
    exact ⟨rfl, ⟨v, (HB3.out.block B hlt).trans HB.out, Kd.R_alloc (Kd.R_alloc (Kd.R_alloc HR.out _) _) _, KeepBut.trans HK.out (KeepBut.of_below HB3.out B none) (.inl rfl), HL.out.trans (HB3.out.mono HL.out.size)⟩, fun k hs _ => HB3.out.block k (hS k hs)⟩

def meets (x : Int × Int) : List (Int × Int) → List (Int × Int)
  | [] => []
  | y :: t => meet x y ++ meets x t
def bothL : List (Int × Int) → List (Int × Int) → List (Int × Int)
  | [], _ => []
  | x :: t, b => meets x b ++ bothL t b
theorem meet_len (x y : Int × Int) : (meet x y).length ≤ 1 := by
  unfold meet
  split <;> simp
theorem meets_len (x : Int × Int) : ∀ b, (meets x b).length ≤ b.length
  | [] => Nat.le_refl _
  | y :: t => by
    have := meets_len x t
    have := meet_len x y
    simp [meets]; omega
theorem bothL_len : ∀ a b : List (Int × Int), (bothL a b).length ≤ a.length * b.length
  | [], b => by simp [bothL]
  | x :: t, b => by
    have := bothL_len t b
    have := meets_len x b
    simp [bothL, Nat.add_mul]; omega
set_option maxHeartbeats 2000000 in
theorem pairs_any (w W1 : World) (B : Nat) (hB : B < W1.heap.size) (hwB : w.heap.size ≤ B) (A1 A2 : Option Addr) (c1 c2 : Nat) (l1 l2 : List (Int × Int)) (h1 : ∀ W, KeepBut W1 W B none → Kd.C kRg W A1 l1.length l1) (h2 : ∀ W, KeepBut W1 W B none → Kd.C kRg W A2 l2.length l2)
    (hn : l1.length * l2.length ≤ 900000) (hn1 : l1.length ≤ 900000) (hn2 : l2.length ≤ 900000) (hc : Col w W1 B (fun _ => False) W1 []) :
    Calls Tryd.prog 40 #[.slice A1 l1.length c1, .slice A2 l2.length c2, .func (.func 41) #[] #[.pointer (some ⟨B, 0, none⟩)]] W1 fun e w' => e = .returned (.tuple #[]) ∧ Col w W1 B (fun _ => False) w' (bothL l1 l2) := by
  have HC := Aside0.mk hc
  have H1 := Aside0.mk h1
  have H2 := Aside0.mk h2
  clear hc h1 h2
  have eg : ∀ args w, (callFunc 41 args).run Tryd.prog w = .ok (.enter 41 args) w := enters_of Tryd.func41 (by kernel_rfl) rfl
  go_enter Tryd.func40, Tryd.ntmps40
  go_wp2
  go_loopg [12] l1.length (fun g s12 wr => ∃ (k : Nat) (acc : List (Int × Int)), k ≤ l1.length ∧ l1.length - k ≤ g ∧ s12 = .int .i64 k ∧ Aside0 (Col w W1 B (fun _ => False) wr acc) ∧ Aside0 (acc ++ bothL (l1.drop k) l2 = bothL l1 l2) ∧ Aside0 (acc.length ≤ k * l2.length))
  case atStart => exact ⟨0, [], Nat.zero_le _, Nat.le_refl _, rfl, HC, ⟨rfl⟩, ⟨by simp⟩⟩
  case round =>
    obtain ⟨k, acc, hk, hg, rfl, HQ, HA, HL⟩ := hrel
    clear HC
    by_cases hlt : k < l1.length
    · have hltz : (k : Int) < (l1.length : Int) := by omega
      have HKB := HQ.out.choose_spec.2.2.1
      obtain ⟨b, off, rfl, e1, e2⟩ := C_at (H1.out _ HKB) hlt
      clear HKB
      have hx : ∃ x, x = l1[k] := ⟨_, rfl⟩
      obtain ⟨x, hx⟩ := hx
      rw [← hx] at e1 e2
      have HX := Aside0.mk hx
      clear hx
      go_wp2
      have hPB : wr.heap.size ≠ B := by
        obtain ⟨v, _, _, hK, _⟩ := HQ.out
        have := hK.1
        omega
      have HQ0 : Aside0 (Col w W1 B (fun k => k = wr.heap.size) (wr.alloc (.cells #[.int .i64 x.1, .int .i64 x.2] 42)) acc) := by
        obtain ⟨v, hv, hR, hK, hL⟩ := HQ.out
        have hlt : B < wr.heap.size := Nat.lt_of_lt_of_le hB hK.1
        exact ⟨v, (Below.heap_alloc _ _ _ hlt).trans hv, Kd.R_alloc (Kd.R_mono (Kd.R_bound hR) (fun k hk e => by have := hk.2.2.1; omega)) _, keep_alloc hK _, hL.alloc hL.size _⟩
      have HP0 : Aside0 ((wr.alloc (.cells #[.int .i64 x.1, .int .i64 x.2] 42)).heap[wr.heap.size]? = some (.cells #[.int .i64 x.1, .int .i64 x.2] 42 (0, 0))) := ⟨by show (wr.heap.push _)[wr.heap.size]? = _; simp⟩
      clear HQ e1 e2
      generalize wr.heap.size = P at hPB HQ0 HP0 ⊢
      generalize wr.alloc (.cells #[.int .i64 x.1, .int .i64 x.2] 42) = wi at HQ0 HP0 ⊢
      go_loopg [18] l2.length (fun g s18 ws => ∃ (j : Nat) (acc2 : List (Int × Int)), j ≤ l2.length ∧ l2.length - j ≤ g ∧ s18 = .int .i64 j ∧ Aside0 (Col w W1 B (fun k => k = P) ws acc2) ∧ Aside0 (acc2 ++ meets x (l2.drop j) = acc ++ meets x l2) ∧ Aside0 (acc2.length ≤ acc.length + j) ∧ Aside0 (ws.heap[P]? = some (.cells #[.int .i64 x.1, .int .i64 x.2] 42 (0, 0))))
      case atStart => exact ⟨0, acc, Nat.zero_le _, Nat.le_refl _, rfl, HQ0, ⟨rfl⟩, ⟨Nat.le_refl _⟩, HP0⟩
      case round =>
        obtain ⟨j, acc2, hj, hgj, rfl, HQ, HA2, HL2, HP⟩ := hrel
        clear HQ0 HP0
        by_cases hjt : j < l2.length
        · have hjtz : (j : Int) < (l2.length : Int) := by omega
          have HKB := HQ.out.choose_spec.2.2.1
          obtain ⟨b2, off2, rfl, e1, e2⟩ := C_at (H2.out _ HKB) hjt
          clear HKB
          obtain ⟨y, hy⟩ : ∃ y, y = l2[j] := ⟨_, rfl⟩
          rw [← hy] at e1 e2
          have HY := Aside0.mk hy
          clear hy
          have hp0 : wr.cell? ⟨P, 0, none⟩ = some (.int .i64 x.1) := by simp [World.cell?, HP.out]
          have hp1 : wr.cell? ⟨P, 1, none⟩ = some (.int .i64 x.2) := by simp [World.cell?, HP.out]
          have hPlt : P < wr.heap.size := World.block_lt_of_cell? wr _ hp0
          have hPne : P ≠ wr.heap.size := by omega
          have hcall := both_closure w W1 B (fun k => k = P) hB hwB x y acc2 (by have := HL2.out; have := HL.out; have h9 : (k + 1) * l2.length ≤ l1.length * l2.length := Nat.mul_le_mul_right _ hlt; rw [Nat.add_mul] at h9; omega) (wr.alloc (.cells #[.int .i64 y.1, .int .i64 y.2] 42)) (fun k hk => by simp; omega) (by
            obtain ⟨v, hv, hR, hK, hL⟩ := HQ.out
            have hlt : B < wr.heap.size := Nat.lt_of_lt_of_le hB hK.1
            exact ⟨v, (Below.heap_alloc _ _ _ hlt).trans hv, Kd.R_alloc hR _, keep_alloc hK _, hL.alloc hL.size _⟩)
          have HCL := Aside0.mk hcall
          clear hcall
          go_wp2_with (go_at_fn 41; refine HCL.out.mono ?_; rintro e w' ⟨rfl, hcol, hkeep⟩; have HQ2 := Aside0.mk hcol; have HP2 := Aside0.mk ((hkeep P rfl hPB).trans ((Below.heap_alloc _ _ _ hPlt).trans HP.out)); clear hcol hkeep)
          go_roundg (l2.length - (j + 1))
          case measure => omega
          case rel => exact ⟨j + 1, acc2 ++ meet x y, by omega, Nat.le_refl _, by go_num, HQ2, ⟨by rw [← HA2.out, List.drop_eq_getElem_cons hjt, ← HY.out, meets, List.append_assoc]⟩, ⟨by have := HL2.out; have := meet_len x y; simp; omega⟩, HP2⟩
        · have e : j = l2.length := by omega
          subst e
          have HA3 : Aside0 (acc2 ++ bothL (l1.drop (k + 1)) l2 = bothL l1 l2) := ⟨by
            have h1 := HA2.out
            rw [List.drop_of_length_le (Nat.le_refl _), meets, List.append_nil] at h1
            rw [h1, ← HA.out, List.drop_eq_getElem_cons hlt, bothL, List.append_assoc, HX.out]⟩
          go_wp2
          go_roundg (l1.length - (k + 1))
          case measure => omega
          case rel => exact ⟨k + 1, acc2, by omega, Nat.le_refl _, by go_num, ⟨by
            obtain ⟨v, hv, hR, hK, hL⟩ := HQ.out
            exact ⟨v, hv, Kd.R_mono hR (fun _ _ h => h), hK, hL⟩⟩, HA3, ⟨by have := HL2.out; have := HL.out; rw [Nat.add_mul]; omega⟩⟩
    · have e : k = l1.length := by omega
      subst e
      go_wp2
      go_end0
      have h1 := HA.out
      rw [List.drop_of_length_le (Nat.le_refl _), bothL, List.append_nil] at h1
      rw [← h1]
      exact ⟨rfl, HQ.out⟩

set_option maxHeartbeats 2000000 in
/-- ranges.Both, over what ranges.Norm does. -/
theorem both_any {nf : List (Int × Int) → List (Int × Int)} {P : List (Int × Int) → Prop} (hN : NormAt nf P) (A1 A2 : Option Addr) (c1 c2 : Nat) (l1 l2 : List (Int × Int)) (w : World) (p1 : P l1) (p2 : P l2) (h1 : Kd.C kRg w A1 l1.length l1) (g1 : l1.length ≤ c1) (h2 : Kd.C kRg w A2 l2.length l2) (g2 : l2.length ≤ c2)
    (hn : (nf l1).length * (nf l2).length ≤ 900000) (hn1 : (nf l1).length ≤ 900000) (hn2 : (nf l2).length ≤ 900000) :
    Calls Tryd.prog 23 #[.slice A1 l1.length c1, .slice A2 l2.length c2] w (BothPost w (bothL (nf l1) (nf l2))) := by
  have hw0 : Below w.heap.size w (w.alloc (.cells #[.slice none 0 0] 22)) := (Below.refl _ w).alloc (Nat.le_refl _) _
  have n1 := hN A1 c1 l1 (w.alloc (.cells #[.slice none 0 0] 22)) p1 (Kd.C_below h1 hw0) g1
  have N1 := Aside0.mk n1
  have HW := Aside0.mk hw0
  have H2 := Aside0.mk (Kd.C_below h2 hw0)
  have hb0 : (w.alloc (.cells #[.slice none 0 0] 22)).heap[w.heap.size]? = some (.cells #[.slice none 0 0] 22 (0, 0)) := by show (w.heap.push _)[w.heap.size]? = _; simp
  have HB0 := Aside0.mk hb0
  have hsz : (w.alloc (.cells #[.slice none 0 0] 22)).heap.size = w.heap.size + 1 := by simp
  have HSZ := Aside0.mk hsz
  clear h1 h2 hw0 n1 hb0 hsz
  obtain ⟨W0, hW0⟩ : ∃ W0, W0 = w.alloc (.cells #[.slice none 0 0] 22) := ⟨_, rfl⟩
  rw [← hW0] at N1 HW H2 HB0 HSZ
  have HW0 := Aside0.mk hW0
  clear hW0
  go_enter Tryd.func23, Tryd.ntmps23
  go_wp2_with fail
  rw [← HW0.out]
  refine N1.out.mono ?_
  rintro e w1 ⟨v1, rfl, hR1, hb1⟩
  obtain ⟨Av1, cv1, rfl⟩ := Kd.R_slice hR1
  have HR1 := Aside0.mk hR1
  have HB1 := Aside0.mk hb1
  clear hR1 hb1
  go_wp2_with fail
  refine (hN A2 c2 l2 w1 p2 (Kd.C_below H2.out HB1.out) g2).mono ?_
  rintro e w2 ⟨v2, rfl, hR2, hb2⟩
  obtain ⟨Av2, cv2, rfl⟩ := Kd.R_slice hR2
  have HR2 := Aside0.mk hR2
  have HB2 := Aside0.mk hb2
  clear hR2 hb2
  have hB : w.heap.size < w2.heap.size := by have := HB1.out.size; have := HB2.out.size; have := HSZ.out; omega
  have hcol : Col w w2 w.heap.size (fun _ => False) w2 [] :=
    ⟨.slice none 0 0, (HB2.out.block _ (by have := HB1.out.size; have := HSZ.out; omega)).trans ((HB1.out.block _ (by have := HSZ.out; omega)).trans HB0.out), Kd.R_nil _ _ _ _ _, KeepBut.refl _ _ _, HW.out.trans ((HB1.out.mono (by have := HSZ.out; omega)).trans (HB2.out.mono (by have := HB1.out.size; have := HSZ.out; omega)))⟩
  have hp := pairs_any w w2 w.heap.size hB (Nat.le_refl _) Av1 Av2 cv1 cv2 (nf l1) (nf l2)
    (fun W hk => Kd.C_kept_own (S := fun k => k = w.heap.size) (Kd.R_mono (Kd.R_bound (Kd.R_below HR1.out HB2.out)) (fun _ h => h)) (fun k hk h => by have := hk.2.1; have := HSZ.out; omega) W ⟨hk.1, fun i hi hn => hk.2 i hi hn (by simp)⟩)
    (fun W hk => Kd.C_kept_own (S := fun k => k = w.heap.size) (Kd.R_mono (Kd.R_bound HR2.out) (fun _ h => h)) (fun k hk h => by have := hk.2.1; have := HB1.out.size; have := HSZ.out; omega) W ⟨hk.1, fun i hi hn => hk.2 i hi hn (by simp)⟩) hn hn1 hn2 hcol
  have HP := Aside0.mk hp
  clear hp hcol
  go_wp2_with fail
  refine HP.out.mono ?_
  rintro e w3 ⟨rfl, v, hv, hR, hK, hL⟩
  obtain ⟨A3, c3, rfl⟩ := Kd.R_slice hR
  have hcell : w3.cell? ⟨w.heap.size, 0, none⟩ = some (.slice A3 (bothL (nf l1) (nf l2)).length c3) := by simp [World.cell?, hv]
  have HR := Aside0.mk hR
  have HL := Aside0.mk hL
  clear hR hL hK hv
  go_wp2
  go_ret
  exact ⟨_, rfl, Kd.R_lower (Kd.R_mono HR.out (fun _ _ => trivial)) (Nat.le_of_lt hB), HL.out⟩
end Go.Proofs.YtnpkfncccddlmaaDoorX
