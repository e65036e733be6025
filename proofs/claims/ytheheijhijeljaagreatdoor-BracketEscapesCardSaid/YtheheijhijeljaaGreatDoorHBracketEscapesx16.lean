-- Made by wip/hyb (a program of this session over the kit's print); its parts marked 'own text' are typed by hand.
import Derived.Test.YtheheijhijeljaaGreatDoorHBracketEscapesx0
import Derived.Test.YtheheijhijeljaaGreatDoorHBracketEscapesx14
import Derived.Test.YtheheijhijeljaaGreatDoorHBracketEscapesx15
namespace Go.Proofs.YtheheijhijeljaaGreatDoor.HBracketEscapes
open Go.RowKit Go.Proofs.YtheheijhijeljaaGreatDoorW.PrintWords Go.Proofs.YtheheijhijeljaaGreatDoorW.PrintLast Go.Proofs.YtheheijhijeljaaGreatDoorW.PrintMore
attribute [local go_sem] max2_int min2_int max_two min_two max_three min_three max_four min_four   -- for this text's walks alone
set_option linter.unusedVariables false
set_option linter.unusedSimpArgs false
mutual
def burinref02_Make.l0 : Nat → Int → List (S36) → List (S36) → List (S36) → Int → Option ((List (S36)))
 | 0, _, _, _, _, _ => none
 | k + 1, x0, x1, x2, x7, x8 => if x8 ≤ 1114111 then ((burinref02_edge.f k x1 x8).bind fun t258 => ((burinref02_edge.f k x2 x8).bind fun t259 => (if t259 < t258 then (burinref02_Make.j1 k x0 x1 x2 x7 x8 t259) else (burinref02_Make.j1 k x0 x1 x2 x7 x8 t258)))) else (some x7)
def burinref02_Make.j1 : Nat → Int → List (S36) → List (S36) → List (S36) → Int → Int → Option ((List (S36)))
 | 0, _, _, _, _, _, _ => none
 | k + 1, x0, x1, x2, x7, x8, x9 => (burinref02_Has.f k x1 x8).bind fun t260 => ((burinref02_Has.f k x2 x8).bind fun t261 => (if x0 = 1 then (if t260 = true then (burinref02_Make.j2 k x0 x1 x2 x7 x8 x9 true) else (if t261 = true then (burinref02_Make.j2 k x0 x1 x2 x7 x8 x9 true) else (if x0 = 2 then (if x0 = 3 then (burinref02_Make.j2 k x0 x1 x2 x7 x8 x9 false) else (burinref02_Make.j2 k x0 x1 x2 x7 x8 x9 false)) else (if x0 = 3 then (burinref02_Make.j2 k x0 x1 x2 x7 x8 x9 false) else (burinref02_Make.j2 k x0 x1 x2 x7 x8 x9 false))))) else (if x0 = 2 then (if t260 = true then (if t261 = true then (burinref02_Make.j2 k x0 x1 x2 x7 x8 x9 true) else (if x0 = 3 then (burinref02_Make.j2 k x0 x1 x2 x7 x8 x9 (!t261)) else (burinref02_Make.j2 k x0 x1 x2 x7 x8 x9 false))) else (if x0 = 3 then (burinref02_Make.j2 k x0 x1 x2 x7 x8 x9 false) else (burinref02_Make.j2 k x0 x1 x2 x7 x8 x9 false))) else (if x0 = 3 then (if t260 = true then (burinref02_Make.j2 k x0 x1 x2 x7 x8 x9 (!t261)) else (burinref02_Make.j2 k x0 x1 x2 x7 x8 x9 false)) else (burinref02_Make.j2 k x0 x1 x2 x7 x8 x9 false)))))
def burinref02_Make.j2 : Nat → Int → List (S36) → List (S36) → List (S36) → Int → Int → Bool → Option ((List (S36)))
 | 0, _, _, _, _, _, _, _ => none
 | k + 1, x0, x1, x2, x7, x8, x9, x60 => if x60 = true then (if (x7.length : Int) > 0 then (if 0 ≤ (wrap64 ((x7.length : Int) - 1)) then (if (wrap64 ((x7.length : Int) - 1)) < (x7.length : Int) then (if (wrap64 (((rd_T36 x7 (wrap64 ((x7.length : Int) - 1))).f1) + 1)) = x8 then (burinref02_Make.l0 k x0 x1 x2 (x7.set ((wrap64 ((x7.length : Int) - 1)) : Int).toNat (⟨(rd_T36 x7 (wrap64 ((x7.length : Int) - 1))).f0, wrap64 (x9 - 1)⟩ : S36)) x9) else (if x7.length < 8796093022208 then (burinref02_Make.l0 k x0 x1 x2 (x7 ++ [(⟨x8, wrap64 (x9 - 1)⟩ : S36)]) x9) else (none))) else (none)) else (none)) else (if x7.length < 8796093022208 then (burinref02_Make.l0 k x0 x1 x2 (x7 ++ [(⟨x8, wrap64 (x9 - 1)⟩ : S36)]) x9) else (none))) else (burinref02_Make.l0 k x0 x1 x2 x7 x9)
end
def burinref02_Make.f (k : Nat) (a0 : Int) (l1 : List (S36)) (l2 : List (S36)) : Option ((List (S36))) := burinref02_Make.l0 k a0 l1 l2 ([] : List (S36)) 0
theorem burinref02_Make.mono_l : ∀ k, (∀ y0 y1 y2 y3 y4, LeO (burinref02_Make.l0 k y0 y1 y2 y3 y4) (burinref02_Make.l0 (k + 1) y0 y1 y2 y3 y4)) ∧ (∀ y0 y1 y2 y3 y4 y5, LeO (burinref02_Make.j1 k y0 y1 y2 y3 y4 y5) (burinref02_Make.j1 (k + 1) y0 y1 y2 y3 y4 y5)) ∧ (∀ y0 y1 y2 y3 y4 y5 y6, LeO (burinref02_Make.j2 k y0 y1 y2 y3 y4 y5 y6) (burinref02_Make.j2 (k + 1) y0 y1 y2 y3 y4 y5 y6))
 | 0 => ⟨fun _ _ _ _ _ r h => by simp [burinref02_Make.l0] at h, fun _ _ _ _ _ _ r h => by simp [burinref02_Make.j1] at h, fun _ _ _ _ _ _ _ r h => by simp [burinref02_Make.j2] at h⟩
 | k + 1 => by
  obtain ⟨ih0, ih1, ih2⟩ := burinref02_Make.mono_l k
  refine ⟨?_, ?_, ?_⟩
  ·intro y0 y1 y2 y3 y4
   unfold burinref02_Make.l0
   repeat' first
   | (with_reducible exact ih0 _ _ _ _ _)
   | (with_reducible exact ih1 _ _ _ _ _ _)
   | (with_reducible exact ih2 _ _ _ _ _ _ _)
   | (with_reducible exact burinref02_Has.mono _ _ _)
   | (with_reducible exact burinref02_edge.mono _ _ _)
   | (with_reducible exact LeO.refl _)
   | (with_reducible exact LeO.none _)
   | (with_reducible refine LeO.ite ?_ ?_)
   | (with_reducible refine LeO.bind ?_ (fun _ => ?_))
   | exact ih0 _ _ _ _ _
   | exact ih1 _ _ _ _ _ _
   | exact ih2 _ _ _ _ _ _ _
   | exact burinref02_Has.mono _ _ _
   | exact burinref02_edge.mono _ _ _
   | exact LeO.none _
   | refine LeO.ite ?_ ?_
   | refine LeO.bind ?_ (fun _ => ?_)
  ·intro y0 y1 y2 y3 y4 y5
   unfold burinref02_Make.j1
   repeat' first
   | (with_reducible exact ih0 _ _ _ _ _)
   | (with_reducible exact ih1 _ _ _ _ _ _)
   | (with_reducible exact ih2 _ _ _ _ _ _ _)
   | (with_reducible exact burinref02_Has.mono _ _ _)
   | (with_reducible exact burinref02_edge.mono _ _ _)
   | (with_reducible exact LeO.refl _)
   | (with_reducible exact LeO.none _)
   | (with_reducible refine LeO.ite ?_ ?_)
   | (with_reducible refine LeO.bind ?_ (fun _ => ?_))
   | exact ih0 _ _ _ _ _
   | exact ih1 _ _ _ _ _ _
   | exact ih2 _ _ _ _ _ _ _
   | exact burinref02_Has.mono _ _ _
   | exact burinref02_edge.mono _ _ _
   | exact LeO.none _
   | refine LeO.ite ?_ ?_
   | refine LeO.bind ?_ (fun _ => ?_)
  ·intro y0 y1 y2 y3 y4 y5 y6
   unfold burinref02_Make.j2
   repeat' first
   | (with_reducible exact ih0 _ _ _ _ _)
   | (with_reducible exact ih1 _ _ _ _ _ _)
   | (with_reducible exact ih2 _ _ _ _ _ _ _)
   | (with_reducible exact burinref02_Has.mono _ _ _)
   | (with_reducible exact burinref02_edge.mono _ _ _)
   | (with_reducible exact LeO.refl _)
   | (with_reducible exact LeO.none _)
   | (with_reducible refine LeO.ite ?_ ?_)
   | (with_reducible refine LeO.bind ?_ (fun _ => ?_))
   | exact ih0 _ _ _ _ _
   | exact ih1 _ _ _ _ _ _
   | exact ih2 _ _ _ _ _ _ _
   | exact burinref02_Has.mono _ _ _
   | exact burinref02_edge.mono _ _ _
   | exact LeO.none _
   | refine LeO.ite ?_ ?_
   | refine LeO.bind ?_ (fun _ => ?_)
theorem burinref02_Make.mono : ∀ a0 a1 a2 k, LeO (burinref02_Make.f k a0 a1 a2) (burinref02_Make.f (k + 1) a0 a1 a2) := by
 intro a0 a1 a2 k
 obtain ⟨ih0, ih1, ih2⟩ := burinref02_Make.mono_l k
 unfold burinref02_Make.f
 repeat' first
   | (with_reducible exact ih0 _ _ _ _ _)
   | (with_reducible exact ih1 _ _ _ _ _ _)
   | (with_reducible exact ih2 _ _ _ _ _ _ _)
   | (with_reducible exact burinref02_Has.mono _ _ _)
   | (with_reducible exact burinref02_edge.mono _ _ _)
   | (with_reducible exact LeO.refl _)
   | (with_reducible exact LeO.none _)
   | (with_reducible refine LeO.ite ?_ ?_)
   | (with_reducible refine LeO.bind ?_ (fun _ => ?_))
   | exact ih0 _ _ _ _ _
   | exact ih1 _ _ _ _ _ _
   | exact ih2 _ _ _ _ _ _ _
   | exact burinref02_Has.mono _ _ _
   | exact burinref02_edge.mono _ _ _
   | exact LeO.none _
   | refine LeO.ite ?_ ?_
   | refine LeO.bind ?_ (fun _ => ?_)
set_option maxHeartbeats 8000000 in
set_option maxRecDepth 100000 in
theorem burinref02_Make.calls (k : Nat) (a0 : Int) (A1 : Option Addr) (c1 : Nat) (l1 : List (S36)) (A2 : Option Addr) (c2 : Nat) (l2 : List (S36)) (r : List (S36)) (w : World) (hr1 : Kd.C k36 w A1 l1.length l1) (hc1 : l1.length ≤ c1) (hr2 : Kd.C k36 w A2 l2.length l2) (hc2 : l2.length ≤ c2) (h : burinref02_Make.f k a0 l1 l2 = some r) :
  Calls Tryz.prog 64 #[.int .i64 a0, .slice A1 l1.length c1, .slice A2 l2.length c2] w fun e w' => ∃ v0_ : Value, e = .returned (v0_) ∧ Kd.R k36 36 w' w.heap.size (fun _ => True) v0_ r ∧ Below w.heap.size w w' := by
 have hu36 := Tryz.underlying36
 have HR1 := Aside0.mk hr1
 have HC1 := Aside0.mk hc1
 clear hr1 hc1
 have HR2 := Aside0.mk hr2
 have HC2 := Aside0.mk hc2
 clear hr2 hc2
 have HB := Aside0.mk (Below.refl w.heap.size w)
 have H : (burinref02_Make.l0 k a0 l1 l2 ([] : List (S36)) 0) = some r := h
 clear h
 have H' := Aside0.mk H
 clear H
 go_enter Tryz.func64, Tryz.ntmps64
 go_wp2
 go_loopg [7, 8] k (fun kq v7 v8 w' => ∃ (x7_1 : List (S36)) (x8_1 : Int), v8 = .int .i64 x8_1 ∧ Aside0 (burinref02_Make.l0 kq a0 l1 l2 x7_1 x8_1 = some r) ∧ Aside0 (kq ≤ k) ∧ Aside0 (Kd.R k36 36 w' w.heap.size (fun _ => True) v7 x7_1) ∧ Aside0 (Below w.heap.size w w'))
 case atStart => exact ⟨(([] : List (S36))), (0), (by first | rfl | (simp; done) | (simp [*]; done)), H', ⟨Nat.le_refl _⟩, ⟨by first | exact Kd.R_nil _ _ _ _ _ | exact Kd.N_nil _ _ _ _ _ | exact Kd.V_nil _ _ _ _ _ | exact Kd.Q_nil _ _ _ _ _ | exact Kd.S_nil _ _ _ _ _⟩, ⟨by repeat (first | (with_reducible first | exact HB.out | apply below_alloc | apply pw_below_drewN | apply below_drew1) | exact HB.out)⟩⟩
 case round =>
  clear H'
  try clear c1
  try clear c2
  try clear p2
  obtain ⟨x7_1, x8_1, rfl, HA, HK1, HO_7, HB⟩ := hrel
  cases gk with
  | zero => exact absurd HA.out (by simp [burinref02_Make.l0])
  | succ k1 =>
   have H := HA.out
   clear HA
   simp only [burinref02_Make.l0] at H
   by_cases c4 : x8_1 ≤ 1114111
   ·rw [if_pos c4] at H
    have c4b0 : decide (x8_1 ≤ 1114111) = true := decide_eq_true c4
    clear c4
    replace H := Option.bind_eq_some_iff.mp H
    obtain ⟨t258, A50, H⟩ := H
    replace H : ((burinref02_edge.f k1 l2 x8_1).bind fun t259 => (if t259 < t258 then (burinref02_Make.j1 k1 a0 l1 l2 x7_1 x8_1 t259) else (burinref02_Make.j1 k1 a0 l1 l2 x7_1 x8_1 t258))) = some r := H
    have A5 := Aside0.mk A50
    clear A50
    replace H := Option.bind_eq_some_iff.mp H
    obtain ⟨t259, A60, H⟩ := H
    replace H : (if t259 < t258 then (burinref02_Make.j1 k1 a0 l1 l2 x7_1 x8_1 t259) else (burinref02_Make.j1 k1 a0 l1 l2 x7_1 x8_1 t258)) = some r := H
    have A6 := Aside0.mk A60
    clear A60
    have HC7 := Aside0.mk H
    clear H
    go_upto_if 24 with (first | ((with_reducible refine gate_callee (f := 95) rfl ?_); refine goesL_ (some 18) rfl rfl Tryz.func95 (by kernel_rfl) rfl #[.slice A1 l1.length c1, .int .i64 x8_1] rfl (by (try simp only [List.map_toArray, List.map_cons, List.map_nil]); first | done | rfl | (simp only [List.length_drop, List.length_take]; rfl)) ?_; (with_reducible refine (burinref02_edge.calls k1 _ _ l1 x8_1 t258 _ ?side1 ?side2 A5.out).mono ?_); (case side1 => repeat (first | exact (Kd.C_below HR1.out HB.out) | (with_reducible refine Kd.C_alloc ?_ _) | (with_reducible refine Kd.C_drewN ?_ _) | (with_reducible refine Kd.C_drew ?_))); (case side2 => exact HC1.out); rintro e w' ⟨rfl, ⟨nd, rfl⟩⟩; refine ⟨_, rfl, ?_⟩) | ((with_reducible refine gate_callee (f := 95) rfl ?_); refine goesL_ (some 21) rfl rfl Tryz.func95 (by kernel_rfl) rfl #[.slice A2 l2.length c2, .int .i64 x8_1] rfl (by (try simp only [List.map_toArray, List.map_cons, List.map_nil]); first | done | rfl | (simp only [List.length_drop, List.length_take]; rfl)) ?_; (with_reducible refine (burinref02_edge.calls k1 _ _ l2 x8_1 t259 _ ?side1 ?side2 A6.out).mono ?_); (case side1 => repeat (first | exact (Kd.C_below HR2.out (by repeat (first | (with_reducible first | exact HB.out | apply below_alloc | apply pw_below_drewN | apply below_drew1) | exact HB.out))) | (with_reducible refine Kd.C_alloc ?_ _) | (with_reducible refine Kd.C_drewN ?_ _) | (with_reducible refine Kd.C_drew ?_))); (case side2 => exact HC2.out); rintro e w' ⟨rfl, ⟨nd, rfl⟩⟩; refine ⟨_, rfl, ?_⟩))
    (try simp only [Act.put, List.setIfInBounds_toArray, List.set_cons_zero, List.set_cons_succ])
    go_cut [9] (fun v9 wc => ∃ (kq : Nat) (x9_6 : Int), v9 = .int .i64 x9_6 ∧ Aside0 (burinref02_Make.j1 kq a0 l1 l2 x7_1 x8_1 x9_6 = some r) ∧ Aside0 (kq ≤ k1) ∧ Aside0 (Kd.R k36 36 wc w.heap.size (fun _ => True) u7 x7_1) ∧ Aside0 (Below w.heap.size w wc))
    case first =>
     have H := HC7.out
     clear HC7
     by_cases c8 : t259 < t258
     ·rw [if_pos c8] at H
      have c8b0 : decide (t259 < t258) = true := decide_eq_true c8
      clear c8
      (first | rw [c8b0] | (simp only [i64_w, i32_w]; rw [c8b0]) | skip)
      have H' := Aside0.mk H
      clear H
      go_wp2
      go_meet
      case rel => exact ⟨_, (t259), (by first | rfl | (simp; done) | (simp [*]; done)), H', ⟨by have := HK1.out; first | omega | exact Nat.le_refl _⟩, ⟨by (with_reducible repeat (first | apply Kd.R_alloc | apply Kd.R_drewN | apply Kd.R_drew)); exact HO_7.out⟩, ⟨by repeat (first | (with_reducible first | exact HB.out | apply below_alloc | apply pw_below_drewN | apply below_drew1) | exact HB.out)⟩⟩
     ·rw [if_neg c8] at H
      have c8b0 : decide (t259 < t258) = false := decide_eq_false c8
      clear c8
      (first | rw [c8b0] | (simp only [i64_w, i32_w]; rw [c8b0]) | skip)
      have H' := Aside0.mk H
      clear H
      go_wp2
      go_meet
      case rel => exact ⟨_, (t258), (by first | rfl | (simp; done) | (simp [*]; done)), H', ⟨by have := HK1.out; first | omega | exact Nat.le_refl _⟩, ⟨by (with_reducible repeat (first | apply Kd.R_alloc | apply Kd.R_drewN | apply Kd.R_drew)); exact HO_7.out⟩, ⟨by repeat (first | (with_reducible first | exact HB.out | apply below_alloc | apply pw_below_drewN | apply below_drew1) | exact HB.out)⟩⟩
    case rest =>
     clear HC7
     try clear c1
     try clear c2
     try clear p2
     try clear c4
     try clear c4b0
     try clear c6
     try clear c8
     try clear c8b0
     try clear p2
     obtain ⟨kq, x9_6, rfl, HA, HJ6, HO_7, HB⟩ := hcut
     cases kq with
     | zero => exact absurd HA.out (by simp [burinref02_Make.j1])
     | succ kj6 =>
      have H := HA.out
      clear HA
      simp only [burinref02_Make.j1] at H
      replace H := Option.bind_eq_some_iff.mp H
      obtain ⟨t260, A90, H⟩ := H
      replace H : ((burinref02_Has.f kj6 l2 x8_1).bind fun t261 => (if a0 = 1 then (if t260 = true then (burinref02_Make.j2 kj6 a0 l1 l2 x7_1 x8_1 x9_6 true) else (if t261 = true then (burinref02_Make.j2 kj6 a0 l1 l2 x7_1 x8_1 x9_6 true) else (if a0 = 2 then (if a0 = 3 then (burinref02_Make.j2 kj6 a0 l1 l2 x7_1 x8_1 x9_6 false) else (burinref02_Make.j2 kj6 a0 l1 l2 x7_1 x8_1 x9_6 false)) else (if a0 = 3 then (burinref02_Make.j2 kj6 a0 l1 l2 x7_1 x8_1 x9_6 false) else (burinref02_Make.j2 kj6 a0 l1 l2 x7_1 x8_1 x9_6 false))))) else (if a0 = 2 then (if t260 = true then (if t261 = true then (burinref02_Make.j2 kj6 a0 l1 l2 x7_1 x8_1 x9_6 true) else (if a0 = 3 then (burinref02_Make.j2 kj6 a0 l1 l2 x7_1 x8_1 x9_6 (!t261)) else (burinref02_Make.j2 kj6 a0 l1 l2 x7_1 x8_1 x9_6 false))) else (if a0 = 3 then (burinref02_Make.j2 kj6 a0 l1 l2 x7_1 x8_1 x9_6 false) else (burinref02_Make.j2 kj6 a0 l1 l2 x7_1 x8_1 x9_6 false))) else (if a0 = 3 then (if t260 = true then (burinref02_Make.j2 kj6 a0 l1 l2 x7_1 x8_1 x9_6 (!t261)) else (burinref02_Make.j2 kj6 a0 l1 l2 x7_1 x8_1 x9_6 false)) else (burinref02_Make.j2 kj6 a0 l1 l2 x7_1 x8_1 x9_6 false))))) = some r := H
      have A9 := Aside0.mk A90
      clear A90
      replace H := Option.bind_eq_some_iff.mp H
      obtain ⟨t261, A100, H⟩ := H
      replace H : (if a0 = 1 then (if t260 = true then (burinref02_Make.j2 kj6 a0 l1 l2 x7_1 x8_1 x9_6 true) else (if t261 = true then (burinref02_Make.j2 kj6 a0 l1 l2 x7_1 x8_1 x9_6 true) else (if a0 = 2 then (if a0 = 3 then (burinref02_Make.j2 kj6 a0 l1 l2 x7_1 x8_1 x9_6 false) else (burinref02_Make.j2 kj6 a0 l1 l2 x7_1 x8_1 x9_6 false)) else (if a0 = 3 then (burinref02_Make.j2 kj6 a0 l1 l2 x7_1 x8_1 x9_6 false) else (burinref02_Make.j2 kj6 a0 l1 l2 x7_1 x8_1 x9_6 false))))) else (if a0 = 2 then (if t260 = true then (if t261 = true then (burinref02_Make.j2 kj6 a0 l1 l2 x7_1 x8_1 x9_6 true) else (if a0 = 3 then (burinref02_Make.j2 kj6 a0 l1 l2 x7_1 x8_1 x9_6 (!t261)) else (burinref02_Make.j2 kj6 a0 l1 l2 x7_1 x8_1 x9_6 false))) else (if a0 = 3 then (burinref02_Make.j2 kj6 a0 l1 l2 x7_1 x8_1 x9_6 false) else (burinref02_Make.j2 kj6 a0 l1 l2 x7_1 x8_1 x9_6 false))) else (if a0 = 3 then (if t260 = true then (burinref02_Make.j2 kj6 a0 l1 l2 x7_1 x8_1 x9_6 (!t261)) else (burinref02_Make.j2 kj6 a0 l1 l2 x7_1 x8_1 x9_6 false)) else (burinref02_Make.j2 kj6 a0 l1 l2 x7_1 x8_1 x9_6 false)))) = some r := H
      have A10 := Aside0.mk A100
      clear A100
      have HC11 := Aside0.mk H
      clear H
      go_upto_region 9 with (first | ((with_reducible refine gate_callee (f := 75) rfl ?_); refine goesL_ (some 28) rfl rfl Tryz.func75 (by kernel_rfl) rfl #[.slice A1 l1.length c1, .int .i64 x8_1] rfl (by (try simp only [List.map_toArray, List.map_cons, List.map_nil]); first | done | rfl | (simp only [List.length_drop, List.length_take]; rfl)) ?_; (with_reducible refine (burinref02_Has.calls kj6 _ _ l1 x8_1 t260 _ ?side1 ?side2 A9.out).mono ?_); (case side1 => repeat (first | exact (Kd.C_below HR1.out HB.out) | (with_reducible refine Kd.C_alloc ?_ _) | (with_reducible refine Kd.C_drewN ?_ _) | (with_reducible refine Kd.C_drew ?_))); (case side2 => exact HC1.out); rintro e w' ⟨rfl, ⟨nd, rfl⟩⟩; refine ⟨_, rfl, ?_⟩) | ((with_reducible refine gate_callee (f := 75) rfl ?_); refine goesL_ (some 31) rfl rfl Tryz.func75 (by kernel_rfl) rfl #[.slice A2 l2.length c2, .int .i64 x8_1] rfl (by (try simp only [List.map_toArray, List.map_cons, List.map_nil]); first | done | rfl | (simp only [List.length_drop, List.length_take]; rfl)) ?_; (with_reducible refine (burinref02_Has.calls kj6 _ _ l2 x8_1 t261 _ ?side1 ?side2 A10.out).mono ?_); (case side1 => repeat (first | exact (Kd.C_below HR2.out (by repeat (first | (with_reducible first | exact HB.out | apply below_alloc | apply pw_below_drewN | apply below_drew1) | exact HB.out))) | (with_reducible refine Kd.C_alloc ?_ _) | (with_reducible refine Kd.C_drewN ?_ _) | (with_reducible refine Kd.C_drew ?_))); (case side2 => exact HC2.out); rintro e w' ⟨rfl, ⟨nd, rfl⟩⟩; refine ⟨_, rfl, ?_⟩))
      (try simp only [Act.put, List.setIfInBounds_toArray, List.set_cons_zero, List.set_cons_succ])
      go_cut [60] (fun v60 wc => ∃ (kq : Nat) (x60_10 : Bool), v60 = .bool x60_10 ∧ Aside0 (burinref02_Make.j2 kq a0 l1 l2 x7_1 x8_1 x9_6 x60_10 = some r) ∧ Aside0 (kq ≤ kj6) ∧ Aside0 (Kd.R k36 36 wc w.heap.size (fun _ => True) u7 x7_1) ∧ Aside0 (Below w.heap.size w wc))
      case first =>
       have H := HC11.out
       clear HC11
       by_cases c12 : a0 = 1
       ·rw [if_pos c12] at H
        have c12b0 : (a0 == 1) = true := beq_iff_eq.mpr c12
        have c12b1 : (a0 != 1) = false := bne_eq_false_iff_eq.mpr c12
        clear c12
        (first | rw [c12b0] | (simp only [i64_w, i32_w]; rw [c12b0]) | skip)
        by_cases c13 : t260 = true
        ·subst c13
         have H1 : (burinref02_Make.j2 kj6 a0 l1 l2 x7_1 x8_1 x9_6 true) = some r := by rw [if_pos rfl] at H; exact H
         clear H
         have H := H1
         clear H1
         have H' := Aside0.mk H
         clear H
         go_wp2
         go_meet
         case rel => exact ⟨_, (true), (by first | rfl | (simp; done) | (simp [*]; done)), H', ⟨by have := HK1.out; have := HJ6.out; first | omega | exact Nat.le_refl _⟩, ⟨by (with_reducible repeat (first | apply Kd.R_alloc | apply Kd.R_drewN | apply Kd.R_drew)); exact HO_7.out⟩, ⟨by repeat (first | (with_reducible first | exact HB.out | apply below_alloc | apply pw_below_drewN | apply below_drew1) | exact HB.out)⟩⟩
        ·replace c13 := Bool.eq_false_iff.mpr c13
         subst c13
         have H1 : (if t261 = true then (burinref02_Make.j2 kj6 a0 l1 l2 x7_1 x8_1 x9_6 true) else (if a0 = 2 then (if a0 = 3 then (burinref02_Make.j2 kj6 a0 l1 l2 x7_1 x8_1 x9_6 false) else (burinref02_Make.j2 kj6 a0 l1 l2 x7_1 x8_1 x9_6 false)) else (if a0 = 3 then (burinref02_Make.j2 kj6 a0 l1 l2 x7_1 x8_1 x9_6 false) else (burinref02_Make.j2 kj6 a0 l1 l2 x7_1 x8_1 x9_6 false)))) = some r := by rw [if_neg (show ¬ (false = true) by decide)] at H; exact H
         clear H
         have H := H1
         clear H1
         by_cases c14 : t261 = true
         ·subst c14
          have H1 : (burinref02_Make.j2 kj6 a0 l1 l2 x7_1 x8_1 x9_6 true) = some r := by rw [if_pos rfl] at H; exact H
          clear H
          have H := H1
          clear H1
          have H' := Aside0.mk H
          clear H
          go_wp2
          go_meet
          case rel => exact ⟨_, (true), (by first | rfl | (simp; done) | (simp [*]; done)), H', ⟨by have := HK1.out; have := HJ6.out; first | omega | exact Nat.le_refl _⟩, ⟨by (with_reducible repeat (first | apply Kd.R_alloc | apply Kd.R_drewN | apply Kd.R_drew)); exact HO_7.out⟩, ⟨by repeat (first | (with_reducible first | exact HB.out | apply below_alloc | apply pw_below_drewN | apply below_drew1) | exact HB.out)⟩⟩
         ·replace c14 := Bool.eq_false_iff.mpr c14
          subst c14
          have H1 : (if a0 = 2 then (if a0 = 3 then (burinref02_Make.j2 kj6 a0 l1 l2 x7_1 x8_1 x9_6 false) else (burinref02_Make.j2 kj6 a0 l1 l2 x7_1 x8_1 x9_6 false)) else (if a0 = 3 then (burinref02_Make.j2 kj6 a0 l1 l2 x7_1 x8_1 x9_6 false) else (burinref02_Make.j2 kj6 a0 l1 l2 x7_1 x8_1 x9_6 false))) = some r := by rw [if_neg (show ¬ (false = true) by decide)] at H; exact H
          clear H
          have H := H1
          clear H1
          by_cases c15 : a0 = 2
          ·rw [if_pos c15] at H
           have c15b0 : (a0 == 2) = true := beq_iff_eq.mpr c15
           have c15b1 : (a0 != 2) = false := bne_eq_false_iff_eq.mpr c15
           clear c15
           by_cases c16 : a0 = 3
           ·rw [if_pos c16] at H
            have c16b0 : (a0 == 3) = true := beq_iff_eq.mpr c16
            have c16b1 : (a0 != 3) = false := bne_eq_false_iff_eq.mpr c16
            clear c16
            have H' := Aside0.mk H
            clear H
            go_wp2
            go_meet
            case rel => exact ⟨_, (false), (by first | rfl | (simp; done) | (simp [*]; done)), H', ⟨by have := HK1.out; have := HJ6.out; first | omega | exact Nat.le_refl _⟩, ⟨by (with_reducible repeat (first | apply Kd.R_alloc | apply Kd.R_drewN | apply Kd.R_drew)); exact HO_7.out⟩, ⟨by repeat (first | (with_reducible first | exact HB.out | apply below_alloc | apply pw_below_drewN | apply below_drew1) | exact HB.out)⟩⟩
           ·rw [if_neg c16] at H
            have c16b0 : (a0 == 3) = false := beq_eq_false_iff_ne.mpr c16
            have c16b1 : (a0 != 3) = true := bne_iff_ne.mpr c16
            have H' := Aside0.mk H
            clear H
            go_wp2
            go_meet
            case rel => exact ⟨_, (false), (by first | rfl | (simp; done) | (simp [*]; done)), H', ⟨by have := HK1.out; have := HJ6.out; first | omega | exact Nat.le_refl _⟩, ⟨by (with_reducible repeat (first | apply Kd.R_alloc | apply Kd.R_drewN | apply Kd.R_drew)); exact HO_7.out⟩, ⟨by repeat (first | (with_reducible first | exact HB.out | apply below_alloc | apply pw_below_drewN | apply below_drew1) | exact HB.out)⟩⟩
          ·rw [if_neg c15] at H
           have c15b0 : (a0 == 2) = false := beq_eq_false_iff_ne.mpr c15
           have c15b1 : (a0 != 2) = true := bne_iff_ne.mpr c15
           by_cases c17 : a0 = 3
           ·rw [if_pos c17] at H
            have c17b0 : (a0 == 3) = true := beq_iff_eq.mpr c17
            have c17b1 : (a0 != 3) = false := bne_eq_false_iff_eq.mpr c17
            clear c17
            have H' := Aside0.mk H
            clear H
            go_wp2
            go_meet
            case rel => exact ⟨_, (false), (by first | rfl | (simp; done) | (simp [*]; done)), H', ⟨by have := HK1.out; have := HJ6.out; first | omega | exact Nat.le_refl _⟩, ⟨by (with_reducible repeat (first | apply Kd.R_alloc | apply Kd.R_drewN | apply Kd.R_drew)); exact HO_7.out⟩, ⟨by repeat (first | (with_reducible first | exact HB.out | apply below_alloc | apply pw_below_drewN | apply below_drew1) | exact HB.out)⟩⟩
           ·rw [if_neg c17] at H
            have c17b0 : (a0 == 3) = false := beq_eq_false_iff_ne.mpr c17
            have c17b1 : (a0 != 3) = true := bne_iff_ne.mpr c17
            have H' := Aside0.mk H
            clear H
            go_wp2
            go_meet
            case rel => exact ⟨_, (false), (by first | rfl | (simp; done) | (simp [*]; done)), H', ⟨by have := HK1.out; have := HJ6.out; first | omega | exact Nat.le_refl _⟩, ⟨by (with_reducible repeat (first | apply Kd.R_alloc | apply Kd.R_drewN | apply Kd.R_drew)); exact HO_7.out⟩, ⟨by repeat (first | (with_reducible first | exact HB.out | apply below_alloc | apply pw_below_drewN | apply below_drew1) | exact HB.out)⟩⟩
       ·rw [if_neg c12] at H
        have c12b0 : (a0 == 1) = false := beq_eq_false_iff_ne.mpr c12
        have c12b1 : (a0 != 1) = true := bne_iff_ne.mpr c12
        (first | rw [c12b0] | (simp only [i64_w, i32_w]; rw [c12b0]) | skip)
        by_cases c18 : a0 = 2
        ·rw [if_pos c18] at H
         have c18b0 : (a0 == 2) = true := beq_iff_eq.mpr c18
         have c18b1 : (a0 != 2) = false := bne_eq_false_iff_eq.mpr c18
         clear c18
         by_cases c19 : t260 = true
         ·subst c19
          have H1 : (if t261 = true then (burinref02_Make.j2 kj6 a0 l1 l2 x7_1 x8_1 x9_6 true) else (if a0 = 3 then (burinref02_Make.j2 kj6 a0 l1 l2 x7_1 x8_1 x9_6 (!t261)) else (burinref02_Make.j2 kj6 a0 l1 l2 x7_1 x8_1 x9_6 false))) = some r := by rw [if_pos rfl] at H; exact H
          clear H
          have H := H1
          clear H1
          by_cases c20 : t261 = true
          ·subst c20
           have H1 : (burinref02_Make.j2 kj6 a0 l1 l2 x7_1 x8_1 x9_6 true) = some r := by rw [if_pos rfl] at H; exact H
           clear H
           have H := H1
           clear H1
           have H' := Aside0.mk H
           clear H
           go_wp2
           go_meet
           case rel => exact ⟨_, (true), (by first | rfl | (simp; done) | (simp [*]; done)), H', ⟨by have := HK1.out; have := HJ6.out; first | omega | exact Nat.le_refl _⟩, ⟨by (with_reducible repeat (first | apply Kd.R_alloc | apply Kd.R_drewN | apply Kd.R_drew)); exact HO_7.out⟩, ⟨by repeat (first | (with_reducible first | exact HB.out | apply below_alloc | apply pw_below_drewN | apply below_drew1) | exact HB.out)⟩⟩
          ·replace c20 := Bool.eq_false_iff.mpr c20
           subst c20
           have H1 : (if a0 = 3 then (burinref02_Make.j2 kj6 a0 l1 l2 x7_1 x8_1 x9_6 (!false)) else (burinref02_Make.j2 kj6 a0 l1 l2 x7_1 x8_1 x9_6 false)) = some r := by rw [if_neg (show ¬ (false = true) by decide)] at H; exact H
           clear H
           have H := H1
           clear H1
           by_cases c21 : a0 = 3
           ·rw [if_pos c21] at H
            have c21b0 : (a0 == 3) = true := beq_iff_eq.mpr c21
            have c21b1 : (a0 != 3) = false := bne_eq_false_iff_eq.mpr c21
            clear c21
            have H' := Aside0.mk H
            clear H
            go_wp2
            go_meet
            case rel => exact ⟨_, (!false), (by first | rfl | (simp; done) | (simp [*]; done)), H', ⟨by have := HK1.out; have := HJ6.out; first | omega | exact Nat.le_refl _⟩, ⟨by (with_reducible repeat (first | apply Kd.R_alloc | apply Kd.R_drewN | apply Kd.R_drew)); exact HO_7.out⟩, ⟨by repeat (first | (with_reducible first | exact HB.out | apply below_alloc | apply pw_below_drewN | apply below_drew1) | exact HB.out)⟩⟩
           ·rw [if_neg c21] at H
            have c21b0 : (a0 == 3) = false := beq_eq_false_iff_ne.mpr c21
            have c21b1 : (a0 != 3) = true := bne_iff_ne.mpr c21
            have H' := Aside0.mk H
            clear H
            go_wp2
            go_meet
            case rel => exact ⟨_, (false), (by first | rfl | (simp; done) | (simp [*]; done)), H', ⟨by have := HK1.out; have := HJ6.out; first | omega | exact Nat.le_refl _⟩, ⟨by (with_reducible repeat (first | apply Kd.R_alloc | apply Kd.R_drewN | apply Kd.R_drew)); exact HO_7.out⟩, ⟨by repeat (first | (with_reducible first | exact HB.out | apply below_alloc | apply pw_below_drewN | apply below_drew1) | exact HB.out)⟩⟩
         ·replace c19 := Bool.eq_false_iff.mpr c19
          subst c19
          have H1 : (if a0 = 3 then (burinref02_Make.j2 kj6 a0 l1 l2 x7_1 x8_1 x9_6 false) else (burinref02_Make.j2 kj6 a0 l1 l2 x7_1 x8_1 x9_6 false)) = some r := by rw [if_neg (show ¬ (false = true) by decide)] at H; exact H
          clear H
          have H := H1
          clear H1
          by_cases c22 : a0 = 3
          ·rw [if_pos c22] at H
           have c22b0 : (a0 == 3) = true := beq_iff_eq.mpr c22
           have c22b1 : (a0 != 3) = false := bne_eq_false_iff_eq.mpr c22
           clear c22
           have H' := Aside0.mk H
           clear H
           go_wp2
           go_meet
           case rel => exact ⟨_, (false), (by first | rfl | (simp; done) | (simp [*]; done)), H', ⟨by have := HK1.out; have := HJ6.out; first | omega | exact Nat.le_refl _⟩, ⟨by (with_reducible repeat (first | apply Kd.R_alloc | apply Kd.R_drewN | apply Kd.R_drew)); exact HO_7.out⟩, ⟨by repeat (first | (with_reducible first | exact HB.out | apply below_alloc | apply pw_below_drewN | apply below_drew1) | exact HB.out)⟩⟩
          ·rw [if_neg c22] at H
           have c22b0 : (a0 == 3) = false := beq_eq_false_iff_ne.mpr c22
           have c22b1 : (a0 != 3) = true := bne_iff_ne.mpr c22
           have H' := Aside0.mk H
           clear H
           go_wp2
           go_meet
           case rel => exact ⟨_, (false), (by first | rfl | (simp; done) | (simp [*]; done)), H', ⟨by have := HK1.out; have := HJ6.out; first | omega | exact Nat.le_refl _⟩, ⟨by (with_reducible repeat (first | apply Kd.R_alloc | apply Kd.R_drewN | apply Kd.R_drew)); exact HO_7.out⟩, ⟨by repeat (first | (with_reducible first | exact HB.out | apply below_alloc | apply pw_below_drewN | apply below_drew1) | exact HB.out)⟩⟩
        ·rw [if_neg c18] at H
         have c18b0 : (a0 == 2) = false := beq_eq_false_iff_ne.mpr c18
         have c18b1 : (a0 != 2) = true := bne_iff_ne.mpr c18
         by_cases c23 : a0 = 3
         ·rw [if_pos c23] at H
          have c23b0 : (a0 == 3) = true := beq_iff_eq.mpr c23
          have c23b1 : (a0 != 3) = false := bne_eq_false_iff_eq.mpr c23
          clear c23
          by_cases c24 : t260 = true
          ·subst c24
           have H1 : (burinref02_Make.j2 kj6 a0 l1 l2 x7_1 x8_1 x9_6 (!t261)) = some r := by rw [if_pos rfl] at H; exact H
           clear H
           have H := H1
           clear H1
           have H' := Aside0.mk H
           clear H
           go_wp2
           go_meet
           case rel => exact ⟨_, (!t261), (by first | rfl | (simp; done) | (simp [*]; done)), H', ⟨by have := HK1.out; have := HJ6.out; first | omega | exact Nat.le_refl _⟩, ⟨by (with_reducible repeat (first | apply Kd.R_alloc | apply Kd.R_drewN | apply Kd.R_drew)); exact HO_7.out⟩, ⟨by repeat (first | (with_reducible first | exact HB.out | apply below_alloc | apply pw_below_drewN | apply below_drew1) | exact HB.out)⟩⟩
          ·replace c24 := Bool.eq_false_iff.mpr c24
           subst c24
           have H1 : (burinref02_Make.j2 kj6 a0 l1 l2 x7_1 x8_1 x9_6 false) = some r := by rw [if_neg (show ¬ (false = true) by decide)] at H; exact H
           clear H
           have H := H1
           clear H1
           have H' := Aside0.mk H
           clear H
           go_wp2
           go_meet
           case rel => exact ⟨_, (false), (by first | rfl | (simp; done) | (simp [*]; done)), H', ⟨by have := HK1.out; have := HJ6.out; first | omega | exact Nat.le_refl _⟩, ⟨by (with_reducible repeat (first | apply Kd.R_alloc | apply Kd.R_drewN | apply Kd.R_drew)); exact HO_7.out⟩, ⟨by repeat (first | (with_reducible first | exact HB.out | apply below_alloc | apply pw_below_drewN | apply below_drew1) | exact HB.out)⟩⟩
         ·rw [if_neg c23] at H
          have c23b0 : (a0 == 3) = false := beq_eq_false_iff_ne.mpr c23
          have c23b1 : (a0 != 3) = true := bne_iff_ne.mpr c23
          have H' := Aside0.mk H
          clear H
          go_wp2
          go_meet
          case rel => exact ⟨_, (false), (by first | rfl | (simp; done) | (simp [*]; done)), H', ⟨by have := HK1.out; have := HJ6.out; first | omega | exact Nat.le_refl _⟩, ⟨by (with_reducible repeat (first | apply Kd.R_alloc | apply Kd.R_drewN | apply Kd.R_drew)); exact HO_7.out⟩, ⟨by repeat (first | (with_reducible first | exact HB.out | apply below_alloc | apply pw_below_drewN | apply below_drew1) | exact HB.out)⟩⟩
      case rest =>
       clear HC11
       try clear c1
       try clear c2
       try clear p2
       try clear c4
       try clear c4b0
       try clear c6
       try clear c7
       try clear c8
       try clear c8b0
       try clear c9
       try clear c12
       try clear c12b0
       try clear c12b1
       try clear c13
       try clear c14
       try clear c15
       try clear c15b0
       try clear c15b1
       try clear c16
       try clear c16b0
       try clear c16b1
       try clear c17
       try clear c17b0
       try clear c17b1
       try clear c18
       try clear c18b0
       try clear c18b1
       try clear c19
       try clear c20
       try clear c21
       try clear c21b0
       try clear c21b1
       try clear c22
       try clear c22b0
       try clear c22b1
       try clear c23
       try clear c23b0
       try clear c23b1
       try clear c24
       try clear p2
       obtain ⟨kq, x60_10, rfl, HA, HJ10, HO_7, HB⟩ := hcut
       cases kq with
       | zero => exact absurd HA.out (by simp [burinref02_Make.j2])
       | succ kj10 =>
        have H := HA.out
        clear HA
        simp only [burinref02_Make.j2] at H
        by_cases c25 : x60_10 = true
        ·subst c25
         have H1 : (if (x7_1.length : Int) > 0 then (if 0 ≤ (wrap64 ((x7_1.length : Int) - 1)) then (if (wrap64 ((x7_1.length : Int) - 1)) < (x7_1.length : Int) then (if (wrap64 (((rd_T36 x7_1 (wrap64 ((x7_1.length : Int) - 1))).f1) + 1)) = x8_1 then (burinref02_Make.l0 kj10 a0 l1 l2 (x7_1.set ((wrap64 ((x7_1.length : Int) - 1)) : Int).toNat (⟨(rd_T36 x7_1 (wrap64 ((x7_1.length : Int) - 1))).f0, wrap64 (x9_6 - 1)⟩ : S36)) x9_6) else (if x7_1.length < 8796093022208 then (burinref02_Make.l0 kj10 a0 l1 l2 (x7_1 ++ [(⟨x8_1, wrap64 (x9_6 - 1)⟩ : S36)]) x9_6) else (none))) else (none)) else (none)) else (if x7_1.length < 8796093022208 then (burinref02_Make.l0 kj10 a0 l1 l2 (x7_1 ++ [(⟨x8_1, wrap64 (x9_6 - 1)⟩ : S36)]) x9_6) else (none))) = some r := by rw [if_pos rfl] at H; exact H
         clear H
         have H := H1
         clear H1
         by_cases c26 : (x7_1.length : Int) > 0
         ·rw [if_pos c26] at H
          have c26b0 : decide (0 < (x7_1.length : Int)) = true := decide_eq_true c26
          have c26b1 : decide (0 < x7_1.length) = true := decide_eq_true (by omega)
          clear c26
          obtain ⟨ji27, hji27⟩ : ∃ j_ : Int, (wrap64 ((x7_1.length : Int) - 1)) = j_ := ⟨_, rfl⟩
          replace H : (if 0 ≤ (ji27) then (if (ji27) < (x7_1.length : Int) then (if (wrap64 (((rd_T36 x7_1 (ji27)).f1) + 1)) = x8_1 then (burinref02_Make.l0 kj10 a0 l1 l2 (x7_1.set ((ji27) : Int).toNat (⟨(rd_T36 x7_1 (ji27)).f0, wrap64 (x9_6 - 1)⟩ : S36)) x9_6) else (if x7_1.length < 8796093022208 then (burinref02_Make.l0 kj10 a0 l1 l2 (x7_1 ++ [(⟨x8_1, wrap64 (x9_6 - 1)⟩ : S36)]) x9_6) else (none))) else (none)) else (none)) = some r := by first | (rw [hji27] at H; exact H) | (simp only [hji27] at H ⊢; exact H)
          have hji27w : (IntKind.i64.wrap ((x7_1.length : Int) - 1)) = ji27 := (i64_w _).trans hji27
          by_cases c28 : 0 ≤ (ji27)
          ·rw [if_pos c28] at H
           have c28b0 : decide (0 ≤ (ji27)) = true := decide_eq_true c28
           clear c28
           by_cases c29 : (ji27) < (x7_1.length : Int)
           ·rw [if_pos c29] at H
            have c29b0 : decide ((ji27) < (x7_1.length : Int)) = true := decide_eq_true c29
            clear c29
            by_cases c30 : (wrap64 (((rd_T36 x7_1 (ji27)).f1) + 1)) = x8_1
            ·rw [if_pos c30] at H
             have c30b0 : ((wrap64 (((rd_T36 x7_1 (ji27)).f1) + 1)) == x8_1) = true := beq_iff_eq.mpr c30
             have c30b1 : ((wrap64 (((rd_T36 x7_1 (ji27)).f1) + 1)) != x8_1) = false := bne_eq_false_iff_eq.mpr c30
             clear c30
             obtain ⟨y263, hy263⟩ : ∃ y_ : List (S36), y_ = (x7_1.set ((ji27) : Int).toNat (⟨(rd_T36 x7_1 (ji27)).f0, wrap64 (x9_6 - 1)⟩ : S36)) := ⟨_, rfl⟩
             replace H : (burinref02_Make.l0 kj10 a0 l1 l2 y263 x9_6) = some r := by first | (rw [hy263]; with_reducible exact H) | (have H2_ := (Option.bind_some _ _).symm.trans H; rw [hy263]; with_reducible exact H2_) | (have H2_ := (Option.bind_some _ _).symm.trans H; with_reducible exact H2_) | with_reducible exact H | (rw [hy263]; exact H) | exact H
             have Ny263 := Aside0.mk hy263
             clear hy263
             have H' := Aside0.mk H
             clear H
             obtain ⟨Ao32, co32, eo32⟩ := Kd.R_slice HO_7.out
             subst eo32
             have p262 : 0 ≤ ((ji27) : Int) := of_decide_eq_true (by first | (with_reducible assumption) | assumption)
             have q262 : (ji27) < (x7_1.length : Int) := of_decide_eq_true (by first | (with_reducible assumption) | assumption)
             obtain ⟨ad262, e262, hx262_0, hx262_1⟩ := at_T36 (Kd.R_reads' HO_7.out).2.2 (ji27) p262 q262
             cases e262
             replace p262 := eq_true p262
             replace q262 := eq_true q262
             have p31 : 0 ≤ ((ji27) : Int) := of_decide_eq_true (by first | (with_reducible assumption) | assumption)
             have q31 : ((ji27) : Int) < ((x7_1.length : Int) : Int) := of_decide_eq_true (by first | (with_reducible assumption) | assumption)
             obtain ⟨go31, co31, eo31, gb31, gl31, cl31, HG31⟩ := Kd.R_form HO_7.out (by omega)
             (first | cases eo31 | (injection eo31 with ea_ en_ ec_; (first | subst ea_ | (injection ea_ with ea_; subst ea_)); subst ec_; clear en_))
             have GB31 := Aside0.mk gb31
             have GG31 := Aside0.mk HG31
             clear gb31 gl31 HG31
             (first | simp only [add_plain] at hx262_0 | skip)
             (first | simp only [add_plain] at hx262_1 | skip)
             obtain ⟨ce31, hcl31, hM31, hcc31, hfr31⟩ := Kd.R_elem HO_7.out z36 ((ji27) : Int) p31 q31
             obtain rfl := k36_openM hM31
             have hx31_0 : wc.cell? ⟨go31, ((ji27) : Int).toNat * 2, none⟩ = some (.int .i64 ((rd_T36 x7_1 (ji27)).f0)) := hcc31 0 _ rfl
             have hx31_1 : wc.cell? ⟨go31, ((ji27) : Int).toNat * 2 + 1, none⟩ = some (.int .i64 ((rd_T36 x7_1 (ji27)).f1)) := hcc31 1 _ rfl
             have hf31_0 : wc.frozen? ⟨go31, ((ji27) : Int).toNat * 2, none⟩ = false := hfr31 0
             have hf31_1 : wc.frozen? ⟨go31, ((ji27) : Int).toNat * 2 + 1, none⟩ = false := hfr31 1
             clear hcl31 hcc31 hfr31 hM31
             replace p31 := eq_true p31
             replace q31 := eq_true q31
             have HX33 := Aside0.mk (show Kd.R k36 36 wc w.heap.size (fun _ => True) (.slice (some ⟨go31, 0, none⟩) x7_1.length co32) x7_1 from (by (with_reducible repeat (first | apply Kd.R_alloc | apply Kd.R_drewN | apply Kd.R_drew)); exact HO_7.out))
             obtain ⟨ce33, hcl33, hM33, hcc33, hfr33⟩ := Kd.R_elem HX33.out z36 ((ji27) : Int) (of_decide_eq_true (by first | (with_reducible assumption) | assumption)) (by have h_ : ((ji27) : Int) < ((x7_1.length : Int) : Int) := of_decide_eq_true (by first | (with_reducible assumption) | assumption); first | exact h_ | (have e_ := (Kd.R_reads' HO_7.out).1; omega) | simpa using h_)
             obtain rfl := k36_openM hM33
             have HP33 := Kd.R_seg HX33.out ((ji27) : Int) (of_decide_eq_true (by first | (with_reducible assumption) | assumption)) (by have h_ : ((ji27) : Int) < ((x7_1.length : Int) : Int) := of_decide_eq_true (by first | (with_reducible assumption) | assumption); first | exact h_ | (have e_ := (Kd.R_reads' HO_7.out).1; omega) | simpa using h_) (seg := [.int .i64 (wrap64 (x9_6 - 1))]) (j := 1) hcl33 hcc33 (show 2 ≤ 2 from by decide) (x' := (⟨(rd_T36 x7_1 (ji27)).f0, wrap64 (x9_6 - 1)⟩ : S36)) (k36_mkM _ _ _ (⟨(rd_T36 x7_1 (ji27)).f0, wrap64 (x9_6 - 1)⟩ : S36) ) (fun _ hk => hk)
             have hx33_1 := hcc33 1 _ rfl
             (try simp only [show (k36).sz = 2 from rfl, Nat.mul_one, Nat.add_zero] at hx33_1)
             have hf33_1 := hfr33 1
             (try simp only [show (k36).sz = 2 from rfl, Nat.mul_one, Nat.add_zero] at hf33_1)
             clear hcl33 hcc33 hfr33 hM33
             go_wp2_with (first | ((with_reducible refine gate_store (t := 3) (p := 82) rfl ?_); refine store_event (t := 3) (p := 82) (v := ?vo_w34) (w1 := (wc.setCell ⟨go31, ((ji27) : Int).toNat * 2 + 1, none⟩ (.int .i64 (wrap64 (x9_6 - 1))))) ?hg ?ho ?hn ?hr ?_; (case ho => rfl); (case hg => rfl); (case hn => rfl); (case hr => first | (go_simp; done) | (go_simp; rfl)); intro w34 hw; have hg : wc.grownBy w34 (some go31) := (by rw [hw]; exact HP33.2); have hp_ : Kd.R k36 36 w34 w.heap.size (fun _ => True) (.slice (some ⟨go31, 0, none⟩) x7_1.length co32) y263 := (by rw [hw, Ny263.out]; exact HP33.1); clear HP33; have n0_ := Aside0.mk (hp_); have n1_ := Aside0.mk ((by rw [hw]; exact below_set (HB.out) GB31.out : Below w.heap.size w w34)); clear HO_7; clear HB; have HO_7 := n0_; have HB := n1_; clear n0_ n1_; clear hg hw hp_))
             go_roundg kj10
             case measure => have := HK1.out; have := HJ6.out; have := HJ10.out; omega
             case rel => exact ⟨(y263), (x9_6), (by first | rfl | (simp; done) | (simp [*]; done)), H', ⟨by have := HK1.out; have := HJ6.out; have := HJ10.out; omega⟩, ⟨by (with_reducible repeat (first | apply Kd.R_alloc | apply Kd.R_drewN | apply Kd.R_drew)); exact HO_7.out⟩, ⟨by repeat (first | (with_reducible first | exact HB.out | apply below_alloc | apply pw_below_drewN | apply below_drew1) | exact HB.out)⟩⟩
            ·rw [if_neg c30] at H
             have c30b0 : ((wrap64 (((rd_T36 x7_1 (ji27)).f1) + 1)) == x8_1) = false := beq_eq_false_iff_ne.mpr c30
             have c30b1 : ((wrap64 (((rd_T36 x7_1 (ji27)).f1) + 1)) != x8_1) = true := bne_iff_ne.mpr c30
             by_cases c35 : x7_1.length < 8796093022208
             ·rw [if_pos c35] at H
              have LMc35 := Aside0.mk c35
              clear c35
              obtain ⟨y264, hy264⟩ : ∃ y_ : List (S36), y_ = (x7_1 ++ [(⟨x8_1, wrap64 (x9_6 - 1)⟩ : S36)]) := ⟨_, rfl⟩
              replace H : (burinref02_Make.l0 kj10 a0 l1 l2 y264 x9_6) = some r := by first | (rw [hy264]; with_reducible exact H) | (have H2_ := (Option.bind_some _ _).symm.trans H; rw [hy264]; with_reducible exact H2_) | (have H2_ := (Option.bind_some _ _).symm.trans H; with_reducible exact H2_) | with_reducible exact H | (rw [hy264]; exact H) | exact H
              have Ny264 := Aside0.mk hy264
              clear hy264
              have H' := Aside0.mk H
              clear H
              obtain ⟨Ao36, co36, eo36⟩ := Kd.R_slice HO_7.out
              subst eo36
              have p262 : 0 ≤ ((ji27) : Int) := of_decide_eq_true (by first | (with_reducible assumption) | assumption)
              have q262 : (ji27) < (x7_1.length : Int) := of_decide_eq_true (by first | (with_reducible assumption) | assumption)
              obtain ⟨ad262, e262, hx262_0, hx262_1⟩ := at_T36 (Kd.R_reads' HO_7.out).2.2 (ji27) p262 q262
              cases e262
              replace p262 := eq_true p262
              replace q262 := eq_true q262
              go_wp2_with (first | ((with_reducible refine gate_builtin (b := .append) (xs := #[.tmp 83, .tmp 88]) rfl ?_); at_builtin; refine Kd.R_append k36 (w0 := w) w.heap.size rfl (.tmp 83) (.tmp 88) 26 36 (.agg #[(.int .i64 0), (.int .i64 0)]) 16 rfl Tryz.underlying26 info36 rfl (by decide) (by omega) (.slice (some ad262) x7_1.length co36) x7_1 (⟨x8_1, wrap64 (x9_6 - 1)⟩ : S36) [.int .i64 x8_1, .int .i64 (wrap64 (x9_6 - 1))] (fun _ => True) (fun _ => False) rfl rfl ?aP (fun _ hk => hk.elim) ?aF ?aO ?aB ?aS ?aL ?_; (case aP => exact k36_mkM _ _ _ (⟨x8_1, wrap64 (x9_6 - 1)⟩ : S36)); (case aB => exact (by repeat (first | (with_reducible first | exact HB.out | apply below_alloc | apply pw_below_drewN | apply below_drew1) | exact HB.out))); (case aF => exact (fun _ _ => trivial)); (case aO => exact (by (with_reducible repeat (first | apply Kd.R_alloc | apply Kd.R_drewN | apply Kd.R_drew)); exact HO_7.out)); (case aS => exact (below_size (by repeat (first | (with_reducible first | exact HB.out | apply below_alloc | apply pw_below_drewN | apply below_drew1) | exact HB.out)))); (case aL => have := LMc35.out; omega); intro v265 w37 ho hb hg hat; rw [← Ny264.out] at ho; have n0_ := Aside0.mk (hb); have n1_ := Aside0.mk (ho); clear HB; clear HO_7; have HB := n0_; have HO266 := n1_; clear n0_ n1_; clear ho hb hg hat))
              go_roundg kj10
              case measure => have := HK1.out; have := HJ6.out; have := HJ10.out; omega
              case rel => exact ⟨(y264), (x9_6), (by first | rfl | (simp; done) | (simp [*]; done)), H', ⟨by have := HK1.out; have := HJ6.out; have := HJ10.out; omega⟩, ⟨by (with_reducible repeat (first | apply Kd.R_alloc | apply Kd.R_drewN | apply Kd.R_drew)); exact HO266.out⟩, ⟨by repeat (first | (with_reducible first | exact HB.out | apply below_alloc | apply pw_below_drewN | apply below_drew1) | exact HB.out)⟩⟩
             ·rw [if_neg c35] at H
              exact absurd H (by simp)
           ·rw [if_neg c29] at H
            exact absurd H (by simp)
          ·rw [if_neg c28] at H
           exact absurd H (by simp)
         ·rw [if_neg c26] at H
          have c26b0 : decide (0 < (x7_1.length : Int)) = false := decide_eq_false c26
          have c26b1 : decide (0 < x7_1.length) = false := decide_eq_false (by omega)
          clear c26
          by_cases c38 : x7_1.length < 8796093022208
          ·rw [if_pos c38] at H
           have LMc38 := Aside0.mk c38
           clear c38
           obtain ⟨y267, hy267⟩ : ∃ y_ : List (S36), y_ = (x7_1 ++ [(⟨x8_1, wrap64 (x9_6 - 1)⟩ : S36)]) := ⟨_, rfl⟩
           replace H : (burinref02_Make.l0 kj10 a0 l1 l2 y267 x9_6) = some r := by first | (rw [hy267]; with_reducible exact H) | (have H2_ := (Option.bind_some _ _).symm.trans H; rw [hy267]; with_reducible exact H2_) | (have H2_ := (Option.bind_some _ _).symm.trans H; with_reducible exact H2_) | with_reducible exact H | (rw [hy267]; exact H) | exact H
           have Ny267 := Aside0.mk hy267
           clear hy267
           have H' := Aside0.mk H
           clear H
           obtain ⟨Ao39, co39, eo39⟩ := Kd.R_slice HO_7.out
           subst eo39
           go_wp2_with (first | ((with_reducible refine gate_builtin (b := .append) (xs := #[.tmp 83, .tmp 88]) rfl ?_); at_builtin; refine Kd.R_append k36 (w0 := w) w.heap.size rfl (.tmp 83) (.tmp 88) 26 36 (.agg #[(.int .i64 0), (.int .i64 0)]) 16 rfl Tryz.underlying26 info36 rfl (by decide) (by omega) (.slice Ao39 x7_1.length co39) x7_1 (⟨x8_1, wrap64 (x9_6 - 1)⟩ : S36) [.int .i64 x8_1, .int .i64 (wrap64 (x9_6 - 1))] (fun _ => True) (fun _ => False) rfl rfl ?aP (fun _ hk => hk.elim) ?aF ?aO ?aB ?aS ?aL ?_; (case aP => exact k36_mkM _ _ _ (⟨x8_1, wrap64 (x9_6 - 1)⟩ : S36)); (case aB => exact (by repeat (first | (with_reducible first | exact HB.out | apply below_alloc | apply pw_below_drewN | apply below_drew1) | exact HB.out))); (case aF => exact (fun _ _ => trivial)); (case aO => exact (by (with_reducible repeat (first | apply Kd.R_alloc | apply Kd.R_drewN | apply Kd.R_drew)); exact HO_7.out)); (case aS => exact (below_size (by repeat (first | (with_reducible first | exact HB.out | apply below_alloc | apply pw_below_drewN | apply below_drew1) | exact HB.out)))); (case aL => have := LMc38.out; omega); intro v268 w40 ho hb hg hat; rw [← Ny267.out] at ho; have n0_ := Aside0.mk (hb); have n1_ := Aside0.mk (ho); clear HB; clear HO_7; have HB := n0_; have HO269 := n1_; clear n0_ n1_; clear ho hb hg hat))
           go_roundg kj10
           case measure => have := HK1.out; have := HJ6.out; have := HJ10.out; omega
           case rel => exact ⟨(y267), (x9_6), (by first | rfl | (simp; done) | (simp [*]; done)), H', ⟨by have := HK1.out; have := HJ6.out; have := HJ10.out; omega⟩, ⟨by (with_reducible repeat (first | apply Kd.R_alloc | apply Kd.R_drewN | apply Kd.R_drew)); exact HO269.out⟩, ⟨by repeat (first | (with_reducible first | exact HB.out | apply below_alloc | apply pw_below_drewN | apply below_drew1) | exact HB.out)⟩⟩
          ·rw [if_neg c38] at H
           exact absurd H (by simp)
        ·replace c25 := Bool.eq_false_iff.mpr c25
         subst c25
         have H1 : (burinref02_Make.l0 kj10 a0 l1 l2 x7_1 x9_6) = some r := by rw [if_neg (show ¬ (false = true) by decide)] at H; exact H
         clear H
         have H := H1
         clear H1
         have H' := Aside0.mk H
         clear H
         go_wp2
         go_roundg kj10
         case measure => have := HK1.out; have := HJ6.out; have := HJ10.out; omega
         case rel => exact ⟨(x7_1), (x9_6), (by first | rfl | (simp; done) | (simp [*]; done)), H', ⟨by have := HK1.out; have := HJ6.out; have := HJ10.out; omega⟩, ⟨by (with_reducible repeat (first | apply Kd.R_alloc | apply Kd.R_drewN | apply Kd.R_drew)); exact HO_7.out⟩, ⟨by repeat (first | (with_reducible first | exact HB.out | apply below_alloc | apply pw_below_drewN | apply below_drew1) | exact HB.out)⟩⟩
   ·rw [if_neg c4] at H
    have c4b0 : decide (x8_1 ≤ 1114111) = false := decide_eq_false c4
    clear c4
    obtain rfl := Option.some.inj H
    go_wp2
    go_ret
    exact ⟨_, by first | rfl | (simp [errW_none, errW_some] <;> rfl) | (simp [*, errW_none, errW_some] <;> rfl), by (with_reducible repeat (first | apply Kd.R_alloc | apply Kd.R_drewN | apply Kd.R_drew)); exact HO_7.out, by repeat (first | (with_reducible first | exact HB.out | apply below_alloc | apply pw_below_drewN | apply below_drew1) | exact HB.out)⟩
def burinref02_All.f  : Option ((List (S36))) := some (([(⟨0, 1114111⟩ : S36)] : List (S36)))
set_option maxHeartbeats 8000000 in
set_option maxRecDepth 100000 in
theorem burinref02_All.calls  (r : List (S36)) (w : World) (h : burinref02_All.f  = some r) :
  Calls Tryz.prog 65 #[] w fun e w' => ∃ v0_ : Value, e = .returned (v0_) ∧ Kd.R k36 36 w' w.heap.size (fun _ => True) v0_ r ∧ Below w.heap.size w w' := by
 have hu36 := Tryz.underlying36
 have HB := Aside0.mk (Below.refl w.heap.size w)
 have H : (some (([(⟨0, 1114111⟩ : S36)] : List (S36)))) = some r := h
 clear h
 obtain ⟨y270, hy270⟩ : ∃ y_ : List (S36), y_ = (([(⟨0, 1114111⟩ : S36)] : List (S36))) := ⟨_, rfl⟩
 replace H : (some y270) = some r := by first | (rw [hy270]; with_reducible exact H) | (have H2_ := (Option.bind_some _ _).symm.trans H; rw [hy270]; with_reducible exact H2_) | (have H2_ := (Option.bind_some _ _).symm.trans H; with_reducible exact H2_) | with_reducible exact H | (rw [hy270]; exact H) | exact H
 have Ny270 := Aside0.mk hy270
 clear hy270
 obtain rfl := Option.some.inj H
 go_enter Tryz.func65, Tryz.ntmps65
 go_wp2_with (first | ((with_reducible refine gate_dst (N := 2) rfl ?_); refine Kd.R_lit k36 _ 36 ?hg (N := 2) ?hd (xs := ([(⟨0, 1114111⟩ : S36)] : List (S36))) (inner := [.int .i64 0, .int .i64 1114111]) (ok := fun _ => True) (okp := fun _ => True) ?hr ?hp (fun _ hk => hk) trivial (Below.refl _ _) (Nat.le_refl _) (by simp) ?_; (case hd => rfl); (case hg => rfl); (case hr => first | (go_simp; done) | (go_simp; rfl)); (case hp => exact (Reps.c2 (show Kd.M k36 _ _ _ (⟨0, 1114111⟩ : S36) [.int .i64 0, .int .i64 1114111] from (k36_mkM _ _ _ (⟨0, 1114111⟩ : S36) )) (Reps.none _ _))); intro v271 w1 ho2 hb hg_ hnew_; clear hg_ hnew_; (first | rw [← Ny270.out] at ho2 | (simp only [Int.reduceToNat] at ho2; rw [← Ny270.out] at ho2)); have n0_ := Aside0.mk (Kd.R_lower ho2 (below_size (by repeat (first | (with_reducible first | exact HB.out | apply below_alloc | apply pw_below_drewN | apply below_drew1) | exact HB.out)))); have n1_ := Aside0.mk (below_step (by repeat (first | (with_reducible first | exact HB.out | apply below_alloc | apply pw_below_drewN | apply below_drew1) | exact HB.out)) hb); clear HB; have HO272 := n0_; have HB := n1_; clear n0_ n1_; clear hb ho2))
 go_ret
 exact ⟨_, by first | rfl | (simp [errW_none, errW_some] <;> rfl) | (simp [*, errW_none, errW_some] <;> rfl), by (with_reducible repeat (first | apply Kd.R_alloc | apply Kd.R_drewN | apply Kd.R_drew)); exact HO272.out, by repeat (first | (with_reducible first | exact HB.out | apply below_alloc | apply pw_below_drewN | apply below_drew1) | exact HB.out)⟩
def burinref02_Not.f (k : Nat) (l0 : List (S36)) : Option ((List (S36))) := (burinref02_All.f).bind fun t273 => ((burinref02_Make.f k 3 t273 l0).bind fun t276 => (some t276))
theorem burinref02_Not.mono : ∀ a0 k, LeO (burinref02_Not.f k a0) (burinref02_Not.f (k + 1) a0) := by
 intro a0 k
 unfold burinref02_Not.f
 repeat' first
   | (with_reducible exact burinref02_Make.mono _ _ _ _)
   | (with_reducible exact LeO.refl _)
   | (with_reducible exact LeO.none _)
   | (with_reducible refine LeO.ite ?_ ?_)
   | (with_reducible refine LeO.bind ?_ (fun _ => ?_))
   | exact burinref02_Make.mono _ _ _ _
   | exact LeO.none _
   | refine LeO.ite ?_ ?_
   | refine LeO.bind ?_ (fun _ => ?_)
set_option maxHeartbeats 8000000 in
set_option maxRecDepth 100000 in
theorem burinref02_Not.calls (k : Nat) (A0 : Option Addr) (c0 : Nat) (l0 : List (S36)) (r : List (S36)) (w : World) (hr0 : Kd.C k36 w A0 l0.length l0) (hc0 : l0.length ≤ c0) (h : burinref02_Not.f k l0 = some r) :
  Calls Tryz.prog 34 #[.slice A0 l0.length c0] w fun e w' => ∃ v0_ : Value, e = .returned (v0_) ∧ Kd.R k36 36 w' w.heap.size (fun _ => True) v0_ r ∧ Below w.heap.size w w' := by
 have HR0 := Aside0.mk hr0
 have HC0 := Aside0.mk hc0
 clear hr0 hc0
 have HB := Aside0.mk (Below.refl w.heap.size w)
 have H : ((burinref02_All.f).bind fun t273 => ((burinref02_Make.f k 3 t273 l0).bind fun t276 => (some t276))) = some r := h
 clear h
 replace H := Option.bind_eq_some_iff.mp H
 obtain ⟨t273, A20, H⟩ := H
 replace H : ((burinref02_Make.f k 3 t273 l0).bind fun t276 => (some t276)) = some r := H
 have A2 := Aside0.mk A20
 clear A20
 replace H := Option.bind_eq_some_iff.mp H
 obtain ⟨t276, A30, H⟩ := H
 replace H : (some t276) = some r := H
 have A3 := Aside0.mk A30
 clear A30
 obtain rfl := Option.some.inj H
 go_enter Tryz.func34, Tryz.ntmps34
 go_wp2_with (first | ((with_reducible refine gate_callee (f := 65) rfl ?_); refine goesL_ (some 3) rfl rfl Tryz.func65 (by kernel_rfl) rfl #[] rfl (by (try simp only [List.map_toArray, List.map_cons, List.map_nil]); first | done | rfl | (simp only [List.length_drop, List.length_take]; rfl)) ?_; (with_reducible refine (burinref02_All.calls  t273 _ A2.out).mono ?_); rintro e w4 ⟨v274, rfl, ho0, hb⟩; refine ⟨_, rfl, ?_⟩; have n0_ := Aside0.mk (Kd.R_lower ho0 (below_size (by repeat (first | (with_reducible first | exact HB.out | apply below_alloc | apply pw_below_drewN | apply below_drew1) | exact HB.out)))); have n1_ := Aside0.mk (below_step (by repeat (first | (with_reducible first | exact HB.out | apply below_alloc | apply pw_below_drewN | apply below_drew1) | exact HB.out)) hb); clear HB; have HO275 := n0_; have HB := n1_; clear n0_ n1_; (try clear hb); (try clear hb2); (try clear hk); (try clear hi); (try clear ho0); obtain ⟨Ao5, co5, eo5⟩ := Kd.R_slice HO275.out; subst eo5) | ((with_reducible refine gate_callee (f := 64) rfl ?_); refine goesL_ (some 5) rfl rfl Tryz.func64 (by kernel_rfl) rfl #[.int .i64 3, .slice Ao5 t273.length co5, .slice A0 l0.length c0] rfl (by (try simp only [List.map_toArray, List.map_cons, List.map_nil]); first | done | rfl | (simp only [List.length_drop, List.length_take]; rfl)) ?_; (with_reducible refine (burinref02_Make.calls k 3 _ _ t273 _ _ l0 t276 _ ?side1 ?side2 ?side3 ?side4 A3.out).mono ?_); (case side1 => repeat (first | exact (Kd.R_reads' HO275.out).2.2 | (with_reducible refine Kd.C_alloc ?_ _) | (with_reducible refine Kd.C_drewN ?_ _) | (with_reducible refine Kd.C_drew ?_))); (case side2 => exact (Kd.R_reads' HO275.out).2.1); (case side3 => repeat (first | exact (Kd.C_below HR0.out HB.out) | (with_reducible refine Kd.C_alloc ?_ _) | (with_reducible refine Kd.C_drewN ?_ _) | (with_reducible refine Kd.C_drew ?_))); (case side4 => exact HC0.out); rintro e w6 ⟨v277, rfl, ho0, hb⟩; refine ⟨_, rfl, ?_⟩; have n0_ := Aside0.mk (Kd.R_elder' (by (with_reducible repeat (first | apply Kd.R_alloc | apply Kd.R_drewN | apply Kd.R_drew)); exact HO275.out) (Kd.R_base ho0) hb); have n1_ := Aside0.mk (Kd.R_lower (Kd.R_new' ho0 (Kd.R_lt (by (with_reducible repeat (first | apply Kd.R_alloc | apply Kd.R_drewN | apply Kd.R_drew)); exact HO275.out))) (below_size (by repeat (first | (with_reducible first | exact HB.out | apply below_alloc | apply pw_below_drewN | apply below_drew1) | exact HB.out)))); have n2_ := Aside0.mk (below_step (by repeat (first | (with_reducible first | exact HB.out | apply below_alloc | apply pw_below_drewN | apply below_drew1) | exact HB.out)) hb); clear HO275; clear HB; have HO275 := n0_; have HO278 := n1_; have HB := n2_; clear n0_ n1_ n2_; (try clear hb); (try clear hb2); (try clear hk); (try clear hi); (try clear ho0)))
 go_ret
 exact ⟨_, by first | rfl | (simp [errW_none, errW_some] <;> rfl) | (simp [*, errW_none, errW_some] <;> rfl), by (with_reducible repeat (first | apply Kd.R_alloc | apply Kd.R_drewN | apply Kd.R_drew)); exact Kd.R_mono HO278.out (fun _ hk => trivial), by repeat (first | (with_reducible first | exact HB.out | apply below_alloc | apply pw_below_drewN | apply below_drew1) | exact HB.out)⟩
def burinref02_Norm.f (k : Nat) (l0 : List (S36)) : Option ((List (S36))) := (burinref02_Make.f k 1 l0 ([] : List (S36))).bind fun t279 => (some t279)
theorem burinref02_Norm.mono : ∀ a0 k, LeO (burinref02_Norm.f k a0) (burinref02_Norm.f (k + 1) a0) := by
 intro a0 k
 unfold burinref02_Norm.f
 repeat' first
   | (with_reducible exact burinref02_Make.mono _ _ _ _)
   | (with_reducible exact LeO.refl _)
   | (with_reducible exact LeO.none _)
   | (with_reducible refine LeO.ite ?_ ?_)
   | (with_reducible refine LeO.bind ?_ (fun _ => ?_))
   | exact burinref02_Make.mono _ _ _ _
   | exact LeO.none _
   | refine LeO.ite ?_ ?_
   | refine LeO.bind ?_ (fun _ => ?_)
set_option maxHeartbeats 8000000 in
set_option maxRecDepth 100000 in
theorem burinref02_Norm.calls (k : Nat) (A0 : Option Addr) (c0 : Nat) (l0 : List (S36)) (r : List (S36)) (w : World) (hr0 : Kd.C k36 w A0 l0.length l0) (hc0 : l0.length ≤ c0) (h : burinref02_Norm.f k l0 = some r) :
  Calls Tryz.prog 38 #[.slice A0 l0.length c0] w fun e w' => ∃ v0_ : Value, e = .returned (v0_) ∧ Kd.R k36 36 w' w.heap.size (fun _ => True) v0_ r ∧ Below w.heap.size w w' := by
 have HR0 := Aside0.mk hr0
 have HC0 := Aside0.mk hc0
 clear hr0 hc0
 have HB := Aside0.mk (Below.refl w.heap.size w)
 have H : ((burinref02_Make.f k 1 l0 ([] : List (S36))).bind fun t279 => (some t279)) = some r := h
 clear h
 replace H := Option.bind_eq_some_iff.mp H
 obtain ⟨t279, A20, H⟩ := H
 replace H : (some t279) = some r := H
 have A2 := Aside0.mk A20
 clear A20
 obtain rfl := Option.some.inj H
 go_enter Tryz.func38, Tryz.ntmps38
 go_wp2_with (first | ((with_reducible refine gate_callee (f := 64) rfl ?_); refine goesL_ (some 4) rfl rfl Tryz.func64 (by kernel_rfl) rfl #[.int .i64 1, .slice A0 l0.length c0, .slice none 0 0] rfl (by (try simp only [List.map_toArray, List.map_cons, List.map_nil]); first | done | rfl | (simp only [List.length_drop, List.length_take]; rfl)) ?_; (refine (burinref02_Make.calls k 1 _ _ l0 _ _ ([] : List (S36)) t279 _ ?side1 ?side2 ?side3 ?side4 A2.out).mono ?_); (case side1 => repeat (first | exact HR0.out | (with_reducible refine Kd.C_alloc ?_ _) | (with_reducible refine Kd.C_drewN ?_ _) | (with_reducible refine Kd.C_drew ?_))); (case side2 => exact HC0.out); (case side3 => exact Kd.C_nil _ _); (case side4 => exact Nat.le_refl _); rintro e w3 ⟨v280, rfl, ho0, hb⟩; refine ⟨_, rfl, ?_⟩; have n0_ := Aside0.mk (Kd.R_lower ho0 (below_size (by repeat (first | (with_reducible first | exact HB.out | apply below_alloc | apply pw_below_drewN | apply below_drew1) | exact HB.out)))); have n1_ := Aside0.mk (below_step (by repeat (first | (with_reducible first | exact HB.out | apply below_alloc | apply pw_below_drewN | apply below_drew1) | exact HB.out)) hb); clear HB; have HO281 := n0_; have HB := n1_; clear n0_ n1_; (try clear hb); (try clear hb2); (try clear hk); (try clear hi); (try clear ho0)))
 go_ret
 exact ⟨_, by first | rfl | (simp [errW_none, errW_some] <;> rfl) | (simp [*, errW_none, errW_some] <;> rfl), by (with_reducible repeat (first | apply Kd.R_alloc | apply Kd.R_drewN | apply Kd.R_drew)); exact HO281.out, by repeat (first | (with_reducible first | exact HB.out | apply below_alloc | apply pw_below_drewN | apply below_drew1) | exact HB.out)⟩
end Go.Proofs.YtheheijhijeljaaGreatDoor.HBracketEscapes

