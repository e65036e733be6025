-- Made by wip/hyb (a program of this session over the kit's print); its parts marked 'own text' are typed by hand.
import Derived.Test.YtheheijhijeljaaGreatDoorHBracketWritesx0
import Derived.Test.YtheheijhijeljaaGreatDoorHBracketWritesx2
import Derived.Test.YtheheijhijeljaaGreatDoorHBracketWritesx4
import Derived.Test.YtheheijhijeljaaGreatDoorHBracketWritesx5
import Derived.Test.YtheheijhijeljaaGreatDoorHBracketWritesx6
namespace Go.Proofs.YtheheijhijeljaaGreatDoor.HBracketWrites
open Go.RowKit Go.Proofs.YtheheijhijeljaaGreatDoorW.PrintWords Go.Proofs.YtheheijhijeljaaGreatDoorW.PrintLast Go.Proofs.YtheheijhijeljaaGreatDoorW.PrintMore
attribute [local go_sem] max2_int min2_int max_two min_two max_three min_three max_four min_four   -- for this text's walks alone
set_option linter.unusedVariables false
set_option linter.unusedSimpArgs false
mutual
def bracket_Set.j0 : Nat → ByteArray → Bool → Option ((List (S36)) × Int × Int)
 | 0, _, _ => none
 | k + 1, x0, x5 => if x5 = true then (some (([] : List (S36)), 0, 3)) else (if (x0.size : Int) = 1 then (some (([] : List (S36)), 0, 5)) else (if 1 < (x0.size : Int) then (if (bt x0 1) = 100 then (bracket_Set.j1 k x0 (bt x0 1) ((bt x0 1) == 100)) else (if (bt x0 1) = 115 then (bracket_Set.j1 k x0 (bt x0 1) ((bt x0 1) == 115)) else (bracket_Set.j1 k x0 (bt x0 1) ((bt x0 1) == 119)))) else (none)))
def bracket_Set.j1 : Nat → ByteArray → Int → Bool → Option ((List (S36)) × Int × Int)
 | 0, _, _, _ => none
 | k + 1, x0, x18, x19 => if x19 = true then (if 1 < (x0.size : Int) then ((class_Letter.f k (bt x0 1)).bind fun bt185 => (some (bt185.1, 2, bt185.2))) else (none)) else (if x18 = 68 then (bracket_Set.j2 k x0 x18 (x18 == 68)) else (if x18 = 83 then (bracket_Set.j2 k x0 x18 (x18 == 83)) else (bracket_Set.j2 k x0 x18 (x18 == 87))))
def bracket_Set.j2 : Nat → ByteArray → Int → Bool → Option ((List (S36)) × Int × Int)
 | 0, _, _, _ => none
 | k + 1, x0, x18, x23 => if x23 = true then (if 1 < (x0.size : Int) then ((class_Letter.f k (bt x0 1)).bind fun bt189 => (some (bt189.1, 2, bt189.2))) else (none)) else (if x18 = 112 then (bracket_Set.j3 k x0 (x18 == 112)) else (bracket_Set.j3 k x0 (x18 == 80)))
def bracket_Set.j3 : Nat → ByteArray → Bool → Option ((List (S36)) × Int × Int)
 | 0, _, _ => none
 | k + 1, x0, x27 => if x27 = true then ((bracket_property.f k x0).bind fun bt193 => (some (bt193.1, bt193.2.1, bt193.2.2))) else (some (([] : List (S36)), 0, 5))
end
def bracket_Set.f (k : Nat) (a0 : ByteArray) : Option ((List (S36)) × Int × Int) := if a0.toList = ([] : List UInt8) then (bracket_Set.j0 k a0 true) else (if 0 < (a0.size : Int) then (bracket_Set.j0 k a0 ((bt a0 0) != 92)) else (none))
theorem bracket_Set.mono_l : ∀ k, (∀ y0 y1, LeO (bracket_Set.j0 k y0 y1) (bracket_Set.j0 (k + 1) y0 y1)) ∧ (∀ y0 y1 y2, LeO (bracket_Set.j1 k y0 y1 y2) (bracket_Set.j1 (k + 1) y0 y1 y2)) ∧ (∀ y0 y1 y2, LeO (bracket_Set.j2 k y0 y1 y2) (bracket_Set.j2 (k + 1) y0 y1 y2)) ∧ (∀ y0 y1, LeO (bracket_Set.j3 k y0 y1) (bracket_Set.j3 (k + 1) y0 y1))
 | 0 => ⟨fun _ _ r h => by simp [bracket_Set.j0] at h, fun _ _ _ r h => by simp [bracket_Set.j1] at h, fun _ _ _ r h => by simp [bracket_Set.j2] at h, fun _ _ r h => by simp [bracket_Set.j3] at h⟩
 | k + 1 => by
  obtain ⟨ih0, ih1, ih2, ih3⟩ := bracket_Set.mono_l k
  refine ⟨?_, ?_, ?_, ?_⟩
  ·intro y0 y1
   unfold bracket_Set.j0
   repeat' first
   | (with_reducible exact ih0 _ _)
   | (with_reducible exact ih1 _ _ _)
   | (with_reducible exact ih2 _ _ _)
   | (with_reducible exact ih3 _ _)
   | (with_reducible exact bracket_property.mono _ _)
   | (with_reducible exact class_Letter.mono _ _)
   | (with_reducible exact LeO.refl _)
   | (with_reducible exact LeO.none _)
   | (with_reducible refine LeO.ite ?_ ?_)
   | (with_reducible refine LeO.bind ?_ (fun _ => ?_))
   | exact ih0 _ _
   | exact ih1 _ _ _
   | exact ih2 _ _ _
   | exact ih3 _ _
   | exact bracket_property.mono _ _
   | exact class_Letter.mono _ _
   | exact LeO.none _
   | refine LeO.ite ?_ ?_
   | refine LeO.bind ?_ (fun _ => ?_)
  ·intro y0 y1 y2
   unfold bracket_Set.j1
   repeat' first
   | (with_reducible exact ih0 _ _)
   | (with_reducible exact ih1 _ _ _)
   | (with_reducible exact ih2 _ _ _)
   | (with_reducible exact ih3 _ _)
   | (with_reducible exact bracket_property.mono _ _)
   | (with_reducible exact class_Letter.mono _ _)
   | (with_reducible exact LeO.refl _)
   | (with_reducible exact LeO.none _)
   | (with_reducible refine LeO.ite ?_ ?_)
   | (with_reducible refine LeO.bind ?_ (fun _ => ?_))
   | exact ih0 _ _
   | exact ih1 _ _ _
   | exact ih2 _ _ _
   | exact ih3 _ _
   | exact bracket_property.mono _ _
   | exact class_Letter.mono _ _
   | exact LeO.none _
   | refine LeO.ite ?_ ?_
   | refine LeO.bind ?_ (fun _ => ?_)
  ·intro y0 y1 y2
   unfold bracket_Set.j2
   repeat' first
   | (with_reducible exact ih0 _ _)
   | (with_reducible exact ih1 _ _ _)
   | (with_reducible exact ih2 _ _ _)
   | (with_reducible exact ih3 _ _)
   | (with_reducible exact bracket_property.mono _ _)
   | (with_reducible exact class_Letter.mono _ _)
   | (with_reducible exact LeO.refl _)
   | (with_reducible exact LeO.none _)
   | (with_reducible refine LeO.ite ?_ ?_)
   | (with_reducible refine LeO.bind ?_ (fun _ => ?_))
   | exact ih0 _ _
   | exact ih1 _ _ _
   | exact ih2 _ _ _
   | exact ih3 _ _
   | exact bracket_property.mono _ _
   | exact class_Letter.mono _ _
   | exact LeO.none _
   | refine LeO.ite ?_ ?_
   | refine LeO.bind ?_ (fun _ => ?_)
  ·intro y0 y1
   unfold bracket_Set.j3
   repeat' first
   | (with_reducible exact ih0 _ _)
   | (with_reducible exact ih1 _ _ _)
   | (with_reducible exact ih2 _ _ _)
   | (with_reducible exact ih3 _ _)
   | (with_reducible exact bracket_property.mono _ _)
   | (with_reducible exact class_Letter.mono _ _)
   | (with_reducible exact LeO.refl _)
   | (with_reducible exact LeO.none _)
   | (with_reducible refine LeO.ite ?_ ?_)
   | (with_reducible refine LeO.bind ?_ (fun _ => ?_))
   | exact ih0 _ _
   | exact ih1 _ _ _
   | exact ih2 _ _ _
   | exact ih3 _ _
   | exact bracket_property.mono _ _
   | exact class_Letter.mono _ _
   | exact LeO.none _
   | refine LeO.ite ?_ ?_
   | refine LeO.bind ?_ (fun _ => ?_)
theorem bracket_Set.mono : ∀ a0 k, LeO (bracket_Set.f k a0) (bracket_Set.f (k + 1) a0) := by
 intro a0 k
 obtain ⟨ih0, ih1, ih2, ih3⟩ := bracket_Set.mono_l k
 unfold bracket_Set.f
 repeat' first
   | (with_reducible exact ih0 _ _)
   | (with_reducible exact ih1 _ _ _)
   | (with_reducible exact ih2 _ _ _)
   | (with_reducible exact ih3 _ _)
   | (with_reducible exact bracket_property.mono _ _)
   | (with_reducible exact class_Letter.mono _ _)
   | (with_reducible exact LeO.refl _)
   | (with_reducible exact LeO.none _)
   | (with_reducible refine LeO.ite ?_ ?_)
   | (with_reducible refine LeO.bind ?_ (fun _ => ?_))
   | exact ih0 _ _
   | exact ih1 _ _ _
   | exact ih2 _ _ _
   | exact ih3 _ _
   | exact bracket_property.mono _ _
   | exact class_Letter.mono _ _
   | exact LeO.none _
   | refine LeO.ite ?_ ?_
   | refine LeO.bind ?_ (fun _ => ?_)
set_option maxHeartbeats 8000000 in
set_option maxRecDepth 100000 in
theorem bracket_Set.calls (k : Nat) (a0 : ByteArray) (r1 : List (S36)) (r2 : Int) (r3 : Int) (w : World) (h : bracket_Set.f k a0 = some (r1, r2, r3)) :
  Calls Tryz.prog 11 #[.string a0] w fun e w' => ∃ v0_ : Value, e = .returned (.tuple #[v0_, .int .i64 r2, .int .i64 r3]) ∧ Kd.R k36 36 w' w.heap.size (fun _ => True) v0_ r1 ∧ Below w.heap.size w w' := by
 have HB := Aside0.mk (Below.refl w.heap.size w)
 have H : (if a0.toList = ([] : List UInt8) then (bracket_Set.j0 k a0 true) else (if 0 < (a0.size : Int) then (bracket_Set.j0 k a0 ((bt a0 0) != 92)) else (none))) = some (r1, r2, r3) := h
 clear h
 have HC2 := Aside0.mk H
 clear H
 go_enter Tryz.func11, Tryz.ntmps11
 go_upto_region 1 with (fail)
 go_cut [5] (fun v5 wc => ∃ (kq : Nat) (x5_1 : Bool), v5 = .bool x5_1 ∧ Aside0 (bracket_Set.j0 kq a0 x5_1 = some (r1, r2, r3)) ∧ Aside0 (kq ≤ k) ∧ Aside0 (Below w.heap.size w wc))
 case first =>
  have H := HC2.out
  clear HC2
  by_cases c3 : a0.toList = ([] : List UInt8)
  ·rw [if_pos c3] at H
   have c3b0 : (a0.toList == ([] : List UInt8)) = true := beq_iff_eq.mpr c3
   have c3b1 : (a0.toList != ([] : List UInt8)) = false := bne_eq_false_iff_eq.mpr c3
   clear c3
   (first | rw [c3b0] | (simp only [i64_w, i32_w]; rw [c3b0]) | skip)
   have H' := Aside0.mk H
   clear H
   go_wp2
   go_meet
   case rel => exact ⟨_, (true), (by first | rfl | (simp; done) | (simp [*]; done)), H', ⟨by first | omega | exact Nat.le_refl _⟩, ⟨by repeat (first | (with_reducible first | exact HB.out | apply below_alloc | apply pw_below_drewN | apply below_drew1) | exact HB.out)⟩⟩
  ·rw [if_neg c3] at H
   have c3b0 : (a0.toList == ([] : List UInt8)) = false := beq_eq_false_iff_ne.mpr c3
   have c3b1 : (a0.toList != ([] : List UInt8)) = true := bne_iff_ne.mpr c3
   (first | rw [c3b0] | (simp only [i64_w, i32_w]; rw [c3b0]) | skip)
   by_cases c4 : 0 < (a0.size : Int)
   ·rw [if_pos c4] at H
    have c4b0 : decide (0 < (a0.size : Int)) = true := decide_eq_true c4
    have c4b1 : decide (0 < a0.size) = true := decide_eq_true (by omega)
    clear c4
    have H' := Aside0.mk H
    clear H
    have p5 : 0 ≤ (0 : Int) := (by omega)
    have q5 : 0 < a0.size := (by have : (0 : Int) < (a0.size : Int) := of_decide_eq_true (by first | (with_reducible assumption) | assumption); omega)
    have hx5 : ∀ h : 0 < a0.size, ((a0[0]'h).toNat : Int) = bt a0 0 := bt_at a0 0
    clear p5
    have qi5 : (0 < (a0.size : Int)) = True := eq_true (of_decide_eq_true (by first | (with_reducible assumption) | assumption))
    replace q5 := eq_true q5
    go_wp2
    go_meet
    case rel => exact ⟨_, (((bt a0 0) != 92)), (by first | rfl | (simp; done) | (simp [*]; done)), H', ⟨by first | omega | exact Nat.le_refl _⟩, ⟨by repeat (first | (with_reducible first | exact HB.out | apply below_alloc | apply pw_below_drewN | apply below_drew1) | exact HB.out)⟩⟩
   ·rw [if_neg c4] at H
    exact absurd H (by simp)
 case rest =>
  clear HC2
  try clear c1
  try clear p2
  try clear c3
  try clear c3b0
  try clear c3b1
  try clear c4
  try clear c4b0
  try clear c4b1
  try clear p5
  try clear q5
  try clear hx5
  try clear qi5
  try clear p5
  try clear q5
  obtain ⟨kq, x5_1, rfl, HA, HJ1, HB⟩ := hcut
  cases kq with
  | zero => exact absurd HA.out (by simp [bracket_Set.j0])
  | succ kj1 =>
   have H := HA.out
   clear HA
   simp only [bracket_Set.j0] at H
   by_cases c6 : x5_1 = true
   ·subst c6
    have H1 : (some (([] : List (S36)), 0, 3)) = some (r1, r2, r3) := by rw [if_pos rfl] at H; exact H
    clear H
    have H := H1
    clear H1
    simp only [Option.some.injEq, Prod.mk.injEq] at H
    obtain ⟨rfl, rfl, rfl⟩ := H
    go_wp2
    go_ret3
    exact ⟨_, by first | rfl | (simp [errW_none, errW_some] <;> rfl) | (simp [*, errW_none, errW_some] <;> rfl), by first | exact Kd.R_nil _ _ _ _ _ | exact Kd.N_nil _ _ _ _ _ | exact Kd.V_nil _ _ _ _ _ | exact Kd.Q_nil _ _ _ _ _ | exact Kd.S_nil _ _ _ _ _, by repeat (first | (with_reducible first | exact HB.out | apply below_alloc | apply pw_below_drewN | apply below_drew1) | exact HB.out)⟩
   ·replace c6 := Bool.eq_false_iff.mpr c6
    subst c6
    have H1 : (if (a0.size : Int) = 1 then (some (([] : List (S36)), 0, 5)) else (if 1 < (a0.size : Int) then (if (bt a0 1) = 100 then (bracket_Set.j1 kj1 a0 (bt a0 1) ((bt a0 1) == 100)) else (if (bt a0 1) = 115 then (bracket_Set.j1 kj1 a0 (bt a0 1) ((bt a0 1) == 115)) else (bracket_Set.j1 kj1 a0 (bt a0 1) ((bt a0 1) == 119)))) else (none))) = some (r1, r2, r3) := by rw [if_neg (show ¬ (false = true) by decide)] at H; exact H
    clear H
    have H := H1
    clear H1
    by_cases c7 : (a0.size : Int) = 1
    ·rw [if_pos c7] at H
     have c7b0 : ((a0.size : Int) == 1) = true := beq_iff_eq.mpr c7
     have c7b1 : ((a0.size : Int) != 1) = false := bne_eq_false_iff_eq.mpr c7
     clear c7
     simp only [Option.some.injEq, Prod.mk.injEq] at H
     obtain ⟨rfl, rfl, rfl⟩ := H
     go_wp2
     go_ret3
     exact ⟨_, by first | rfl | (simp [errW_none, errW_some] <;> rfl) | (simp [*, errW_none, errW_some] <;> rfl), by first | exact Kd.R_nil _ _ _ _ _ | exact Kd.N_nil _ _ _ _ _ | exact Kd.V_nil _ _ _ _ _ | exact Kd.Q_nil _ _ _ _ _ | exact Kd.S_nil _ _ _ _ _, by repeat (first | (with_reducible first | exact HB.out | apply below_alloc | apply pw_below_drewN | apply below_drew1) | exact HB.out)⟩
    ·rw [if_neg c7] at H
     have c7b0 : ((a0.size : Int) == 1) = false := beq_eq_false_iff_ne.mpr c7
     have c7b1 : ((a0.size : Int) != 1) = true := bne_iff_ne.mpr c7
     by_cases c8 : 1 < (a0.size : Int)
     ·rw [if_pos c8] at H
      have c8b0 : decide (1 < (a0.size : Int)) = true := decide_eq_true c8
      have c8b1 : decide (1 < a0.size) = true := decide_eq_true (by omega)
      clear c8
      have HC10 := Aside0.mk H
      clear H
      have p9 : 0 ≤ (1 : Int) := (by omega)
      have q9 : 1 < a0.size := (by have : (1 : Int) < (a0.size : Int) := of_decide_eq_true (by first | (with_reducible assumption) | assumption); omega)
      have hx9 : ∀ h : 1 < a0.size, ((a0[1]'h).toNat : Int) = bt a0 1 := bt_at a0 1
      clear p9
      have qi9 : (1 < (a0.size : Int)) = True := eq_true (of_decide_eq_true (by first | (with_reducible assumption) | assumption))
      replace q9 := eq_true q9
      go_upto_if 19 with (fail)
      go_cut [19] (fun v19 wc => ∃ (kq : Nat) (x19_9 : Bool), v19 = .bool x19_9 ∧ Aside0 (bracket_Set.j1 kq a0 (bt a0 1) x19_9 = some (r1, r2, r3)) ∧ Aside0 (kq ≤ kj1) ∧ Aside0 (Below w.heap.size w wc))
      case first =>
       have H := HC10.out
       clear HC10
       by_cases c11 : (bt a0 1) = 100
       ·rw [if_pos c11] at H
        have c11b0 : ((bt a0 1) == 100) = true := beq_iff_eq.mpr c11
        have c11b1 : ((bt a0 1) != 100) = false := bne_eq_false_iff_eq.mpr c11
        clear c11
        (first | rw [c11b0] | (simp only [i64_w, i32_w]; rw [c11b0]) | skip)
        have H' := Aside0.mk H
        clear H
        go_wp2
        go_meet
        case rel => exact ⟨_, (((bt a0 1) == 100)), (by first | rfl | (simp; done) | (simp [*]; done)), H', ⟨by have := HJ1.out; first | omega | exact Nat.le_refl _⟩, ⟨by repeat (first | (with_reducible first | exact HB.out | apply below_alloc | apply pw_below_drewN | apply below_drew1) | exact HB.out)⟩⟩
       ·rw [if_neg c11] at H
        have c11b0 : ((bt a0 1) == 100) = false := beq_eq_false_iff_ne.mpr c11
        have c11b1 : ((bt a0 1) != 100) = true := bne_iff_ne.mpr c11
        (first | rw [c11b0] | (simp only [i64_w, i32_w]; rw [c11b0]) | skip)
        by_cases c12 : (bt a0 1) = 115
        ·rw [if_pos c12] at H
         have c12b0 : ((bt a0 1) == 115) = true := beq_iff_eq.mpr c12
         have c12b1 : ((bt a0 1) != 115) = false := bne_eq_false_iff_eq.mpr c12
         clear c12
         have H' := Aside0.mk H
         clear H
         go_wp2
         go_meet
         case rel => exact ⟨_, (((bt a0 1) == 115)), (by first | rfl | (simp; done) | (simp [*]; done)), H', ⟨by have := HJ1.out; first | omega | exact Nat.le_refl _⟩, ⟨by repeat (first | (with_reducible first | exact HB.out | apply below_alloc | apply pw_below_drewN | apply below_drew1) | exact HB.out)⟩⟩
        ·rw [if_neg c12] at H
         have c12b0 : ((bt a0 1) == 115) = false := beq_eq_false_iff_ne.mpr c12
         have c12b1 : ((bt a0 1) != 115) = true := bne_iff_ne.mpr c12
         have H' := Aside0.mk H
         clear H
         go_wp2
         go_meet
         case rel => exact ⟨_, (((bt a0 1) == 119)), (by first | rfl | (simp; done) | (simp [*]; done)), H', ⟨by have := HJ1.out; first | omega | exact Nat.le_refl _⟩, ⟨by repeat (first | (with_reducible first | exact HB.out | apply below_alloc | apply pw_below_drewN | apply below_drew1) | exact HB.out)⟩⟩
      case rest =>
       clear HC10
       try clear c1
       try clear p2
       try clear c3
       try clear c3b0
       try clear c3b1
       try clear c4
       try clear c4b0
       try clear c4b1
       try clear p5
       try clear q5
       try clear hx5
       try clear qi5
       try clear c6
       try clear c7
       try clear c7b0
       try clear c7b1
       try clear c8
       try clear c8b0
       try clear c8b1
       try clear p9
       try clear q9
       try clear hx9
       try clear qi9
       try clear c11
       try clear c11b0
       try clear c11b1
       try clear c12
       try clear c12b0
       try clear c12b1
       try clear p2
       try clear p5
       try clear p9
       try clear q5
       try clear q9
       obtain ⟨kq, x19_9, rfl, HA, HJ9, HB⟩ := hcut
       cases kq with
       | zero => exact absurd HA.out (by simp [bracket_Set.j1])
       | succ kj9 =>
        have H := HA.out
        clear HA
        simp only [bracket_Set.j1] at H
        by_cases c13 : x19_9 = true
        ·subst c13
         have H1 : (if 1 < (a0.size : Int) then ((class_Letter.f kj9 (bt a0 1)).bind fun bt185 => (some (bt185.1, 2, bt185.2))) else (none)) = some (r1, r2, r3) := by rw [if_pos rfl] at H; exact H
         clear H
         have H := H1
         clear H1
         by_cases c14 : 1 < (a0.size : Int)
         ·rw [if_pos c14] at H
          have c14b0 : decide (1 < (a0.size : Int)) = true := decide_eq_true c14
          have c14b1 : decide (1 < a0.size) = true := decide_eq_true (by omega)
          clear c14
          replace H := Option.bind_eq_some_iff.mp H
          obtain ⟨⟨t185, t186⟩, A160, H⟩ := H
          replace H : (some (t185, 2, t186)) = some (r1, r2, r3) := H
          have A16 := Aside0.mk A160
          clear A160
          simp only [Option.some.injEq, Prod.mk.injEq] at H
          obtain ⟨rfl, rfl, rfl⟩ := H
          have p15 : 0 ≤ (1 : Int) := (by omega)
          have q15 : 1 < a0.size := (by have : (1 : Int) < (a0.size : Int) := of_decide_eq_true (by first | (with_reducible assumption) | assumption); omega)
          have hx15 : ∀ h : 1 < a0.size, ((a0[1]'h).toNat : Int) = bt a0 1 := bt_at a0 1
          clear p15
          have qi15 : (1 < (a0.size : Int)) = True := eq_true (of_decide_eq_true (by first | (with_reducible assumption) | assumption))
          replace q15 := eq_true q15
          go_wp2_with (first | ((with_reducible refine gate_callee (f := 30) rfl ?_); refine goesL_ (some 33) rfl rfl Tryz.func30 (by kernel_rfl) rfl #[.int .u8 (bt a0 1)] rfl (by (try simp only [List.map_toArray, List.map_cons, List.map_nil]); first | done | rfl | (simp only [List.length_drop, List.length_take]; rfl)) ?_; (with_reducible refine (class_Letter.calls kj9 (bt a0 1) t185 t186 _ A16.out).mono ?_); rintro e w17 ⟨v187, rfl, ho0, hb⟩; refine ⟨_, rfl, ?_⟩; have n0_ := Aside0.mk (Kd.R_lower ho0 (below_size (by repeat (first | (with_reducible first | exact HB.out | apply below_alloc | apply pw_below_drewN | apply below_drew1) | exact HB.out)))); have n1_ := Aside0.mk (below_step (by repeat (first | (with_reducible first | exact HB.out | apply below_alloc | apply pw_below_drewN | apply below_drew1) | exact HB.out)) hb); clear HB; have HO188 := n0_; have HB := n1_; clear n0_ n1_; (try clear hb); (try clear hb2); (try clear hk); (try clear hi); (try clear ho0)))
          go_ret3
          exact ⟨_, by first | rfl | (simp [errW_none, errW_some] <;> rfl) | (simp [*, errW_none, errW_some] <;> rfl), by (with_reducible repeat (first | apply Kd.R_alloc | apply Kd.R_drewN | apply Kd.R_drew)); exact HO188.out, by repeat (first | (with_reducible first | exact HB.out | apply below_alloc | apply pw_below_drewN | apply below_drew1) | exact HB.out)⟩
         ·rw [if_neg c14] at H
          exact absurd H (by simp)
        ·replace c13 := Bool.eq_false_iff.mpr c13
         subst c13
         have H1 : (if (bt a0 1) = 68 then (bracket_Set.j2 kj9 a0 (bt a0 1) ((bt a0 1) == 68)) else (if (bt a0 1) = 83 then (bracket_Set.j2 kj9 a0 (bt a0 1) ((bt a0 1) == 83)) else (bracket_Set.j2 kj9 a0 (bt a0 1) ((bt a0 1) == 87)))) = some (r1, r2, r3) := by rw [if_neg (show ¬ (false = true) by decide)] at H; exact H
         clear H
         have H := H1
         clear H1
         have HC18 := Aside0.mk H
         clear H
         go_upto_if 23 with (fail)
         go_cut [23] (fun v23 wc => ∃ (kq : Nat) (x23_17 : Bool), v23 = .bool x23_17 ∧ Aside0 (bracket_Set.j2 kq a0 (bt a0 1) x23_17 = some (r1, r2, r3)) ∧ Aside0 (kq ≤ kj9) ∧ Aside0 (Below w.heap.size w wc))
         case first =>
          have H := HC18.out
          clear HC18
          by_cases c19 : (bt a0 1) = 68
          ·rw [if_pos c19] at H
           have c19b0 : ((bt a0 1) == 68) = true := beq_iff_eq.mpr c19
           have c19b1 : ((bt a0 1) != 68) = false := bne_eq_false_iff_eq.mpr c19
           clear c19
           (first | rw [c19b0] | (simp only [i64_w, i32_w]; rw [c19b0]) | skip)
           have H' := Aside0.mk H
           clear H
           go_wp2
           go_meet
           case rel => exact ⟨_, (((bt a0 1) == 68)), (by first | rfl | (simp; done) | (simp [*]; done)), H', ⟨by have := HJ1.out; have := HJ9.out; first | omega | exact Nat.le_refl _⟩, ⟨by repeat (first | (with_reducible first | exact HB.out | apply below_alloc | apply pw_below_drewN | apply below_drew1) | exact HB.out)⟩⟩
          ·rw [if_neg c19] at H
           have c19b0 : ((bt a0 1) == 68) = false := beq_eq_false_iff_ne.mpr c19
           have c19b1 : ((bt a0 1) != 68) = true := bne_iff_ne.mpr c19
           (first | rw [c19b0] | (simp only [i64_w, i32_w]; rw [c19b0]) | skip)
           by_cases c20 : (bt a0 1) = 83
           ·rw [if_pos c20] at H
            have c20b0 : ((bt a0 1) == 83) = true := beq_iff_eq.mpr c20
            have c20b1 : ((bt a0 1) != 83) = false := bne_eq_false_iff_eq.mpr c20
            clear c20
            have H' := Aside0.mk H
            clear H
            go_wp2
            go_meet
            case rel => exact ⟨_, (((bt a0 1) == 83)), (by first | rfl | (simp; done) | (simp [*]; done)), H', ⟨by have := HJ1.out; have := HJ9.out; first | omega | exact Nat.le_refl _⟩, ⟨by repeat (first | (with_reducible first | exact HB.out | apply below_alloc | apply pw_below_drewN | apply below_drew1) | exact HB.out)⟩⟩
           ·rw [if_neg c20] at H
            have c20b0 : ((bt a0 1) == 83) = false := beq_eq_false_iff_ne.mpr c20
            have c20b1 : ((bt a0 1) != 83) = true := bne_iff_ne.mpr c20
            have H' := Aside0.mk H
            clear H
            go_wp2
            go_meet
            case rel => exact ⟨_, (((bt a0 1) == 87)), (by first | rfl | (simp; done) | (simp [*]; done)), H', ⟨by have := HJ1.out; have := HJ9.out; first | omega | exact Nat.le_refl _⟩, ⟨by repeat (first | (with_reducible first | exact HB.out | apply below_alloc | apply pw_below_drewN | apply below_drew1) | exact HB.out)⟩⟩
         case rest =>
          clear HC18
          try clear c1
          try clear p1
          try clear q1
          try clear hx1
          try clear qi1
          try clear c2
          try clear p2
          try clear c3
          try clear c3b0
          try clear c3b1
          try clear c4
          try clear c4b0
          try clear c4b1
          try clear p5
          try clear q5
          try clear hx5
          try clear qi5
          try clear c6
          try clear c7
          try clear c7b0
          try clear c7b1
          try clear c8
          try clear c8b0
          try clear c8b1
          try clear p9
          try clear q9
          try clear hx9
          try clear qi9
          try clear c11
          try clear c11b0
          try clear c11b1
          try clear c12
          try clear c12b0
          try clear c12b1
          try clear c13
          try clear c14
          try clear c14b0
          try clear c14b1
          try clear p15
          try clear q15
          try clear hx15
          try clear qi15
          try clear c19
          try clear c19b0
          try clear c19b1
          try clear c20
          try clear c20b0
          try clear c20b1
          try clear p15
          try clear p2
          try clear p5
          try clear p9
          try clear q15
          try clear q5
          try clear q9
          obtain ⟨kq, x23_17, rfl, HA, HJ17, HB⟩ := hcut
          cases kq with
          | zero => exact absurd HA.out (by simp [bracket_Set.j2])
          | succ kj17 =>
           have H := HA.out
           clear HA
           simp only [bracket_Set.j2] at H
           by_cases c21 : x23_17 = true
           ·subst c21
            have H1 : (if 1 < (a0.size : Int) then ((class_Letter.f kj17 (bt a0 1)).bind fun bt189 => (some (bt189.1, 2, bt189.2))) else (none)) = some (r1, r2, r3) := by rw [if_pos rfl] at H; exact H
            clear H
            have H := H1
            clear H1
            by_cases c22 : 1 < (a0.size : Int)
            ·rw [if_pos c22] at H
             have c22b0 : decide (1 < (a0.size : Int)) = true := decide_eq_true c22
             have c22b1 : decide (1 < a0.size) = true := decide_eq_true (by omega)
             clear c22
             replace H := Option.bind_eq_some_iff.mp H
             obtain ⟨⟨t189, t190⟩, A240, H⟩ := H
             replace H : (some (t189, 2, t190)) = some (r1, r2, r3) := H
             have A24 := Aside0.mk A240
             clear A240
             simp only [Option.some.injEq, Prod.mk.injEq] at H
             obtain ⟨rfl, rfl, rfl⟩ := H
             have p23 : 0 ≤ (1 : Int) := (by omega)
             have q23 : 1 < a0.size := (by have : (1 : Int) < (a0.size : Int) := of_decide_eq_true (by first | (with_reducible assumption) | assumption); omega)
             have hx23 : ∀ h : 1 < a0.size, ((a0[1]'h).toNat : Int) = bt a0 1 := bt_at a0 1
             clear p23
             have qi23 : (1 < (a0.size : Int)) = True := eq_true (of_decide_eq_true (by first | (with_reducible assumption) | assumption))
             replace q23 := eq_true q23
             go_wp2_with (first | ((with_reducible refine gate_callee (f := 30) rfl ?_); refine goesL_ (some 33) rfl rfl Tryz.func30 (by kernel_rfl) rfl #[.int .u8 (bt a0 1)] rfl (by (try simp only [List.map_toArray, List.map_cons, List.map_nil]); first | done | rfl | (simp only [List.length_drop, List.length_take]; rfl)) ?_; (with_reducible refine (class_Letter.calls kj17 (bt a0 1) t189 t190 _ A24.out).mono ?_); rintro e w25 ⟨v191, rfl, ho0, hb⟩; refine ⟨_, rfl, ?_⟩; have n0_ := Aside0.mk (Kd.R_lower ho0 (below_size (by repeat (first | (with_reducible first | exact HB.out | apply below_alloc | apply pw_below_drewN | apply below_drew1) | exact HB.out)))); have n1_ := Aside0.mk (below_step (by repeat (first | (with_reducible first | exact HB.out | apply below_alloc | apply pw_below_drewN | apply below_drew1) | exact HB.out)) hb); clear HB; have HO192 := n0_; have HB := n1_; clear n0_ n1_; (try clear hb); (try clear hb2); (try clear hk); (try clear hi); (try clear ho0)))
             go_ret3
             exact ⟨_, by first | rfl | (simp [errW_none, errW_some] <;> rfl) | (simp [*, errW_none, errW_some] <;> rfl), by (with_reducible repeat (first | apply Kd.R_alloc | apply Kd.R_drewN | apply Kd.R_drew)); exact HO192.out, by repeat (first | (with_reducible first | exact HB.out | apply below_alloc | apply pw_below_drewN | apply below_drew1) | exact HB.out)⟩
            ·rw [if_neg c22] at H
             exact absurd H (by simp)
           ·replace c21 := Bool.eq_false_iff.mpr c21
            subst c21
            have H1 : (if (bt a0 1) = 112 then (bracket_Set.j3 kj17 a0 ((bt a0 1) == 112)) else (bracket_Set.j3 kj17 a0 ((bt a0 1) == 80))) = some (r1, r2, r3) := by rw [if_neg (show ¬ (false = true) by decide)] at H; exact H
            clear H
            have H := H1
            clear H1
            have HC26 := Aside0.mk H
            clear H
            go_upto_if 27 with (fail)
            go_cut [27] (fun v27 wc => ∃ (kq : Nat) (x27_25 : Bool), v27 = .bool x27_25 ∧ Aside0 (bracket_Set.j3 kq a0 x27_25 = some (r1, r2, r3)) ∧ Aside0 (kq ≤ kj17) ∧ Aside0 (Below w.heap.size w wc))
            case first =>
             have H := HC26.out
             clear HC26
             by_cases c27 : (bt a0 1) = 112
             ·rw [if_pos c27] at H
              have c27b0 : ((bt a0 1) == 112) = true := beq_iff_eq.mpr c27
              have c27b1 : ((bt a0 1) != 112) = false := bne_eq_false_iff_eq.mpr c27
              clear c27
              (first | rw [c27b0] | (simp only [i64_w, i32_w]; rw [c27b0]) | skip)
              have H' := Aside0.mk H
              clear H
              go_wp2
              go_meet
              case rel => exact ⟨_, (((bt a0 1) == 112)), (by first | rfl | (simp; done) | (simp [*]; done)), H', ⟨by have := HJ1.out; have := HJ9.out; have := HJ17.out; first | omega | exact Nat.le_refl _⟩, ⟨by repeat (first | (with_reducible first | exact HB.out | apply below_alloc | apply pw_below_drewN | apply below_drew1) | exact HB.out)⟩⟩
             ·rw [if_neg c27] at H
              have c27b0 : ((bt a0 1) == 112) = false := beq_eq_false_iff_ne.mpr c27
              have c27b1 : ((bt a0 1) != 112) = true := bne_iff_ne.mpr c27
              (first | rw [c27b0] | (simp only [i64_w, i32_w]; rw [c27b0]) | skip)
              have H' := Aside0.mk H
              clear H
              go_wp2
              go_meet
              case rel => exact ⟨_, (((bt a0 1) == 80)), (by first | rfl | (simp; done) | (simp [*]; done)), H', ⟨by have := HJ1.out; have := HJ9.out; have := HJ17.out; first | omega | exact Nat.le_refl _⟩, ⟨by repeat (first | (with_reducible first | exact HB.out | apply below_alloc | apply pw_below_drewN | apply below_drew1) | exact HB.out)⟩⟩
            case rest =>
             clear HC26
             try clear c1
             try clear p1
             try clear q1
             try clear hx1
             try clear qi1
             try clear c2
             try clear p2
             try clear q2
             try clear hx2
             try clear qi2
             try clear c3
             try clear c3b0
             try clear c3b1
             try clear c4
             try clear c4b0
             try clear c4b1
             try clear p5
             try clear q5
             try clear hx5
             try clear qi5
             try clear c6
             try clear c7
             try clear c7b0
             try clear c7b1
             try clear c8
             try clear c8b0
             try clear c8b1
             try clear p9
             try clear q9
             try clear hx9
             try clear qi9
             try clear c11
             try clear c11b0
             try clear c11b1
             try clear c12
             try clear c12b0
             try clear c12b1
             try clear c13
             try clear c14
             try clear c14b0
             try clear c14b1
             try clear p15
             try clear q15
             try clear hx15
             try clear qi15
             try clear c19
             try clear c19b0
             try clear c19b1
             try clear c20
             try clear c20b0
             try clear c20b1
             try clear c21
             try clear c22
             try clear c22b0
             try clear c22b1
             try clear p23
             try clear q23
             try clear hx23
             try clear qi23
             try clear c27
             try clear c27b0
             try clear c27b1
             try clear p1
             try clear p15
             try clear p2
             try clear p23
             try clear p5
             try clear p9
             try clear q1
             try clear q15
             try clear q23
             try clear q5
             try clear q9
             obtain ⟨kq, x27_25, rfl, HA, HJ25, HB⟩ := hcut
             cases kq with
             | zero => exact absurd HA.out (by simp [bracket_Set.j3])
             | succ kj25 =>
              have H := HA.out
              clear HA
              simp only [bracket_Set.j3] at H
              by_cases c28 : x27_25 = true
              ·subst c28
               have H1 : ((bracket_property.f kj25 a0).bind fun bt193 => (some (bt193.1, bt193.2.1, bt193.2.2))) = some (r1, r2, r3) := by rw [if_pos rfl] at H; exact H
               clear H
               have H := H1
               clear H1
               replace H := Option.bind_eq_some_iff.mp H
               obtain ⟨⟨t193, t194, t195⟩, A290, H⟩ := H
               replace H : (some (t193, t194, t195)) = some (r1, r2, r3) := H
               have A29 := Aside0.mk A290
               clear A290
               simp only [Option.some.injEq, Prod.mk.injEq] at H
               obtain ⟨rfl, rfl, rfl⟩ := H
               go_wp2_with (first | ((with_reducible refine gate_callee (f := 31) rfl ?_); refine goesL_ (some 39) rfl rfl Tryz.func31 (by kernel_rfl) rfl #[.string a0] rfl (by (try simp only [List.map_toArray, List.map_cons, List.map_nil]); first | done | rfl | (simp only [List.length_drop, List.length_take]; rfl)) ?_; (with_reducible refine (bracket_property.calls kj25 a0 t193 t194 t195 _ A29.out).mono ?_); rintro e w30 ⟨v196, rfl, ho0, hb⟩; refine ⟨_, rfl, ?_⟩; have n0_ := Aside0.mk (Kd.R_lower ho0 (below_size (by repeat (first | (with_reducible first | exact HB.out | apply below_alloc | apply pw_below_drewN | apply below_drew1) | exact HB.out)))); have n1_ := Aside0.mk (below_step (by repeat (first | (with_reducible first | exact HB.out | apply below_alloc | apply pw_below_drewN | apply below_drew1) | exact HB.out)) hb); clear HB; have HO197 := n0_; have HB := n1_; clear n0_ n1_; (try clear hb); (try clear hb2); (try clear hk); (try clear hi); (try clear ho0)))
               go_ret3
               exact ⟨_, by first | rfl | (simp [errW_none, errW_some] <;> rfl) | (simp [*, errW_none, errW_some] <;> rfl), by (with_reducible repeat (first | apply Kd.R_alloc | apply Kd.R_drewN | apply Kd.R_drew)); exact HO197.out, by repeat (first | (with_reducible first | exact HB.out | apply below_alloc | apply pw_below_drewN | apply below_drew1) | exact HB.out)⟩
              ·replace c28 := Bool.eq_false_iff.mpr c28
               subst c28
               have H1 : (some (([] : List (S36)), 0, 5)) = some (r1, r2, r3) := by rw [if_neg (show ¬ (false = true) by decide)] at H; exact H
               clear H
               have H := H1
               clear H1
               simp only [Option.some.injEq, Prod.mk.injEq] at H
               obtain ⟨rfl, rfl, rfl⟩ := H
               go_wp2
               go_ret3
               exact ⟨_, by first | rfl | (simp [errW_none, errW_some] <;> rfl) | (simp [*, errW_none, errW_some] <;> rfl), by first | exact Kd.R_nil _ _ _ _ _ | exact Kd.N_nil _ _ _ _ _ | exact Kd.V_nil _ _ _ _ _ | exact Kd.Q_nil _ _ _ _ _ | exact Kd.S_nil _ _ _ _ _, by repeat (first | (with_reducible first | exact HB.out | apply below_alloc | apply pw_below_drewN | apply below_drew1) | exact HB.out)⟩
     ·rw [if_neg c8] at H
      exact absurd H (by simp)
-- own text
def fold_Close.f (l0 : List S36) : Option (List S36) := if l0.length ≤ 100000 then some ((Go.Proofs.YtheheijhijeljaaGreatDoorX.closeL (l0.map ofRg)).map toRg) else none
theorem fold_Close.calls (A0 : Option Addr) (c0 : Nat) (l0 : List S36) (r : List S36) (w : World) (hr0 : Kd.C k36 w A0 l0.length l0) (hc0 : l0.length ≤ c0) (h : fold_Close.f l0 = some r) :
  Calls Tryz.prog 20 #[.slice A0 l0.length c0] w fun e w' => ∃ v0_ : Value, e = .returned (v0_) ∧ Kd.R k36 36 w' w.heap.size (fun _ => True) v0_ r ∧ Below w.heap.size w w' := by
 unfold fold_Close.f at h
 split at h
 ·rename_i hs
  obtain rfl := Option.some.inj h
  have hb := Go.Proofs.YtheheijhijeljaaGreatDoorX.close_any normAt A0 c0 (l0.map ofRg) w (by rw [List.length_map]; exact Go.Proofs.YtheheijhijeljaaGreatDoorX.C_iso.1 (rg_kd ▸ hr0)) (by simp; omega)
  rw [List.length_map] at hb
  refine hb.mono fun e w' ⟨v, he, hR, hb⟩ => ⟨v, he, ?_, hb⟩
  rw [rg_kd]
  exact Go.Proofs.YtheheijhijeljaaGreatDoorX.R_iso.2 (by rw [map_forth]; exact hR)
 ·cases h
def strings_HasPrefix.f (a0 : ByteArray) (a1 : ByteArray) : Option (Bool) := (stringslite_HasPrefix.f a0 a1).bind fun t198 => (some t198)
set_option maxHeartbeats 8000000 in
set_option maxRecDepth 100000 in
theorem strings_HasPrefix.calls (a0 : ByteArray) (a1 : ByteArray) (r : Bool) (w : World) (h : strings_HasPrefix.f a0 a1 = some r) :
  Calls Tryz.prog 66 #[.string a0, .string a1] w fun e w' => e = .returned (.bool r) ∧ Drawn0 w w' := by
 have H : ((stringslite_HasPrefix.f a0 a1).bind fun t198 => (some t198)) = some r := h
 clear h
 replace H := Option.bind_eq_some_iff.mp H
 obtain ⟨t198, A30, H⟩ := H
 replace H : (some t198) = some r := H
 have A3 := Aside0.mk A30
 clear A30
 obtain rfl := Option.some.inj H
 go_enter Tryz.func66, Tryz.ntmps66
 go_wp2_with (first | ((with_reducible refine gate_callee (f := 96) rfl ?_); refine goesL_ (some 7) rfl rfl Tryz.func96 (by kernel_rfl) rfl #[.string a0, .string a1] rfl (by (try simp only [List.map_toArray, List.map_cons, List.map_nil]); first | done | rfl | (simp only [List.length_drop, List.length_take]; rfl)) ?_; (with_reducible refine (stringslite_HasPrefix.calls a0 a1 t198 _ A3.out).mono ?_); rintro e w' ⟨rfl, ⟨nd, rfl⟩⟩; refine ⟨_, rfl, ?_⟩))
 go_ret
 exact ⟨by first | rfl | (simp; done) | (simp [*]; done), by repeat (first | exact Drawn0.refl _ | apply Drawn0.step)⟩
def class_colons.f  : Option ((List (S105))) := some (([(⟨(⟨#[97, 108, 110, 117, 109]⟩ : ByteArray), (⟨#[51, 48, 45, 51, 57, 32, 52, 49, 45, 53, 65, 32, 54, 49, 45, 55, 65]⟩ : ByteArray)⟩ : S105), (⟨(⟨#[97, 108, 112, 104, 97]⟩ : ByteArray), (⟨#[52, 49, 45, 53, 65, 32, 54, 49, 45, 55, 65]⟩ : ByteArray)⟩ : S105), (⟨(⟨#[97, 115, 99, 105, 105]⟩ : ByteArray), (⟨#[48, 45, 55, 70]⟩ : ByteArray)⟩ : S105), (⟨(⟨#[98, 108, 97, 110, 107]⟩ : ByteArray), (⟨#[57, 32, 50, 48]⟩ : ByteArray)⟩ : S105), (⟨(⟨#[99, 110, 116, 114, 108]⟩ : ByteArray), (⟨#[48, 45, 49, 70, 32, 55, 70]⟩ : ByteArray)⟩ : S105), (⟨(⟨#[100, 105, 103, 105, 116]⟩ : ByteArray), (⟨#[51, 48, 45, 51, 57]⟩ : ByteArray)⟩ : S105), (⟨(⟨#[103, 114, 97, 112, 104]⟩ : ByteArray), (⟨#[50, 49, 45, 55, 69]⟩ : ByteArray)⟩ : S105), (⟨(⟨#[108, 111, 119, 101, 114]⟩ : ByteArray), (⟨#[54, 49, 45, 55, 65]⟩ : ByteArray)⟩ : S105), (⟨(⟨#[112, 114, 105, 110, 116]⟩ : ByteArray), (⟨#[50, 48, 45, 55, 69]⟩ : ByteArray)⟩ : S105), (⟨(⟨#[112, 117, 110, 99, 116]⟩ : ByteArray), (⟨#[50, 49, 45, 50, 70, 32, 51, 65, 45, 52, 48, 32, 53, 66, 45, 54, 48, 32, 55, 66, 45, 55, 69]⟩ : ByteArray)⟩ : S105), (⟨(⟨#[115, 112, 97, 99, 101]⟩ : ByteArray), (⟨#[57, 45, 68, 32, 50, 48]⟩ : ByteArray)⟩ : S105), (⟨(⟨#[117, 112, 112, 101, 114]⟩ : ByteArray), (⟨#[52, 49, 45, 53, 65]⟩ : ByteArray)⟩ : S105), (⟨(⟨#[119, 111, 114, 100]⟩ : ByteArray), (⟨#[51, 48, 45, 51, 57, 32, 52, 49, 45, 53, 65, 32, 53, 70, 32, 54, 49, 45, 55, 65]⟩ : ByteArray)⟩ : S105), (⟨(⟨#[120, 100, 105, 103, 105, 116]⟩ : ByteArray), (⟨#[51, 48, 45, 51, 57, 32, 52, 49, 45, 52, 54, 32, 54, 49, 45, 54, 54]⟩ : ByteArray)⟩ : S105)] : List (S105)))
set_option maxHeartbeats 8000000 in
set_option maxRecDepth 100000 in
theorem class_colons.calls  (r : List (S105)) (w : World) (h : class_colons.f  = some r) :
  Calls Tryz.prog 98 #[] w fun e w' => ∃ v0_ : Value, e = .returned (v0_) ∧ Kd.R k105 105 w' w.heap.size (fun _ => True) v0_ r ∧ Below w.heap.size w w' := by
 have hu105 := Tryz.underlying105
 have HB := Aside0.mk (Below.refl w.heap.size w)
 have H : (some (([(⟨(⟨#[97, 108, 110, 117, 109]⟩ : ByteArray), (⟨#[51, 48, 45, 51, 57, 32, 52, 49, 45, 53, 65, 32, 54, 49, 45, 55, 65]⟩ : ByteArray)⟩ : S105), (⟨(⟨#[97, 108, 112, 104, 97]⟩ : ByteArray), (⟨#[52, 49, 45, 53, 65, 32, 54, 49, 45, 55, 65]⟩ : ByteArray)⟩ : S105), (⟨(⟨#[97, 115, 99, 105, 105]⟩ : ByteArray), (⟨#[48, 45, 55, 70]⟩ : ByteArray)⟩ : S105), (⟨(⟨#[98, 108, 97, 110, 107]⟩ : ByteArray), (⟨#[57, 32, 50, 48]⟩ : ByteArray)⟩ : S105), (⟨(⟨#[99, 110, 116, 114, 108]⟩ : ByteArray), (⟨#[48, 45, 49, 70, 32, 55, 70]⟩ : ByteArray)⟩ : S105), (⟨(⟨#[100, 105, 103, 105, 116]⟩ : ByteArray), (⟨#[51, 48, 45, 51, 57]⟩ : ByteArray)⟩ : S105), (⟨(⟨#[103, 114, 97, 112, 104]⟩ : ByteArray), (⟨#[50, 49, 45, 55, 69]⟩ : ByteArray)⟩ : S105), (⟨(⟨#[108, 111, 119, 101, 114]⟩ : ByteArray), (⟨#[54, 49, 45, 55, 65]⟩ : ByteArray)⟩ : S105), (⟨(⟨#[112, 114, 105, 110, 116]⟩ : ByteArray), (⟨#[50, 48, 45, 55, 69]⟩ : ByteArray)⟩ : S105), (⟨(⟨#[112, 117, 110, 99, 116]⟩ : ByteArray), (⟨#[50, 49, 45, 50, 70, 32, 51, 65, 45, 52, 48, 32, 53, 66, 45, 54, 48, 32, 55, 66, 45, 55, 69]⟩ : ByteArray)⟩ : S105), (⟨(⟨#[115, 112, 97, 99, 101]⟩ : ByteArray), (⟨#[57, 45, 68, 32, 50, 48]⟩ : ByteArray)⟩ : S105), (⟨(⟨#[117, 112, 112, 101, 114]⟩ : ByteArray), (⟨#[52, 49, 45, 53, 65]⟩ : ByteArray)⟩ : S105), (⟨(⟨#[119, 111, 114, 100]⟩ : ByteArray), (⟨#[51, 48, 45, 51, 57, 32, 52, 49, 45, 53, 65, 32, 53, 70, 32, 54, 49, 45, 55, 65]⟩ : ByteArray)⟩ : S105), (⟨(⟨#[120, 100, 105, 103, 105, 116]⟩ : ByteArray), (⟨#[51, 48, 45, 51, 57, 32, 52, 49, 45, 52, 54, 32, 54, 49, 45, 54, 54]⟩ : ByteArray)⟩ : S105)] : List (S105)))) = some r := h
 clear h
 obtain ⟨y199, hy199⟩ : ∃ y_ : List (S105), y_ = (([(⟨(⟨#[97, 108, 110, 117, 109]⟩ : ByteArray), (⟨#[51, 48, 45, 51, 57, 32, 52, 49, 45, 53, 65, 32, 54, 49, 45, 55, 65]⟩ : ByteArray)⟩ : S105), (⟨(⟨#[97, 108, 112, 104, 97]⟩ : ByteArray), (⟨#[52, 49, 45, 53, 65, 32, 54, 49, 45, 55, 65]⟩ : ByteArray)⟩ : S105), (⟨(⟨#[97, 115, 99, 105, 105]⟩ : ByteArray), (⟨#[48, 45, 55, 70]⟩ : ByteArray)⟩ : S105), (⟨(⟨#[98, 108, 97, 110, 107]⟩ : ByteArray), (⟨#[57, 32, 50, 48]⟩ : ByteArray)⟩ : S105), (⟨(⟨#[99, 110, 116, 114, 108]⟩ : ByteArray), (⟨#[48, 45, 49, 70, 32, 55, 70]⟩ : ByteArray)⟩ : S105), (⟨(⟨#[100, 105, 103, 105, 116]⟩ : ByteArray), (⟨#[51, 48, 45, 51, 57]⟩ : ByteArray)⟩ : S105), (⟨(⟨#[103, 114, 97, 112, 104]⟩ : ByteArray), (⟨#[50, 49, 45, 55, 69]⟩ : ByteArray)⟩ : S105), (⟨(⟨#[108, 111, 119, 101, 114]⟩ : ByteArray), (⟨#[54, 49, 45, 55, 65]⟩ : ByteArray)⟩ : S105), (⟨(⟨#[112, 114, 105, 110, 116]⟩ : ByteArray), (⟨#[50, 48, 45, 55, 69]⟩ : ByteArray)⟩ : S105), (⟨(⟨#[112, 117, 110, 99, 116]⟩ : ByteArray), (⟨#[50, 49, 45, 50, 70, 32, 51, 65, 45, 52, 48, 32, 53, 66, 45, 54, 48, 32, 55, 66, 45, 55, 69]⟩ : ByteArray)⟩ : S105), (⟨(⟨#[115, 112, 97, 99, 101]⟩ : ByteArray), (⟨#[57, 45, 68, 32, 50, 48]⟩ : ByteArray)⟩ : S105), (⟨(⟨#[117, 112, 112, 101, 114]⟩ : ByteArray), (⟨#[52, 49, 45, 53, 65]⟩ : ByteArray)⟩ : S105), (⟨(⟨#[119, 111, 114, 100]⟩ : ByteArray), (⟨#[51, 48, 45, 51, 57, 32, 52, 49, 45, 53, 65, 32, 53, 70, 32, 54, 49, 45, 55, 65]⟩ : ByteArray)⟩ : S105), (⟨(⟨#[120, 100, 105, 103, 105, 116]⟩ : ByteArray), (⟨#[51, 48, 45, 51, 57, 32, 52, 49, 45, 52, 54, 32, 54, 49, 45, 54, 54]⟩ : ByteArray)⟩ : S105)] : List (S105))) := ⟨_, rfl⟩
 replace H : (some y199) = some r := by first | (rw [hy199]; with_reducible exact H) | (have H2_ := (Option.bind_some _ _).symm.trans H; rw [hy199]; with_reducible exact H2_) | (have H2_ := (Option.bind_some _ _).symm.trans H; with_reducible exact H2_) | with_reducible exact H | (rw [hy199]; exact H) | exact H
 have Ny199 := Aside0.mk hy199
 clear hy199
 obtain rfl := Option.some.inj H
 go_enter Tryz.func98, Tryz.ntmps98
 go_wp2_with (first | ((with_reducible refine gate_dst (N := 15) rfl ?_); refine Kd.R_lit k105 _ 105 ?hg (N := 15) ?hd (xs := ([(⟨(⟨#[97, 108, 110, 117, 109]⟩ : ByteArray), (⟨#[51, 48, 45, 51, 57, 32, 52, 49, 45, 53, 65, 32, 54, 49, 45, 55, 65]⟩ : ByteArray)⟩ : S105), (⟨(⟨#[97, 108, 112, 104, 97]⟩ : ByteArray), (⟨#[52, 49, 45, 53, 65, 32, 54, 49, 45, 55, 65]⟩ : ByteArray)⟩ : S105), (⟨(⟨#[97, 115, 99, 105, 105]⟩ : ByteArray), (⟨#[48, 45, 55, 70]⟩ : ByteArray)⟩ : S105), (⟨(⟨#[98, 108, 97, 110, 107]⟩ : ByteArray), (⟨#[57, 32, 50, 48]⟩ : ByteArray)⟩ : S105), (⟨(⟨#[99, 110, 116, 114, 108]⟩ : ByteArray), (⟨#[48, 45, 49, 70, 32, 55, 70]⟩ : ByteArray)⟩ : S105), (⟨(⟨#[100, 105, 103, 105, 116]⟩ : ByteArray), (⟨#[51, 48, 45, 51, 57]⟩ : ByteArray)⟩ : S105), (⟨(⟨#[103, 114, 97, 112, 104]⟩ : ByteArray), (⟨#[50, 49, 45, 55, 69]⟩ : ByteArray)⟩ : S105), (⟨(⟨#[108, 111, 119, 101, 114]⟩ : ByteArray), (⟨#[54, 49, 45, 55, 65]⟩ : ByteArray)⟩ : S105), (⟨(⟨#[112, 114, 105, 110, 116]⟩ : ByteArray), (⟨#[50, 48, 45, 55, 69]⟩ : ByteArray)⟩ : S105), (⟨(⟨#[112, 117, 110, 99, 116]⟩ : ByteArray), (⟨#[50, 49, 45, 50, 70, 32, 51, 65, 45, 52, 48, 32, 53, 66, 45, 54, 48, 32, 55, 66, 45, 55, 69]⟩ : ByteArray)⟩ : S105), (⟨(⟨#[115, 112, 97, 99, 101]⟩ : ByteArray), (⟨#[57, 45, 68, 32, 50, 48]⟩ : ByteArray)⟩ : S105), (⟨(⟨#[117, 112, 112, 101, 114]⟩ : ByteArray), (⟨#[52, 49, 45, 53, 65]⟩ : ByteArray)⟩ : S105), (⟨(⟨#[119, 111, 114, 100]⟩ : ByteArray), (⟨#[51, 48, 45, 51, 57, 32, 52, 49, 45, 53, 65, 32, 53, 70, 32, 54, 49, 45, 55, 65]⟩ : ByteArray)⟩ : S105), (⟨(⟨#[120, 100, 105, 103, 105, 116]⟩ : ByteArray), (⟨#[51, 48, 45, 51, 57, 32, 52, 49, 45, 52, 54, 32, 54, 49, 45, 54, 54]⟩ : ByteArray)⟩ : S105)] : List (S105))) (inner := [.string (⟨#[97, 108, 110, 117, 109]⟩ : ByteArray), .string (⟨#[51, 48, 45, 51, 57, 32, 52, 49, 45, 53, 65, 32, 54, 49, 45, 55, 65]⟩ : ByteArray), .string (⟨#[97, 108, 112, 104, 97]⟩ : ByteArray), .string (⟨#[52, 49, 45, 53, 65, 32, 54, 49, 45, 55, 65]⟩ : ByteArray), .string (⟨#[97, 115, 99, 105, 105]⟩ : ByteArray), .string (⟨#[48, 45, 55, 70]⟩ : ByteArray), .string (⟨#[98, 108, 97, 110, 107]⟩ : ByteArray), .string (⟨#[57, 32, 50, 48]⟩ : ByteArray), .string (⟨#[99, 110, 116, 114, 108]⟩ : ByteArray), .string (⟨#[48, 45, 49, 70, 32, 55, 70]⟩ : ByteArray), .string (⟨#[100, 105, 103, 105, 116]⟩ : ByteArray), .string (⟨#[51, 48, 45, 51, 57]⟩ : ByteArray), .string (⟨#[103, 114, 97, 112, 104]⟩ : ByteArray), .string (⟨#[50, 49, 45, 55, 69]⟩ : ByteArray), .string (⟨#[108, 111, 119, 101, 114]⟩ : ByteArray), .string (⟨#[54, 49, 45, 55, 65]⟩ : ByteArray), .string (⟨#[112, 114, 105, 110, 116]⟩ : ByteArray), .string (⟨#[50, 48, 45, 55, 69]⟩ : ByteArray), .string (⟨#[112, 117, 110, 99, 116]⟩ : ByteArray), .string (⟨#[50, 49, 45, 50, 70, 32, 51, 65, 45, 52, 48, 32, 53, 66, 45, 54, 48, 32, 55, 66, 45, 55, 69]⟩ : ByteArray), .string (⟨#[115, 112, 97, 99, 101]⟩ : ByteArray), .string (⟨#[57, 45, 68, 32, 50, 48]⟩ : ByteArray), .string (⟨#[117, 112, 112, 101, 114]⟩ : ByteArray), .string (⟨#[52, 49, 45, 53, 65]⟩ : ByteArray), .string (⟨#[119, 111, 114, 100]⟩ : ByteArray), .string (⟨#[51, 48, 45, 51, 57, 32, 52, 49, 45, 53, 65, 32, 53, 70, 32, 54, 49, 45, 55, 65]⟩ : ByteArray), .string (⟨#[120, 100, 105, 103, 105, 116]⟩ : ByteArray), .string (⟨#[51, 48, 45, 51, 57, 32, 52, 49, 45, 52, 54, 32, 54, 49, 45, 54, 54]⟩ : ByteArray)]) (ok := fun _ => True) (okp := fun _ => True) ?hr ?hp (fun _ hk => hk) trivial (Below.refl _ _) (Nat.le_refl _) (by simp) ?_; (case hd => rfl); (case hg => rfl); (case hr => first | (go_simp; done) | (go_simp; rfl)); (case hp => exact (Reps.c2 (show Kd.M k105 _ _ _ (⟨(⟨#[97, 108, 110, 117, 109]⟩ : ByteArray), (⟨#[51, 48, 45, 51, 57, 32, 52, 49, 45, 53, 65, 32, 54, 49, 45, 55, 65]⟩ : ByteArray)⟩ : S105) [.string (⟨#[97, 108, 110, 117, 109]⟩ : ByteArray), .string (⟨#[51, 48, 45, 51, 57, 32, 52, 49, 45, 53, 65, 32, 54, 49, 45, 55, 65]⟩ : ByteArray)] from (k105_mkM _ _ _ (⟨(⟨#[97, 108, 110, 117, 109]⟩ : ByteArray), (⟨#[51, 48, 45, 51, 57, 32, 52, 49, 45, 53, 65, 32, 54, 49, 45, 55, 65]⟩ : ByteArray)⟩ : S105) )) (Reps.c2 (show Kd.M k105 _ _ _ (⟨(⟨#[97, 108, 112, 104, 97]⟩ : ByteArray), (⟨#[52, 49, 45, 53, 65, 32, 54, 49, 45, 55, 65]⟩ : ByteArray)⟩ : S105) [.string (⟨#[97, 108, 112, 104, 97]⟩ : ByteArray), .string (⟨#[52, 49, 45, 53, 65, 32, 54, 49, 45, 55, 65]⟩ : ByteArray)] from (k105_mkM _ _ _ (⟨(⟨#[97, 108, 112, 104, 97]⟩ : ByteArray), (⟨#[52, 49, 45, 53, 65, 32, 54, 49, 45, 55, 65]⟩ : ByteArray)⟩ : S105) )) (Reps.c2 (show Kd.M k105 _ _ _ (⟨(⟨#[97, 115, 99, 105, 105]⟩ : ByteArray), (⟨#[48, 45, 55, 70]⟩ : ByteArray)⟩ : S105) [.string (⟨#[97, 115, 99, 105, 105]⟩ : ByteArray), .string (⟨#[48, 45, 55, 70]⟩ : ByteArray)] from (k105_mkM _ _ _ (⟨(⟨#[97, 115, 99, 105, 105]⟩ : ByteArray), (⟨#[48, 45, 55, 70]⟩ : ByteArray)⟩ : S105) )) (Reps.c2 (show Kd.M k105 _ _ _ (⟨(⟨#[98, 108, 97, 110, 107]⟩ : ByteArray), (⟨#[57, 32, 50, 48]⟩ : ByteArray)⟩ : S105) [.string (⟨#[98, 108, 97, 110, 107]⟩ : ByteArray), .string (⟨#[57, 32, 50, 48]⟩ : ByteArray)] from (k105_mkM _ _ _ (⟨(⟨#[98, 108, 97, 110, 107]⟩ : ByteArray), (⟨#[57, 32, 50, 48]⟩ : ByteArray)⟩ : S105) )) (Reps.c2 (show Kd.M k105 _ _ _ (⟨(⟨#[99, 110, 116, 114, 108]⟩ : ByteArray), (⟨#[48, 45, 49, 70, 32, 55, 70]⟩ : ByteArray)⟩ : S105) [.string (⟨#[99, 110, 116, 114, 108]⟩ : ByteArray), .string (⟨#[48, 45, 49, 70, 32, 55, 70]⟩ : ByteArray)] from (k105_mkM _ _ _ (⟨(⟨#[99, 110, 116, 114, 108]⟩ : ByteArray), (⟨#[48, 45, 49, 70, 32, 55, 70]⟩ : ByteArray)⟩ : S105) )) (Reps.c2 (show Kd.M k105 _ _ _ (⟨(⟨#[100, 105, 103, 105, 116]⟩ : ByteArray), (⟨#[51, 48, 45, 51, 57]⟩ : ByteArray)⟩ : S105) [.string (⟨#[100, 105, 103, 105, 116]⟩ : ByteArray), .string (⟨#[51, 48, 45, 51, 57]⟩ : ByteArray)] from (k105_mkM _ _ _ (⟨(⟨#[100, 105, 103, 105, 116]⟩ : ByteArray), (⟨#[51, 48, 45, 51, 57]⟩ : ByteArray)⟩ : S105) )) (Reps.c2 (show Kd.M k105 _ _ _ (⟨(⟨#[103, 114, 97, 112, 104]⟩ : ByteArray), (⟨#[50, 49, 45, 55, 69]⟩ : ByteArray)⟩ : S105) [.string (⟨#[103, 114, 97, 112, 104]⟩ : ByteArray), .string (⟨#[50, 49, 45, 55, 69]⟩ : ByteArray)] from (k105_mkM _ _ _ (⟨(⟨#[103, 114, 97, 112, 104]⟩ : ByteArray), (⟨#[50, 49, 45, 55, 69]⟩ : ByteArray)⟩ : S105) )) (Reps.c2 (show Kd.M k105 _ _ _ (⟨(⟨#[108, 111, 119, 101, 114]⟩ : ByteArray), (⟨#[54, 49, 45, 55, 65]⟩ : ByteArray)⟩ : S105) [.string (⟨#[108, 111, 119, 101, 114]⟩ : ByteArray), .string (⟨#[54, 49, 45, 55, 65]⟩ : ByteArray)] from (k105_mkM _ _ _ (⟨(⟨#[108, 111, 119, 101, 114]⟩ : ByteArray), (⟨#[54, 49, 45, 55, 65]⟩ : ByteArray)⟩ : S105) )) (Reps.c2 (show Kd.M k105 _ _ _ (⟨(⟨#[112, 114, 105, 110, 116]⟩ : ByteArray), (⟨#[50, 48, 45, 55, 69]⟩ : ByteArray)⟩ : S105) [.string (⟨#[112, 114, 105, 110, 116]⟩ : ByteArray), .string (⟨#[50, 48, 45, 55, 69]⟩ : ByteArray)] from (k105_mkM _ _ _ (⟨(⟨#[112, 114, 105, 110, 116]⟩ : ByteArray), (⟨#[50, 48, 45, 55, 69]⟩ : ByteArray)⟩ : S105) )) (Reps.c2 (show Kd.M k105 _ _ _ (⟨(⟨#[112, 117, 110, 99, 116]⟩ : ByteArray), (⟨#[50, 49, 45, 50, 70, 32, 51, 65, 45, 52, 48, 32, 53, 66, 45, 54, 48, 32, 55, 66, 45, 55, 69]⟩ : ByteArray)⟩ : S105) [.string (⟨#[112, 117, 110, 99, 116]⟩ : ByteArray), .string (⟨#[50, 49, 45, 50, 70, 32, 51, 65, 45, 52, 48, 32, 53, 66, 45, 54, 48, 32, 55, 66, 45, 55, 69]⟩ : ByteArray)] from (k105_mkM _ _ _ (⟨(⟨#[112, 117, 110, 99, 116]⟩ : ByteArray), (⟨#[50, 49, 45, 50, 70, 32, 51, 65, 45, 52, 48, 32, 53, 66, 45, 54, 48, 32, 55, 66, 45, 55, 69]⟩ : ByteArray)⟩ : S105) )) (Reps.c2 (show Kd.M k105 _ _ _ (⟨(⟨#[115, 112, 97, 99, 101]⟩ : ByteArray), (⟨#[57, 45, 68, 32, 50, 48]⟩ : ByteArray)⟩ : S105) [.string (⟨#[115, 112, 97, 99, 101]⟩ : ByteArray), .string (⟨#[57, 45, 68, 32, 50, 48]⟩ : ByteArray)] from (k105_mkM _ _ _ (⟨(⟨#[115, 112, 97, 99, 101]⟩ : ByteArray), (⟨#[57, 45, 68, 32, 50, 48]⟩ : ByteArray)⟩ : S105) )) (Reps.c2 (show Kd.M k105 _ _ _ (⟨(⟨#[117, 112, 112, 101, 114]⟩ : ByteArray), (⟨#[52, 49, 45, 53, 65]⟩ : ByteArray)⟩ : S105) [.string (⟨#[117, 112, 112, 101, 114]⟩ : ByteArray), .string (⟨#[52, 49, 45, 53, 65]⟩ : ByteArray)] from (k105_mkM _ _ _ (⟨(⟨#[117, 112, 112, 101, 114]⟩ : ByteArray), (⟨#[52, 49, 45, 53, 65]⟩ : ByteArray)⟩ : S105) )) (Reps.c2 (show Kd.M k105 _ _ _ (⟨(⟨#[119, 111, 114, 100]⟩ : ByteArray), (⟨#[51, 48, 45, 51, 57, 32, 52, 49, 45, 53, 65, 32, 53, 70, 32, 54, 49, 45, 55, 65]⟩ : ByteArray)⟩ : S105) [.string (⟨#[119, 111, 114, 100]⟩ : ByteArray), .string (⟨#[51, 48, 45, 51, 57, 32, 52, 49, 45, 53, 65, 32, 53, 70, 32, 54, 49, 45, 55, 65]⟩ : ByteArray)] from (k105_mkM _ _ _ (⟨(⟨#[119, 111, 114, 100]⟩ : ByteArray), (⟨#[51, 48, 45, 51, 57, 32, 52, 49, 45, 53, 65, 32, 53, 70, 32, 54, 49, 45, 55, 65]⟩ : ByteArray)⟩ : S105) )) (Reps.c2 (show Kd.M k105 _ _ _ (⟨(⟨#[120, 100, 105, 103, 105, 116]⟩ : ByteArray), (⟨#[51, 48, 45, 51, 57, 32, 52, 49, 45, 52, 54, 32, 54, 49, 45, 54, 54]⟩ : ByteArray)⟩ : S105) [.string (⟨#[120, 100, 105, 103, 105, 116]⟩ : ByteArray), .string (⟨#[51, 48, 45, 51, 57, 32, 52, 49, 45, 52, 54, 32, 54, 49, 45, 54, 54]⟩ : ByteArray)] from (k105_mkM _ _ _ (⟨(⟨#[120, 100, 105, 103, 105, 116]⟩ : ByteArray), (⟨#[51, 48, 45, 51, 57, 32, 52, 49, 45, 52, 54, 32, 54, 49, 45, 54, 54]⟩ : ByteArray)⟩ : S105) )) (Reps.none _ _)))))))))))))))); intro v200 w1 ho2 hb hg_ hnew_; clear hg_ hnew_; (first | rw [← Ny199.out] at ho2 | (simp only [Int.reduceToNat] at ho2; rw [← Ny199.out] at ho2)); have n0_ := Aside0.mk (Kd.R_lower ho2 (below_size (by repeat (first | (with_reducible first | exact HB.out | apply below_alloc | apply pw_below_drewN | apply below_drew1) | exact HB.out)))); have n1_ := Aside0.mk (below_step (by repeat (first | (with_reducible first | exact HB.out | apply below_alloc | apply pw_below_drewN | apply below_drew1) | exact HB.out)) hb); clear HB; have HO201 := n0_; have HB := n1_; clear n0_ n1_; clear hb ho2))
 go_ret
 exact ⟨_, by first | rfl | (simp [errW_none, errW_some] <;> rfl) | (simp [*, errW_none, errW_some] <;> rfl), by (with_reducible repeat (first | apply Kd.R_alloc | apply Kd.R_drewN | apply Kd.R_drew)); exact HO201.out, by repeat (first | (with_reducible first | exact HB.out | apply below_alloc | apply pw_below_drewN | apply below_drew1) | exact HB.out)⟩
def class_Colon.f (k : Nat) (a0 : ByteArray) : Option ((List (S36)) × Int) := (class_colons.f).bind fun t202 => ((class_turned.f k t202 a0).bind fun bt205 => (some (bt205.1, bt205.2)))
theorem class_Colon.mono : ∀ a0 k, LeO (class_Colon.f k a0) (class_Colon.f (k + 1) a0) := by
 intro a0 k
 unfold class_Colon.f
 repeat' first
   | (with_reducible exact class_turned.mono _ _ _)
   | (with_reducible exact LeO.refl _)
   | (with_reducible exact LeO.none _)
   | (with_reducible refine LeO.ite ?_ ?_)
   | (with_reducible refine LeO.bind ?_ (fun _ => ?_))
   | exact class_turned.mono _ _ _
   | exact LeO.none _
   | refine LeO.ite ?_ ?_
   | refine LeO.bind ?_ (fun _ => ?_)
set_option maxHeartbeats 8000000 in
set_option maxRecDepth 100000 in
theorem class_Colon.calls (k : Nat) (a0 : ByteArray) (r1 : List (S36)) (r2 : Int) (w : World) (h : class_Colon.f k a0 = some (r1, r2)) :
  Calls Tryz.prog 68 #[.string a0] w fun e w' => ∃ v0_ : Value, e = .returned (.tuple #[v0_, .int .i64 r2]) ∧ Kd.R k36 36 w' w.heap.size (fun _ => True) v0_ r1 ∧ Below w.heap.size w w' := by
 have HB := Aside0.mk (Below.refl w.heap.size w)
 have H : ((class_colons.f).bind fun t202 => ((class_turned.f k t202 a0).bind fun bt205 => (some (bt205.1, bt205.2)))) = some (r1, r2) := h
 clear h
 replace H := Option.bind_eq_some_iff.mp H
 obtain ⟨t202, A20, H⟩ := H
 replace H : ((class_turned.f k t202 a0).bind fun bt205 => (some (bt205.1, bt205.2))) = some (r1, r2) := H
 have A2 := Aside0.mk A20
 clear A20
 replace H := Option.bind_eq_some_iff.mp H
 obtain ⟨⟨t205, t206⟩, A30, H⟩ := H
 replace H : (some (t205, t206)) = some (r1, r2) := H
 have A3 := Aside0.mk A30
 clear A30
 simp only [Option.some.injEq, Prod.mk.injEq] at H
 obtain ⟨rfl, rfl⟩ := H
 go_enter Tryz.func68, Tryz.ntmps68
 go_wp2_with (first | ((with_reducible refine gate_callee (f := 98) rfl ?_); refine goesL_ (some 4) rfl rfl Tryz.func98 (by kernel_rfl) rfl #[] rfl (by (try simp only [List.map_toArray, List.map_cons, List.map_nil]); first | done | rfl | (simp only [List.length_drop, List.length_take]; rfl)) ?_; (with_reducible refine (class_colons.calls  t202 _ A2.out).mono ?_); rintro e w4 ⟨v203, rfl, ho0, hb⟩; refine ⟨_, rfl, ?_⟩; have n0_ := Aside0.mk (Kd.R_lower ho0 (below_size (by repeat (first | (with_reducible first | exact HB.out | apply below_alloc | apply pw_below_drewN | apply below_drew1) | exact HB.out)))); have n1_ := Aside0.mk (below_step (by repeat (first | (with_reducible first | exact HB.out | apply below_alloc | apply pw_below_drewN | apply below_drew1) | exact HB.out)) hb); clear HB; have HO204 := n0_; have HB := n1_; clear n0_ n1_; (try clear hb); (try clear hb2); (try clear hk); (try clear hi); (try clear ho0); obtain ⟨Ao5, co5, eo5⟩ := Kd.R_slice HO204.out; subst eo5) | ((with_reducible refine gate_callee (f := 58) rfl ?_); refine goesL_ (some 6) rfl rfl Tryz.func58 (by kernel_rfl) rfl #[.slice Ao5 t202.length co5, .string a0] rfl (by (try simp only [List.map_toArray, List.map_cons, List.map_nil]); first | done | rfl | (simp only [List.length_drop, List.length_take]; rfl)) ?_; (with_reducible refine (class_turned.calls k _ _ t202 a0 t205 t206 _ ?side1 ?side2 A3.out).mono ?_); (case side1 => repeat (first | exact (Kd.R_reads' HO204.out).2.2 | (with_reducible refine Kd.C_alloc ?_ _) | (with_reducible refine Kd.C_drewN ?_ _) | (with_reducible refine Kd.C_drew ?_))); (case side2 => exact (Kd.R_reads' HO204.out).2.1); rintro e w6 ⟨v207, rfl, ho0, hb⟩; refine ⟨_, rfl, ?_⟩; have n0_ := Aside0.mk (Kd.R_below (by (with_reducible repeat (first | apply Kd.R_alloc | apply Kd.R_drewN | apply Kd.R_drew)); exact HO204.out) hb); have n1_ := Aside0.mk (Kd.R_lower ho0 (below_size (by repeat (first | (with_reducible first | exact HB.out | apply below_alloc | apply pw_below_drewN | apply below_drew1) | exact HB.out)))); have n2_ := Aside0.mk (below_step (by repeat (first | (with_reducible first | exact HB.out | apply below_alloc | apply pw_below_drewN | apply below_drew1) | exact HB.out)) hb); clear HO204; clear HB; have HO204 := n0_; have HO208 := n1_; have HB := n2_; clear n0_ n1_ n2_; (try clear hb); (try clear hb2); (try clear hk); (try clear hi); (try clear ho0)))
 go_ret2
 exact ⟨_, by first | rfl | (simp [errW_none, errW_some] <;> rfl) | (simp [*, errW_none, errW_some] <;> rfl), by (with_reducible repeat (first | apply Kd.R_alloc | apply Kd.R_drewN | apply Kd.R_drew)); exact HO208.out, by repeat (first | (with_reducible first | exact HB.out | apply below_alloc | apply pw_below_drewN | apply below_drew1) | exact HB.out)⟩
end Go.Proofs.YtheheijhijeljaaGreatDoor.HBracketWrites

