-- Made by wip/hyb (a program of this session over the kit's print); its parts marked 'own text' are typed by hand.
import Derived.Test.YtheheijhijeljaaGreatDoorHBracketWritesx0
import Derived.Test.YtheheijhijeljaaGreatDoorHBracketWritesx5
namespace Go.Proofs.YtheheijhijeljaaGreatDoor.HBracketWrites
open Go.RowKit Go.Proofs.YtheheijhijeljaaGreatDoorW.PrintWords Go.Proofs.YtheheijhijeljaaGreatDoorW.PrintLast Go.Proofs.YtheheijhijeljaaGreatDoorW.PrintMore
attribute [local go_sem] max2_int min2_int max_two min_two max_three min_three max_four min_four   -- for this text's walks alone
set_option linter.unusedVariables false
set_option linter.unusedSimpArgs false
mutual
def bracket_digit.j0 : Nat → Int → Bool → Option (Int)
 | 0, _, _ => none
 | k + 1, x0, x3 => if x3 = true then (some ((x0 - 48) % 256)) else (if x0 ≥ 97 then (bracket_digit.j1 k x0 (decide (x0 ≤ 102))) else (bracket_digit.j1 k x0 false))
def bracket_digit.j1 : Nat → Int → Bool → Option (Int)
 | 0, _, _ => none
 | k + 1, x0, x13 => if x13 = true then (some (((x0 - 97) % 256) + 10)) else (if x0 ≥ 65 then (if x0 ≤ 70 then (some (((x0 - 65) % 256) + 10)) else (some (-1))) else (some (-1)))
end
def bracket_digit.f (k : Nat) (a0 : Int) : Option (Int) := if a0 ≥ 48 then (bracket_digit.j0 k a0 (decide (a0 ≤ 57))) else (bracket_digit.j0 k a0 false)
theorem bracket_digit.mono_l : ∀ k, (∀ y0 y1, LeO (bracket_digit.j0 k y0 y1) (bracket_digit.j0 (k + 1) y0 y1)) ∧ (∀ y0 y1, LeO (bracket_digit.j1 k y0 y1) (bracket_digit.j1 (k + 1) y0 y1))
 | 0 => ⟨fun _ _ r h => by simp [bracket_digit.j0] at h, fun _ _ r h => by simp [bracket_digit.j1] at h⟩
 | k + 1 => by
  obtain ⟨ih0, ih1⟩ := bracket_digit.mono_l k
  refine ⟨?_, ?_⟩
  ·intro y0 y1
   unfold bracket_digit.j0
   repeat' first
   | (with_reducible exact ih0 _ _)
   | (with_reducible exact ih1 _ _)
   | (with_reducible exact LeO.refl _)
   | (with_reducible exact LeO.none _)
   | (with_reducible refine LeO.ite ?_ ?_)
   | (with_reducible refine LeO.bind ?_ (fun _ => ?_))
   | exact ih0 _ _
   | exact ih1 _ _
   | exact LeO.none _
   | refine LeO.ite ?_ ?_
   | refine LeO.bind ?_ (fun _ => ?_)
  ·intro y0 y1
   unfold bracket_digit.j1
   repeat' first
   | (with_reducible exact ih0 _ _)
   | (with_reducible exact ih1 _ _)
   | (with_reducible exact LeO.refl _)
   | (with_reducible exact LeO.none _)
   | (with_reducible refine LeO.ite ?_ ?_)
   | (with_reducible refine LeO.bind ?_ (fun _ => ?_))
   | exact ih0 _ _
   | exact ih1 _ _
   | exact LeO.none _
   | refine LeO.ite ?_ ?_
   | refine LeO.bind ?_ (fun _ => ?_)
theorem bracket_digit.mono : ∀ a0 k, LeO (bracket_digit.f k a0) (bracket_digit.f (k + 1) a0) := by
 intro a0 k
 obtain ⟨ih0, ih1⟩ := bracket_digit.mono_l k
 unfold bracket_digit.f
 repeat' first
   | (with_reducible exact ih0 _ _)
   | (with_reducible exact ih1 _ _)
   | (with_reducible exact LeO.refl _)
   | (with_reducible exact LeO.none _)
   | (with_reducible refine LeO.ite ?_ ?_)
   | (with_reducible refine LeO.bind ?_ (fun _ => ?_))
   | exact ih0 _ _
   | exact ih1 _ _
   | exact LeO.none _
   | refine LeO.ite ?_ ?_
   | refine LeO.bind ?_ (fun _ => ?_)
set_option maxHeartbeats 8000000 in
set_option maxRecDepth 100000 in
theorem bracket_digit.calls (k : Nat) (a0 : Int) (r : Int) (w : World) (h : bracket_digit.f k a0 = some r) :
  Calls Tryz.prog 54 #[.int .u8 a0] w fun e w' => e = .returned (.int .i64 r) ∧ Drawn0 w w' := by
 have H : (if a0 ≥ 48 then (bracket_digit.j0 k a0 (decide (a0 ≤ 57))) else (bracket_digit.j0 k a0 false)) = some r := h
 clear h
 have HC2 := Aside0.mk H
 clear H
 go_enter Tryz.func54, Tryz.ntmps54
 go_upto_region 1 with (fail)
 go_cut [3] (fun v3 wc => ∃ (kq : Nat) (x3_1 : Bool), v3 = .bool x3_1 ∧ Aside0 (bracket_digit.j0 kq a0 x3_1 = some r) ∧ Aside0 (kq ≤ k) ∧ Drawn0 w wc)
 case first =>
  have H := HC2.out
  clear HC2
  by_cases c3 : a0 ≥ 48
  ·rw [if_pos c3] at H
   have c3b0 : decide (48 ≤ a0) = true := decide_eq_true c3
   clear c3
   (first | rw [c3b0] | (simp only [i64_w, i32_w]; rw [c3b0]) | skip)
   have H' := Aside0.mk H
   clear H
   go_wp2
   go_meet
   case rel => exact ⟨_, (decide (a0 ≤ 57)), (by first | rfl | (simp; done) | (simp [*]; done)), H', ⟨by first | omega | exact Nat.le_refl _⟩, by repeat (first | exact Drawn0.refl _ | apply Drawn0.step)⟩
  ·rw [if_neg c3] at H
   have c3b0 : decide (48 ≤ a0) = false := decide_eq_false c3
   clear c3
   (first | rw [c3b0] | (simp only [i64_w, i32_w]; rw [c3b0]) | skip)
   have H' := Aside0.mk H
   clear H
   go_wp2
   go_meet
   case rel => exact ⟨_, (false), (by first | rfl | (simp; done) | (simp [*]; done)), H', ⟨by first | omega | exact Nat.le_refl _⟩, by repeat (first | exact Drawn0.refl _ | apply Drawn0.step)⟩
 case rest =>
  clear HC2
  try clear p2
  try clear c3
  try clear c3b0
  obtain ⟨kq, x3_1, rfl, HA, HJ1, ⟨mc1, rfl⟩⟩ := hcut
  cases kq with
  | zero => exact absurd HA.out (by simp [bracket_digit.j0])
  | succ kj1 =>
   have H := HA.out
   clear HA
   simp only [bracket_digit.j0] at H
   by_cases c4 : x3_1 = true
   ·subst c4
    have H1 : (some ((a0 - 48) % 256)) = some r := by rw [if_pos rfl] at H; exact H
    clear H
    have H := H1
    clear H1
    obtain rfl := Option.some.inj H
    go_wp2
    go_ret
    exact ⟨by first | rfl | (simp; done) | (simp [*]; done), by repeat (first | exact Drawn0.refl _ | apply Drawn0.step)⟩
   ·replace c4 := Bool.eq_false_iff.mpr c4
    subst c4
    have H1 : (if a0 ≥ 97 then (bracket_digit.j1 kj1 a0 (decide (a0 ≤ 102))) else (bracket_digit.j1 kj1 a0 false)) = some r := by rw [if_neg (show ¬ (false = true) by decide)] at H; exact H
    clear H
    have H := H1
    clear H1
    have HC5 := Aside0.mk H
    clear H
    go_upto_region 3 with (fail)
    go_cut [13] (fun v13 wc => ∃ (kq : Nat) (x13_4 : Bool), v13 = .bool x13_4 ∧ Aside0 (bracket_digit.j1 kq a0 x13_4 = some r) ∧ Aside0 (kq ≤ kj1) ∧ Drawn0 w wc)
    case first =>
     have H := HC5.out
     clear HC5
     by_cases c6 : a0 ≥ 97
     ·rw [if_pos c6] at H
      have c6b0 : decide (97 ≤ a0) = true := decide_eq_true c6
      clear c6
      (first | rw [c6b0] | (simp only [i64_w, i32_w]; rw [c6b0]) | skip)
      have H' := Aside0.mk H
      clear H
      go_wp2
      go_meet
      case rel => exact ⟨_, (decide (a0 ≤ 102)), (by first | rfl | (simp; done) | (simp [*]; done)), H', ⟨by have := HJ1.out; first | omega | exact Nat.le_refl _⟩, by repeat (first | exact Drawn0.refl _ | apply Drawn0.step)⟩
     ·rw [if_neg c6] at H
      have c6b0 : decide (97 ≤ a0) = false := decide_eq_false c6
      clear c6
      (first | rw [c6b0] | (simp only [i64_w, i32_w]; rw [c6b0]) | skip)
      have H' := Aside0.mk H
      clear H
      go_wp2
      go_meet
      case rel => exact ⟨_, (false), (by first | rfl | (simp; done) | (simp [*]; done)), H', ⟨by have := HJ1.out; first | omega | exact Nat.le_refl _⟩, by repeat (first | exact Drawn0.refl _ | apply Drawn0.step)⟩
    case rest =>
     clear HC5
     try clear c1
     try clear p2
     try clear c3
     try clear c3b0
     try clear c4
     try clear c5
     try clear c6
     try clear c6b0
     try clear p2
     obtain ⟨kq, x13_4, rfl, HA, HJ4, ⟨mc4, rfl⟩⟩ := hcut
     cases kq with
     | zero => exact absurd HA.out (by simp [bracket_digit.j1])
     | succ kj4 =>
      have H := HA.out
      clear HA
      simp only [bracket_digit.j1] at H
      by_cases c7 : x13_4 = true
      ·subst c7
       have H1 : (some (((a0 - 97) % 256) + 10)) = some r := by rw [if_pos rfl] at H; exact H
       clear H
       have H := H1
       clear H1
       obtain rfl := Option.some.inj H
       go_wp2
       go_ret
       exact ⟨by first | rfl | (simp; done) | (simp [*]; done), by repeat (first | exact Drawn0.refl _ | apply Drawn0.step)⟩
      ·replace c7 := Bool.eq_false_iff.mpr c7
       subst c7
       have H1 : (if a0 ≥ 65 then (if a0 ≤ 70 then (some (((a0 - 65) % 256) + 10)) else (some (-1))) else (some (-1))) = some r := by rw [if_neg (show ¬ (false = true) by decide)] at H; exact H
       clear H
       have H := H1
       clear H1
       by_cases c8 : a0 ≥ 65
       ·rw [if_pos c8] at H
        have c8b0 : decide (65 ≤ a0) = true := decide_eq_true c8
        clear c8
        by_cases c9 : a0 ≤ 70
        ·rw [if_pos c9] at H
         have c9b0 : decide (a0 ≤ 70) = true := decide_eq_true c9
         clear c9
         obtain rfl := Option.some.inj H
         go_wp2
         go_ret
         exact ⟨by first | rfl | (simp; done) | (simp [*]; done), by repeat (first | exact Drawn0.refl _ | apply Drawn0.step)⟩
        ·rw [if_neg c9] at H
         have c9b0 : decide (a0 ≤ 70) = false := decide_eq_false c9
         clear c9
         obtain rfl := Option.some.inj H
         go_wp2
         go_ret
         exact ⟨by first | rfl | (simp; done) | (simp [*]; done), by repeat (first | exact Drawn0.refl _ | apply Drawn0.step)⟩
       ·rw [if_neg c8] at H
        have c8b0 : decide (65 ≤ a0) = false := decide_eq_false c8
        clear c8
        obtain rfl := Option.some.inj H
        go_wp2
        go_ret
        exact ⟨by first | rfl | (simp; done) | (simp [*]; done), by repeat (first | exact Drawn0.refl _ | apply Drawn0.step)⟩
mutual
def bracket_long.l0 : Nat → ByteArray → Int → Int → Option (Int × Int × Int)
 | 0, _, _, _ => none
 | k + 1, x0, x2, x5 => if x5 < (x0.size : Int) then (if 0 ≤ x5 then ((bracket_digit.f k (bt x0 x5)).bind fun t209 => (if (bt x0 x5) = 125 then (if x5 > 3 then (bracket_long.j1 k x0 x2 x5 t209 (decide (x2 ≤ 1114111))) else (bracket_long.j1 k x0 x2 x5 t209 false)) else (bracket_long.j1 k x0 x2 x5 t209 false))) else (none)) else (some (0, 0, 82))
def bracket_long.j1 : Nat → ByteArray → Int → Int → Int → Bool → Option (Int × Int × Int)
 | 0, _, _, _, _, _ => none
 | k + 1, x0, x2, x5, x6, x17 => if x17 = true then (some (x2, wrap64 (x5 + 1), 0)) else (if x6 < 0 then (some (0, 0, 80)) else (if (wrap64 (x5 - 3)) = 6 then (some (0, 0, 80)) else (bracket_long.l0 k x0 (wrap64 ((wrap64 (16 * x2)) + x6)) (wrap64 (x5 + 1)))))
end
def bracket_long.f (k : Nat) (a0 : ByteArray) : Option (Int × Int × Int) := bracket_long.l0 k a0 0 3
theorem bracket_long.mono_l : ∀ k, (∀ y0 y1 y2, LeO (bracket_long.l0 k y0 y1 y2) (bracket_long.l0 (k + 1) y0 y1 y2)) ∧ (∀ y0 y1 y2 y3 y4, LeO (bracket_long.j1 k y0 y1 y2 y3 y4) (bracket_long.j1 (k + 1) y0 y1 y2 y3 y4))
 | 0 => ⟨fun _ _ _ r h => by simp [bracket_long.l0] at h, fun _ _ _ _ _ r h => by simp [bracket_long.j1] at h⟩
 | k + 1 => by
  obtain ⟨ih0, ih1⟩ := bracket_long.mono_l k
  refine ⟨?_, ?_⟩
  ·intro y0 y1 y2
   unfold bracket_long.l0
   repeat' first
   | (with_reducible exact ih0 _ _ _)
   | (with_reducible exact ih1 _ _ _ _ _)
   | (with_reducible exact bracket_digit.mono _ _)
   | (with_reducible exact LeO.refl _)
   | (with_reducible exact LeO.none _)
   | (with_reducible refine LeO.ite ?_ ?_)
   | (with_reducible refine LeO.bind ?_ (fun _ => ?_))
   | exact ih0 _ _ _
   | exact ih1 _ _ _ _ _
   | exact bracket_digit.mono _ _
   | exact LeO.none _
   | refine LeO.ite ?_ ?_
   | refine LeO.bind ?_ (fun _ => ?_)
  ·intro y0 y1 y2 y3 y4
   unfold bracket_long.j1
   repeat' first
   | (with_reducible exact ih0 _ _ _)
   | (with_reducible exact ih1 _ _ _ _ _)
   | (with_reducible exact bracket_digit.mono _ _)
   | (with_reducible exact LeO.refl _)
   | (with_reducible exact LeO.none _)
   | (with_reducible refine LeO.ite ?_ ?_)
   | (with_reducible refine LeO.bind ?_ (fun _ => ?_))
   | exact ih0 _ _ _
   | exact ih1 _ _ _ _ _
   | exact bracket_digit.mono _ _
   | exact LeO.none _
   | refine LeO.ite ?_ ?_
   | refine LeO.bind ?_ (fun _ => ?_)
theorem bracket_long.mono : ∀ a0 k, LeO (bracket_long.f k a0) (bracket_long.f (k + 1) a0) := by
 intro a0 k
 obtain ⟨ih0, ih1⟩ := bracket_long.mono_l k
 unfold bracket_long.f
 repeat' first
   | (with_reducible exact ih0 _ _ _)
   | (with_reducible exact ih1 _ _ _ _ _)
   | (with_reducible exact bracket_digit.mono _ _)
   | (with_reducible exact LeO.refl _)
   | (with_reducible exact LeO.none _)
   | (with_reducible refine LeO.ite ?_ ?_)
   | (with_reducible refine LeO.bind ?_ (fun _ => ?_))
   | exact ih0 _ _ _
   | exact ih1 _ _ _ _ _
   | exact bracket_digit.mono _ _
   | exact LeO.none _
   | refine LeO.ite ?_ ?_
   | refine LeO.bind ?_ (fun _ => ?_)
set_option maxHeartbeats 8000000 in
set_option maxRecDepth 100000 in
theorem bracket_long.calls (k : Nat) (a0 : ByteArray) (r1 : Int) (r2 : Int) (r3 : Int) (w : World) (h : bracket_long.f k a0 = some (r1, r2, r3)) :
  Calls Tryz.prog 25 #[.string a0] w fun e w' => e = .returned (.tuple #[.int .i64 r1, .int .i64 r2, .int .i64 r3]) ∧ Drawn0 w w' := by
 have H : (bracket_long.l0 k a0 0 3) = some (r1, r2, r3) := h
 clear h
 have H' := Aside0.mk H
 clear H
 go_enter Tryz.func25, Tryz.ntmps25
 go_wp2
 go_loopg [2, 5] k (fun kq v2 v5 w' => ∃ (x2_1 : Int) (x5_1 : Int), v2 = .int .i64 x2_1 ∧ v5 = .int .i64 x5_1 ∧ Aside0 (bracket_long.l0 kq a0 x2_1 x5_1 = some (r1, r2, r3)) ∧ Aside0 (kq ≤ k) ∧ Drawn0 w w')
 case atStart => exact ⟨(0), (3), (by first | rfl | (simp; done) | (simp [*]; done)), (by first | rfl | (simp; done) | (simp [*]; done)), H', ⟨Nat.le_refl _⟩, by repeat (first | exact Drawn0.refl _ | apply Drawn0.step)⟩
 case round =>
  clear H'
  obtain ⟨x2_1, x5_1, rfl, rfl, HA, HK1, ⟨m1, rfl⟩⟩ := hrel
  cases gk with
  | zero => exact absurd HA.out (by simp [bracket_long.l0])
  | succ k1 =>
   have H := HA.out
   clear HA
   simp only [bracket_long.l0] at H
   by_cases c2 : x5_1 < (a0.size : Int)
   ·rw [if_pos c2] at H
    have c2b0 : decide (x5_1 < (a0.size : Int)) = true := decide_eq_true c2
    clear c2
    by_cases c3 : 0 ≤ x5_1
    ·rw [if_pos c3] at H
     have c3b0 : decide (0 ≤ x5_1) = true := decide_eq_true c3
     clear c3
     replace H := Option.bind_eq_some_iff.mp H
     obtain ⟨t209, A50, H⟩ := H
     replace H : (if (bt a0 x5_1) = 125 then (if x5_1 > 3 then (bracket_long.j1 k1 a0 x2_1 x5_1 t209 (decide (x2_1 ≤ 1114111))) else (bracket_long.j1 k1 a0 x2_1 x5_1 t209 false)) else (bracket_long.j1 k1 a0 x2_1 x5_1 t209 false)) = some (r1, r2, r3) := H
     have A5 := Aside0.mk A50
     clear A50
     have HC6 := Aside0.mk H
     clear H
     have p4 : 0 ≤ (x5_1 : Int) := of_decide_eq_true (by first | (with_reducible assumption) | assumption)
     have q4 : x5_1 < (a0.size : Int) := of_decide_eq_true (by first | (with_reducible assumption) | assumption)
     have hx4 := bt_at a0 x5_1
     replace p4 := eq_true p4
     replace q4 := eq_true q4
     go_upto_region 5 with (first | ((with_reducible refine gate_callee (f := 54) rfl ?_); refine goesL_ (some 16) rfl rfl Tryz.func54 (by kernel_rfl) rfl #[.int .u8 (bt a0 x5_1)] rfl (by (try simp only [List.map_toArray, List.map_cons, List.map_nil]); first | done | rfl | (simp only [List.length_drop, List.length_take]; rfl)) ?_; (with_reducible refine (bracket_digit.calls k1 (bt a0 x5_1) t209 _ A5.out).mono ?_); rintro e w' ⟨rfl, ⟨nd, rfl⟩⟩; refine ⟨_, rfl, ?_⟩))
     (try simp only [Act.put, List.setIfInBounds_toArray, List.set_cons_zero, List.set_cons_succ])
     go_cut [17] (fun v17 wc => ∃ (kq : Nat) (x17_5 : Bool), v17 = .bool x17_5 ∧ Aside0 (bracket_long.j1 kq a0 x2_1 x5_1 t209 x17_5 = some (r1, r2, r3)) ∧ Aside0 (kq ≤ k1) ∧ Drawn0 w wc)
     case first =>
      have H := HC6.out
      clear HC6
      by_cases c8 : (bt a0 x5_1) = 125
      ·rw [if_pos c8] at H
       have c8b0 : ((bt a0 x5_1) == 125) = true := beq_iff_eq.mpr c8
       have c8b1 : ((bt a0 x5_1) != 125) = false := bne_eq_false_iff_eq.mpr c8
       clear c8
       (first | rw [c8b0] | (simp only [i64_w, i32_w]; rw [c8b0]) | skip)
       by_cases c9 : x5_1 > 3
       ·rw [if_pos c9] at H
        have c9b0 : decide (3 < x5_1) = true := decide_eq_true c9
        clear c9
        have H' := Aside0.mk H
        clear H
        have p7 : 0 ≤ (x5_1 : Int) := of_decide_eq_true (by first | (with_reducible assumption) | assumption)
        have q7 : x5_1 < (a0.size : Int) := of_decide_eq_true (by first | (with_reducible assumption) | assumption)
        have hx7 := bt_at a0 x5_1
        replace p7 := eq_true p7
        replace q7 := eq_true q7
        go_wp2
        go_meet
        case rel => exact ⟨_, (decide (x2_1 ≤ 1114111)), (by first | rfl | (simp; done) | (simp [*]; done)), H', ⟨by have := HK1.out; first | omega | exact Nat.le_refl _⟩, by repeat (first | exact Drawn0.refl _ | apply Drawn0.step)⟩
       ·rw [if_neg c9] at H
        have c9b0 : decide (3 < x5_1) = false := decide_eq_false c9
        clear c9
        have H' := Aside0.mk H
        clear H
        have p7 : 0 ≤ (x5_1 : Int) := of_decide_eq_true (by first | (with_reducible assumption) | assumption)
        have q7 : x5_1 < (a0.size : Int) := of_decide_eq_true (by first | (with_reducible assumption) | assumption)
        have hx7 := bt_at a0 x5_1
        replace p7 := eq_true p7
        replace q7 := eq_true q7
        go_wp2
        go_meet
        case rel => exact ⟨_, (false), (by first | rfl | (simp; done) | (simp [*]; done)), H', ⟨by have := HK1.out; first | omega | exact Nat.le_refl _⟩, by repeat (first | exact Drawn0.refl _ | apply Drawn0.step)⟩
      ·rw [if_neg c8] at H
       have c8b0 : ((bt a0 x5_1) == 125) = false := beq_eq_false_iff_ne.mpr c8
       have c8b1 : ((bt a0 x5_1) != 125) = true := bne_iff_ne.mpr c8
       (first | rw [c8b0] | (simp only [i64_w, i32_w]; rw [c8b0]) | skip)
       have H' := Aside0.mk H
       clear H
       have p7 : 0 ≤ (x5_1 : Int) := of_decide_eq_true (by first | (with_reducible assumption) | assumption)
       have q7 : x5_1 < (a0.size : Int) := of_decide_eq_true (by first | (with_reducible assumption) | assumption)
       have hx7 := bt_at a0 x5_1
       replace p7 := eq_true p7
       replace q7 := eq_true q7
       go_wp2
       go_meet
       case rel => exact ⟨_, (false), (by first | rfl | (simp; done) | (simp [*]; done)), H', ⟨by have := HK1.out; first | omega | exact Nat.le_refl _⟩, by repeat (first | exact Drawn0.refl _ | apply Drawn0.step)⟩
     case rest =>
      clear HC6
      try clear c2
      try clear c2b0
      try clear p2
      try clear c3
      try clear c3b0
      try clear p4
      try clear q4
      try clear hx4
      try clear c5
      try clear p7
      try clear q7
      try clear hx7
      try clear c8
      try clear c8b0
      try clear c8b1
      try clear c9
      try clear c9b0
      try clear p4
      try clear p7
      try clear q4
      try clear q7
      obtain ⟨kq, x17_5, rfl, HA, HJ5, ⟨mc5, rfl⟩⟩ := hcut
      cases kq with
      | zero => exact absurd HA.out (by simp [bracket_long.j1])
      | succ kj5 =>
       have H := HA.out
       clear HA
       simp only [bracket_long.j1] at H
       by_cases c10 : x17_5 = true
       ·subst c10
        have H1 : (some (x2_1, wrap64 (x5_1 + 1), 0)) = some (r1, r2, r3) := by rw [if_pos rfl] at H; exact H
        clear H
        have H := H1
        clear H1
        simp only [Option.some.injEq, Prod.mk.injEq] at H
        obtain ⟨rfl, rfl, rfl⟩ := H
        go_wp2
        go_ret3
        exact ⟨by first | rfl | (simp; done) | (simp [*]; done), by repeat (first | exact Drawn0.refl _ | apply Drawn0.step)⟩
       ·replace c10 := Bool.eq_false_iff.mpr c10
        subst c10
        have H1 : (if t209 < 0 then (some (0, 0, 80)) else (if (wrap64 (x5_1 - 3)) = 6 then (some (0, 0, 80)) else (bracket_long.l0 kj5 a0 (wrap64 ((wrap64 (16 * x2_1)) + t209)) (wrap64 (x5_1 + 1))))) = some (r1, r2, r3) := by rw [if_neg (show ¬ (false = true) by decide)] at H; exact H
        clear H
        have H := H1
        clear H1
        by_cases c11 : t209 < 0
        ·rw [if_pos c11] at H
         have c11b0 : decide (t209 < 0) = true := decide_eq_true c11
         clear c11
         simp only [Option.some.injEq, Prod.mk.injEq] at H
         obtain ⟨rfl, rfl, rfl⟩ := H
         go_wp2
         go_ret3
         exact ⟨by first | rfl | (simp; done) | (simp [*]; done), by repeat (first | exact Drawn0.refl _ | apply Drawn0.step)⟩
        ·rw [if_neg c11] at H
         have c11b0 : decide (t209 < 0) = false := decide_eq_false c11
         clear c11
         by_cases c12 : (wrap64 (x5_1 - 3)) = 6
         ·rw [if_pos c12] at H
          have c12b0 : ((wrap64 (x5_1 - 3)) == 6) = true := beq_iff_eq.mpr c12
          have c12b1 : ((wrap64 (x5_1 - 3)) != 6) = false := bne_eq_false_iff_eq.mpr c12
          clear c12
          simp only [Option.some.injEq, Prod.mk.injEq] at H
          obtain ⟨rfl, rfl, rfl⟩ := H
          go_wp2
          go_ret3
          exact ⟨by first | rfl | (simp; done) | (simp [*]; done), by repeat (first | exact Drawn0.refl _ | apply Drawn0.step)⟩
         ·rw [if_neg c12] at H
          have c12b0 : ((wrap64 (x5_1 - 3)) == 6) = false := beq_eq_false_iff_ne.mpr c12
          have c12b1 : ((wrap64 (x5_1 - 3)) != 6) = true := bne_iff_ne.mpr c12
          have H' := Aside0.mk H
          clear H
          go_wp2
          go_roundg kj5
          case measure => have := HK1.out; have := HJ5.out; omega
          case rel => exact ⟨(wrap64 ((wrap64 (16 * x2_1)) + t209)), (wrap64 (x5_1 + 1)), (by first | rfl | (simp; done) | (simp [*]; done)), (by first | rfl | (simp; done) | (simp [*]; done)), H', ⟨by have := HK1.out; have := HJ5.out; omega⟩, by repeat (first | exact Drawn0.refl _ | apply Drawn0.step)⟩
    ·rw [if_neg c3] at H
     exact absurd H (by simp)
   ·rw [if_neg c2] at H
    have c2b0 : decide (x5_1 < (a0.size : Int)) = false := decide_eq_false c2
    clear c2
    simp only [Option.some.injEq, Prod.mk.injEq] at H
    obtain ⟨rfl, rfl, rfl⟩ := H
    go_wp2
    go_ret3
    exact ⟨by first | rfl | (simp; done) | (simp [*]; done), by repeat (first | exact Drawn0.refl _ | apply Drawn0.step)⟩
def bracket_short.l0 : Nat → ByteArray → Int → Int → Option (Int × Int × Int)
 | 0, _, _, _ => none
 | k + 1, x0, x2, x5 => if x5 < 4 then (if x5 = (x0.size : Int) then (some (0, 0, 82)) else (if 0 ≤ x5 then (if x5 < (x0.size : Int) then ((bracket_digit.f k (bt x0 x5)).bind fun t210 => (if t210 < 0 then (some (0, 0, 80)) else (bracket_short.l0 k x0 (wrap64 ((wrap64 (16 * x2)) + t210)) (wrap64 (x5 + 1))))) else (none)) else (none))) else (some (x2, 4, 0))
def bracket_short.f (k : Nat) (a0 : ByteArray) : Option (Int × Int × Int) := bracket_short.l0 k a0 0 2
theorem bracket_short.mono_l : ∀ k, (∀ y0 y1 y2, LeO (bracket_short.l0 k y0 y1 y2) (bracket_short.l0 (k + 1) y0 y1 y2))
 | 0 => fun _ _ _ r h => by simp [bracket_short.l0] at h
 | k + 1 => by
  have ih0 := bracket_short.mono_l k
  ·intro y0 y1 y2
   unfold bracket_short.l0
   repeat' first
   | (with_reducible exact ih0 _ _ _)
   | (with_reducible exact bracket_digit.mono _ _)
   | (with_reducible exact LeO.refl _)
   | (with_reducible exact LeO.none _)
   | (with_reducible refine LeO.ite ?_ ?_)
   | (with_reducible refine LeO.bind ?_ (fun _ => ?_))
   | exact ih0 _ _ _
   | exact bracket_digit.mono _ _
   | exact LeO.none _
   | refine LeO.ite ?_ ?_
   | refine LeO.bind ?_ (fun _ => ?_)
theorem bracket_short.mono : ∀ a0 k, LeO (bracket_short.f k a0) (bracket_short.f (k + 1) a0) := by
 intro a0 k
 have ih0 := bracket_short.mono_l k
 unfold bracket_short.f
 repeat' first
   | (with_reducible exact ih0 _ _ _)
   | (with_reducible exact bracket_digit.mono _ _)
   | (with_reducible exact LeO.refl _)
   | (with_reducible exact LeO.none _)
   | (with_reducible refine LeO.ite ?_ ?_)
   | (with_reducible refine LeO.bind ?_ (fun _ => ?_))
   | exact ih0 _ _ _
   | exact bracket_digit.mono _ _
   | exact LeO.none _
   | refine LeO.ite ?_ ?_
   | refine LeO.bind ?_ (fun _ => ?_)
set_option maxHeartbeats 8000000 in
set_option maxRecDepth 100000 in
theorem bracket_short.calls (k : Nat) (a0 : ByteArray) (r1 : Int) (r2 : Int) (r3 : Int) (w : World) (h : bracket_short.f k a0 = some (r1, r2, r3)) :
  Calls Tryz.prog 26 #[.string a0] w fun e w' => e = .returned (.tuple #[.int .i64 r1, .int .i64 r2, .int .i64 r3]) ∧ Drawn0 w w' := by
 have H : (bracket_short.l0 k a0 0 2) = some (r1, r2, r3) := h
 clear h
 have H' := Aside0.mk H
 clear H
 go_enter Tryz.func26, Tryz.ntmps26
 go_wp2
 go_loopg [2, 5] k (fun kq v2 v5 w' => ∃ (x2_1 : Int) (x5_1 : Int), v2 = .int .i64 x2_1 ∧ v5 = .int .i64 x5_1 ∧ Aside0 (bracket_short.l0 kq a0 x2_1 x5_1 = some (r1, r2, r3)) ∧ Aside0 (kq ≤ k) ∧ Drawn0 w w')
 case atStart => exact ⟨(0), (2), (by first | rfl | (simp; done) | (simp [*]; done)), (by first | rfl | (simp; done) | (simp [*]; done)), H', ⟨Nat.le_refl _⟩, by repeat (first | exact Drawn0.refl _ | apply Drawn0.step)⟩
 case round =>
  clear H'
  obtain ⟨x2_1, x5_1, rfl, rfl, HA, HK1, ⟨m1, rfl⟩⟩ := hrel
  cases gk with
  | zero => exact absurd HA.out (by simp [bracket_short.l0])
  | succ k1 =>
   have H := HA.out
   clear HA
   simp only [bracket_short.l0] at H
   by_cases c2 : x5_1 < 4
   ·rw [if_pos c2] at H
    have c2b0 : decide (x5_1 < 4) = true := decide_eq_true c2
    clear c2
    by_cases c3 : x5_1 = (a0.size : Int)
    ·rw [if_pos c3] at H
     have c3b0 : (x5_1 == (a0.size : Int)) = true := beq_iff_eq.mpr c3
     have c3b1 : (x5_1 != (a0.size : Int)) = false := bne_eq_false_iff_eq.mpr c3
     clear c3
     simp only [Option.some.injEq, Prod.mk.injEq] at H
     obtain ⟨rfl, rfl, rfl⟩ := H
     go_wp2
     go_ret3
     exact ⟨by first | rfl | (simp; done) | (simp [*]; done), by repeat (first | exact Drawn0.refl _ | apply Drawn0.step)⟩
    ·rw [if_neg c3] at H
     have c3b0 : (x5_1 == (a0.size : Int)) = false := beq_eq_false_iff_ne.mpr c3
     have c3b1 : (x5_1 != (a0.size : Int)) = true := bne_iff_ne.mpr c3
     by_cases c4 : 0 ≤ x5_1
     ·rw [if_pos c4] at H
      have c4b0 : decide (0 ≤ x5_1) = true := decide_eq_true c4
      clear c4
      by_cases c5 : x5_1 < (a0.size : Int)
      ·rw [if_pos c5] at H
       have c5b0 : decide (x5_1 < (a0.size : Int)) = true := decide_eq_true c5
       clear c5
       replace H := Option.bind_eq_some_iff.mp H
       obtain ⟨t210, A70, H⟩ := H
       replace H : (if t210 < 0 then (some (0, 0, 80)) else (bracket_short.l0 k1 a0 (wrap64 ((wrap64 (16 * x2_1)) + t210)) (wrap64 (x5_1 + 1)))) = some (r1, r2, r3) := H
       have A7 := Aside0.mk A70
       clear A70
       by_cases c8 : t210 < 0
       ·rw [if_pos c8] at H
        have c8b0 : decide (t210 < 0) = true := decide_eq_true c8
        clear c8
        simp only [Option.some.injEq, Prod.mk.injEq] at H
        obtain ⟨rfl, rfl, rfl⟩ := H
        have p6 : 0 ≤ (x5_1 : Int) := of_decide_eq_true (by first | (with_reducible assumption) | assumption)
        have q6 : x5_1 < (a0.size : Int) := of_decide_eq_true (by first | (with_reducible assumption) | assumption)
        have hx6 := bt_at a0 x5_1
        replace p6 := eq_true p6
        replace q6 := eq_true q6
        go_wp2_with (first | ((with_reducible refine gate_callee (f := 54) rfl ?_); refine goesL_ (some 18) rfl rfl Tryz.func54 (by kernel_rfl) rfl #[.int .u8 (bt a0 x5_1)] rfl (by (try simp only [List.map_toArray, List.map_cons, List.map_nil]); first | done | rfl | (simp only [List.length_drop, List.length_take]; rfl)) ?_; (with_reducible refine (bracket_digit.calls k1 (bt a0 x5_1) t210 _ A7.out).mono ?_); rintro e w' ⟨rfl, ⟨nd, rfl⟩⟩; refine ⟨_, rfl, ?_⟩))
        go_ret3
        exact ⟨by first | rfl | (simp; done) | (simp [*]; done), by repeat (first | exact Drawn0.refl _ | apply Drawn0.step)⟩
       ·rw [if_neg c8] at H
        have c8b0 : decide (t210 < 0) = false := decide_eq_false c8
        clear c8
        have H' := Aside0.mk H
        clear H
        have p6 : 0 ≤ (x5_1 : Int) := of_decide_eq_true (by first | (with_reducible assumption) | assumption)
        have q6 : x5_1 < (a0.size : Int) := of_decide_eq_true (by first | (with_reducible assumption) | assumption)
        have hx6 := bt_at a0 x5_1
        replace p6 := eq_true p6
        replace q6 := eq_true q6
        go_wp2_with (first | ((with_reducible refine gate_callee (f := 54) rfl ?_); refine goesL_ (some 18) rfl rfl Tryz.func54 (by kernel_rfl) rfl #[.int .u8 (bt a0 x5_1)] rfl (by (try simp only [List.map_toArray, List.map_cons, List.map_nil]); first | done | rfl | (simp only [List.length_drop, List.length_take]; rfl)) ?_; (with_reducible refine (bracket_digit.calls k1 (bt a0 x5_1) t210 _ A7.out).mono ?_); rintro e w' ⟨rfl, ⟨nd, rfl⟩⟩; refine ⟨_, rfl, ?_⟩))
        go_roundg k1
        case measure => have := HK1.out; omega
        case rel => exact ⟨(wrap64 ((wrap64 (16 * x2_1)) + t210)), (wrap64 (x5_1 + 1)), (by first | rfl | (simp; done) | (simp [*]; done)), (by first | rfl | (simp; done) | (simp [*]; done)), H', ⟨by have := HK1.out; omega⟩, by repeat (first | exact Drawn0.refl _ | apply Drawn0.step)⟩
      ·rw [if_neg c5] at H
       exact absurd H (by simp)
     ·rw [if_neg c4] at H
      exact absurd H (by simp)
   ·rw [if_neg c2] at H
    have c2b0 : decide (x5_1 < 4) = false := decide_eq_false c2
    clear c2
    simp only [Option.some.injEq, Prod.mk.injEq] at H
    obtain ⟨rfl, rfl, rfl⟩ := H
    go_wp2
    go_ret3
    exact ⟨by first | rfl | (simp; done) | (simp [*]; done), by repeat (first | exact Drawn0.refl _ | apply Drawn0.step)⟩
-- own text
def numPlain : List Int := [7, 12, 9, 10, 13, 11]
def numLetters : List Int := [97, 102, 116, 110, 114, 118]
def bracket_Number.f (k : Nat) (a0 : ByteArray) : Option (Int × Int × Int) :=
 if a0.toList = ([] : List UInt8) then some (0, 0, 3) else if bt a0 0 = 92 then (if (a0.size : Int) = 1 then some (0, 0, 82) else if 1 < (a0.size : Int) then
  (if bt a0 1 ∈ numLetters then some (numPlain.getD (numLetters.idxOf (bt a0 1)) 0, 2, 0) else if bt a0 1 = 120 then (if 2 < (a0.size : Int) ∧ bt a0 2 = 123 then bracket_long.f k a0 else bracket_short.f k a0)
     else if bt a0 1 < 33 ∨ bt a0 1 > 126 then some (0, 0, 80) else (bracket_letter.f (bt a0 1)).bind fun t => if t = true ∨ 48 ≤ bt a0 1 ∧ bt a0 1 ≤ 57 then some (0, 0, 80) else some (bt a0 1, 2, 0))
  else none) else some (0, 0, 3)
theorem bracket_Number.mono : ∀ a0 k, LeO (bracket_Number.f k a0) (bracket_Number.f (k + 1) a0) := by
 intro a0 k
 unfold bracket_Number.f
 repeat' first
   | (with_reducible exact bracket_long.mono _ _)
   | (with_reducible exact bracket_short.mono _ _)
   | (with_reducible exact LeO.refl _)
   | (with_reducible refine LeO.ite ?_ ?_)
theorem plains_index (j : Nat) (hj : j < 6) : ∀ w, (Instr.index 45 (.agg #[.int .i64 7, .int .i64 12, .int .i64 9, .int .i64 10, .int .i64 13, .int .i64 11]) (.int .i64 (j : Int))).run Tryz.prog w = .ok (.int .i64 (numPlain.getD j 0)) w := by
 intro w
 have h : j = 0 ∨ j = 1 ∨ j = 2 ∨ j = 3 ∨ j = 4 ∨ j = 5 := by omega
 rcases h with rfl | rfl | rfl | rfl | rfl | rfl <;> simp [Instr.index, run_underlying Tryz.underlying45, asIntOf, numPlain, go_sem]
theorem drawn_below {w w' : World} (h : Drawn0 w w') : Below w.heap.size w w' := by
 obtain ⟨m, rfl⟩ := h
 exact pw_below_drewN (Below.refl _ _) m
theorem plains_any (w : World) : Calls Tryz.prog 24 #[] w fun e w' => e = .returned (.agg #[.int .i64 7, .int .i64 12, .int .i64 9, .int .i64 10, .int .i64 13, .int .i64 11]) ∧ Below w.heap.size w w' := by
 go_enter Tryz.func24, Tryz.ntmps24
 go_wp2
 exact bodyPost_ret (v := .agg #[.int .i64 7, .int .i64 12, .int .i64 9, .int .i64 10, .int .i64 13, .int .i64 11]) (by simp [results, Tryz.results24, go_sem]) rfl ⟨rfl, (Below.refl _ _).alloc (Nat.le_refl _) _⟩
set_option maxRecDepth 100000 in
set_option maxHeartbeats 4000000 in
theorem bracket_Number.calls (k : Nat) (a0 : ByteArray) (r1 : Int) (r2 : Int) (r3 : Int) (w : World) (h : bracket_Number.f k a0 = some (r1, r2, r3)) :
  Calls Tryz.prog 9 #[.string a0] w fun e w' => e = .returned (.tuple #[.int .i64 r1, .int .i64 r2, .int .i64 r3]) ∧ Below w.heap.size w w' := by
 have HB := Aside0.mk (Below.refl w.heap.size w)
 have H := h
 clear h
 unfold bracket_Number.f at H
 by_cases c1 : a0.toList = ([] : List UInt8)
 ·rw [if_pos c1] at H
  simp only [Option.some.injEq, Prod.mk.injEq] at H
  obtain ⟨rfl, rfl, rfl⟩ := H
  have c1b0 : (a0.toList == ([] : List UInt8)) = true := beq_iff_eq.mpr c1
  clear c1
  go_enter Tryz.func9, Tryz.ntmps9
  go_wp2
  go_ret3
  exact ⟨rfl, HB.out⟩
 rw [if_neg c1] at H
 have hpos : 0 < a0.size := by
  rcases Nat.eq_zero_or_pos a0.size with h | h
  ·exact absurd (by rw [ByteArray.toList_eq]; exact List.length_eq_zero_iff.1 (by simpa using h)) c1
  ·exact h
 have c1b0 : (a0.toList == ([] : List UInt8)) = false := beq_eq_false_iff_ne.mpr c1
 clear c1
 have hx0 : ∀ h : 0 < a0.size, ((a0[0]'h).toNat : Int) = bt a0 0 := bt_at a0 0
 have qi0 : (0 < (a0.size : Int)) = True := eq_true (by omega)
 have q0 := eq_true hpos
 by_cases c2 : bt a0 0 = 92
 ·rw [if_pos c2] at H
  rw [c2] at hx0
  clear c2
  by_cases c3 : (a0.size : Int) = 1
  ·rw [if_pos c3] at H
   simp only [Option.some.injEq, Prod.mk.injEq] at H
   obtain ⟨rfl, rfl, rfl⟩ := H
   have c3b0 : ((a0.size : Int) == 1) = true := beq_iff_eq.mpr c3
   clear c3
   go_enter Tryz.func9, Tryz.ntmps9
   go_wp2
   go_ret3
   exact ⟨rfl, HB.out⟩
  rw [if_neg c3] at H
  have c3b0 : ((a0.size : Int) == 1) = false := beq_eq_false_iff_ne.mpr c3
  have h1 : 1 < (a0.size : Int) := by omega
  rw [if_pos h1] at H
  have hx1 : ∀ h : 1 < a0.size, ((a0[1]'h).toNat : Int) = bt a0 1 := bt_at a0 1
  have qi1 : (1 < (a0.size : Int)) = True := eq_true h1
  have q1 : (1 < a0.size) = True := eq_true (by omega)
  have hr := bt_range a0 1
  have HI := Aside0.mk (fun (c : Int) (w : World) => strings_IndexByte.calls (⟨#[97, 102, 116, 110, 114, 118]⟩ : ByteArray) c _ w rfl)
  clear c3 h1 hpos
  by_cases c4 : bt a0 1 ∈ numLetters
  ·rw [if_pos c4] at H
   simp only [Option.some.injEq, Prod.mk.injEq] at H
   obtain ⟨rfl, rfl, rfl⟩ := H
   have h6 : bt a0 1 = 97 ∨ bt a0 1 = 102 ∨ bt a0 1 = 116 ∨ bt a0 1 = 110 ∨ bt a0 1 = 114 ∨ bt a0 1 = 118 := by simpa [numLetters] using c4
   clear c4 hr
   rcases h6 with hb | hb | hb | hb | hb | hb
   all_goals
    rw [hb] at hx1 ⊢
    have HC := Aside0.mk (HI.out (bt a0 1))
    rw [hb] at HC
    clear HI hb
    go_enter Tryz.func9, Tryz.ntmps9
    go_wp2_with fail
    refine (HC.out _).mono ?_
    rintro e w1 ⟨rfl, hb1⟩
    have HB1 := Aside0.mk (HB.out.trans (hb1.mono (by simp)))
    clear hb1
    simp only [show Lib.indexByte (⟨#[97, 102, 116, 110, 114, 118]⟩ : ByteArray).data.toList (97 : Int).toNat.toUInt8 = 0 from by decide, show Lib.indexByte (⟨#[97, 102, 116, 110, 114, 118]⟩ : ByteArray).data.toList (102 : Int).toNat.toUInt8 = 1 from by decide, show Lib.indexByte (⟨#[97, 102, 116, 110, 114, 118]⟩ : ByteArray).data.toList (116 : Int).toNat.toUInt8 = 2 from by decide, show Lib.indexByte (⟨#[97, 102, 116, 110, 114, 118]⟩ : ByteArray).data.toList (110 : Int).toNat.toUInt8 = 3 from by decide, show Lib.indexByte (⟨#[97, 102, 116, 110, 114, 118]⟩ : ByteArray).data.toList (114 : Int).toNat.toUInt8 = 4 from by decide, show Lib.indexByte (⟨#[97, 102, 116, 110, 114, 118]⟩ : ByteArray).data.toList (118 : Int).toNat.toUInt8 = 5 from by decide]
    go_wp2_with fail
    refine (plains_any _).mono ?_
    rintro e w2 ⟨rfl, hb2⟩
    have HB2 := Aside0.mk (HB1.out.trans (hb2.mono (HB1.out.size)))
    clear hb2
    have hix0 : ∀ w, (Instr.index 45 (.agg #[.int .i64 7, .int .i64 12, .int .i64 9, .int .i64 10, .int .i64 13, .int .i64 11]) (.int .i64 0)).run Tryz.prog w = .ok (.int .i64 7) w := plains_index 0 (by decide)
    have hix1 : ∀ w, (Instr.index 45 (.agg #[.int .i64 7, .int .i64 12, .int .i64 9, .int .i64 10, .int .i64 13, .int .i64 11]) (.int .i64 1)).run Tryz.prog w = .ok (.int .i64 12) w := plains_index 1 (by decide)
    have hix2 : ∀ w, (Instr.index 45 (.agg #[.int .i64 7, .int .i64 12, .int .i64 9, .int .i64 10, .int .i64 13, .int .i64 11]) (.int .i64 2)).run Tryz.prog w = .ok (.int .i64 9) w := plains_index 2 (by decide)
    have hix3 : ∀ w, (Instr.index 45 (.agg #[.int .i64 7, .int .i64 12, .int .i64 9, .int .i64 10, .int .i64 13, .int .i64 11]) (.int .i64 3)).run Tryz.prog w = .ok (.int .i64 10) w := plains_index 3 (by decide)
    have hix4 : ∀ w, (Instr.index 45 (.agg #[.int .i64 7, .int .i64 12, .int .i64 9, .int .i64 10, .int .i64 13, .int .i64 11]) (.int .i64 4)).run Tryz.prog w = .ok (.int .i64 13) w := plains_index 4 (by decide)
    have hix5 : ∀ w, (Instr.index 45 (.agg #[.int .i64 7, .int .i64 12, .int .i64 9, .int .i64 10, .int .i64 13, .int .i64 11]) (.int .i64 5)).run Tryz.prog w = .ok (.int .i64 11) w := plains_index 5 (by decide)
    go_wp2_with fail
    go_ret3
    exact ⟨by first | (simp [numPlain, numLetters]; done) | (simp [numPlain, numLetters]; decide), HB2.out⟩
  rw [if_neg c4] at H
  have HI2 := Aside0.mk (show ∀ w, Calls Tryz.prog 23 #[.string (⟨#[97, 102, 116, 110, 114, 118]⟩ : ByteArray), .int .u8 (bt a0 1)] w fun e w' => e = .returned (.int .i64 (-1)) ∧ Below w.heap.size w w' from fun w => by
   have h1 := HI.out (bt a0 1) w
   have hv : Lib.indexByte (⟨#[97, 102, 116, 110, 114, 118]⟩ : ByteArray).data.toList (bt a0 1).toNat.toUInt8 = -1 := by
    have key : ∀ c : Fin 256, (c.val : Int) ∉ numLetters → Lib.indexByte (⟨#[97, 102, 116, 110, 114, 118]⟩ : ByteArray).data.toList (c.val : Int).toNat.toUInt8 = -1 := by decide +kernel
    have := key ⟨(bt a0 1).toNat, by omega⟩ (by simpa [Int.toNat_of_nonneg hr.1] using c4)
    rwa [show (((⟨(bt a0 1).toNat, by omega⟩ : Fin 256).val : Nat) : Int) = bt a0 1 from by simp; omega] at this
   rwa [hv] at h1)
  clear HI c4
  by_cases c5 : bt a0 1 = 120
  ·rw [if_pos c5] at H
   rw [c5] at hx1 HI2
   clear hr c5
   by_cases c6 : 2 < (a0.size : Int)
   ·have hx2 : ∀ h : 2 < a0.size, ((a0[2]'h).toNat : Int) = bt a0 2 := bt_at a0 2
    have qi2 : (2 < (a0.size : Int)) = True := eq_true c6
    have q2 : (2 < a0.size) = True := eq_true (by omega)
    by_cases c7 : bt a0 2 = 123
    ·rw [if_pos ⟨c6, c7⟩] at H
     rw [c7] at hx2
     have HL := Aside0.mk (fun w => bracket_long.calls k a0 r1 r2 r3 w H)
     clear H c6 c7
     go_enter Tryz.func9, Tryz.ntmps9
     go_wp2_with fail
     refine (HI2.out _).mono ?_
     rintro e w1 ⟨rfl, hb1⟩
     have HB1 := Aside0.mk (HB.out.trans (hb1.mono (by simp)))
     clear hb1
     go_wp2_with fail
     refine (HL.out _).mono ?_
     rintro e w2 ⟨rfl, hd⟩
     have HB2 := Aside0.mk (HB1.out.trans ((drawn_below hd).mono HB1.out.size))
     clear hd
     go_wp2_with fail
     go_ret3
     exact ⟨rfl, HB2.out⟩
    ·rw [if_neg (fun h => c7 h.2)] at H
     have c7b : (bt a0 2 == 123) = false := beq_eq_false_iff_ne.mpr c7
     have HL := Aside0.mk (fun w => bracket_short.calls k a0 r1 r2 r3 w H)
     clear H c6 c7
     go_enter Tryz.func9, Tryz.ntmps9
     go_wp2_with fail
     refine (HI2.out _).mono ?_
     rintro e w1 ⟨rfl, hb1⟩
     have HB1 := Aside0.mk (HB.out.trans (hb1.mono (by simp)))
     clear hb1
     go_wp2_with fail
     refine (HL.out _).mono ?_
     rintro e w2 ⟨rfl, hd⟩
     have HB2 := Aside0.mk (HB1.out.trans ((drawn_below hd).mono HB1.out.size))
     clear hd
     go_wp2_with fail
     go_ret3
     exact ⟨rfl, HB2.out⟩
   ·rw [if_neg (fun h => c6 h.1)] at H
    have HL := Aside0.mk (fun w => bracket_short.calls k a0 r1 r2 r3 w H)
    have qi2 : (2 < (a0.size : Int)) = False := eq_false c6
    have q2 : (2 < a0.size) = False := eq_false (by omega)
    clear H c6
    go_enter Tryz.func9, Tryz.ntmps9
    go_wp2_with fail
    refine (HI2.out _).mono ?_
    rintro e w1 ⟨rfl, hb1⟩
    have HB1 := Aside0.mk (HB.out.trans (hb1.mono (by simp)))
    clear hb1
    go_wp2_with fail
    refine (HL.out _).mono ?_
    rintro e w2 ⟨rfl, hd⟩
    have HB2 := Aside0.mk (HB1.out.trans ((drawn_below hd).mono HB1.out.size))
    clear hd
    go_wp2_with fail
    go_ret3
    exact ⟨rfl, HB2.out⟩
  rw [if_neg c5] at H
  have c5b : (bt a0 1 == 120) = false := beq_eq_false_iff_ne.mpr c5
  clear c5
  by_cases c6 : bt a0 1 < 33
  ·rw [if_pos (.inl c6)] at H
   simp only [Option.some.injEq, Prod.mk.injEq] at H
   obtain ⟨rfl, rfl, rfl⟩ := H
   have c6b : decide (bt a0 1 < 33) = true := decide_eq_true c6
   clear c6
   go_enter Tryz.func9, Tryz.ntmps9
   go_wp2_with fail
   refine (HI2.out _).mono ?_
   rintro e w1 ⟨rfl, hb1⟩
   have HB1 := Aside0.mk (HB.out.trans (hb1.mono (by simp)))
   clear hb1
   go_wp2_with fail
   go_ret3
   exact ⟨rfl, HB1.out⟩
  have c6b : decide (bt a0 1 < 33) = false := decide_eq_false c6
  by_cases c7 : 126 < bt a0 1
  ·rw [if_pos (.inr c7)] at H
   simp only [Option.some.injEq, Prod.mk.injEq] at H
   obtain ⟨rfl, rfl, rfl⟩ := H
   have c7b : decide (126 < bt a0 1) = true := decide_eq_true c7
   clear c6 c7
   go_enter Tryz.func9, Tryz.ntmps9
   go_wp2_with fail
   refine (HI2.out _).mono ?_
   rintro e w1 ⟨rfl, hb1⟩
   have HB1 := Aside0.mk (HB.out.trans (hb1.mono (by simp)))
   clear hb1
   go_wp2_with fail
   go_ret3
   exact ⟨rfl, HB1.out⟩
  rw [if_neg (by omega)] at H
  have c7b : decide (126 < bt a0 1) = false := decide_eq_false c7
  obtain ⟨t, ht, H⟩ := Option.bind_eq_some_iff.1 H
  have HLE := Aside0.mk (fun w => bracket_letter.calls (bt a0 1) t w ht)
  clear ht c6 c7
  cases t with
  | true =>
   rw [if_pos (.inl rfl)] at H
   simp only [Option.some.injEq, Prod.mk.injEq] at H
   obtain ⟨rfl, rfl, rfl⟩ := H
   go_enter Tryz.func9, Tryz.ntmps9
   go_wp2_with fail
   refine (HI2.out _).mono ?_
   rintro e w1 ⟨rfl, hb1⟩
   have HB1 := Aside0.mk (HB.out.trans (hb1.mono (by simp)))
   clear hb1
   go_wp2_with fail
   refine (HLE.out _).mono ?_
   rintro e w2 ⟨rfl, hd⟩
   have HB2 := Aside0.mk (HB1.out.trans ((drawn_below hd).mono HB1.out.size))
   clear hd
   go_wp2_with fail
   go_ret3
   exact ⟨rfl, HB2.out⟩
  | false =>
   by_cases c8 : 48 ≤ bt a0 1
   ·have c8b : decide (48 ≤ bt a0 1) = true := decide_eq_true c8
    by_cases c9 : bt a0 1 ≤ 57
    ·rw [if_pos (.inr ⟨c8, c9⟩)] at H
     have c9b : decide (bt a0 1 ≤ 57) = true := decide_eq_true c9
     simp only [Option.some.injEq, Prod.mk.injEq] at H
     obtain ⟨rfl, rfl, rfl⟩ := H
     clear c8 c9
     go_enter Tryz.func9, Tryz.ntmps9
     go_wp2_with fail
     refine (HI2.out _).mono ?_
     rintro e w1 ⟨rfl, hb1⟩
     have HB1 := Aside0.mk (HB.out.trans (hb1.mono (by simp)))
     clear hb1
     go_wp2_with fail
     refine (HLE.out _).mono ?_
     rintro e w2 ⟨rfl, hd⟩
     have HB2 := Aside0.mk (HB1.out.trans ((drawn_below hd).mono HB1.out.size))
     clear hd
     go_wp2_with fail
     go_ret3
     exact ⟨rfl, HB2.out⟩
    ·rw [if_neg (by simp; omega)] at H
     have c9b : decide (bt a0 1 ≤ 57) = false := decide_eq_false c9
     simp only [Option.some.injEq, Prod.mk.injEq] at H
     obtain ⟨rfl, rfl, rfl⟩ := H
     clear c8 c9
     go_enter Tryz.func9, Tryz.ntmps9
     go_wp2_with fail
     refine (HI2.out _).mono ?_
     rintro e w1 ⟨rfl, hb1⟩
     have HB1 := Aside0.mk (HB.out.trans (hb1.mono (by simp)))
     clear hb1
     go_wp2_with fail
     refine (HLE.out _).mono ?_
     rintro e w2 ⟨rfl, hd⟩
     have HB2 := Aside0.mk (HB1.out.trans ((drawn_below hd).mono HB1.out.size))
     clear hd
     go_wp2_with fail
     go_ret3
     exact ⟨rfl, HB2.out⟩
   ·rw [if_neg (by simp; omega)] at H
    have c8b : decide (48 ≤ bt a0 1) = false := decide_eq_false c8
    simp only [Option.some.injEq, Prod.mk.injEq] at H
    obtain ⟨rfl, rfl, rfl⟩ := H
    clear c8
    go_enter Tryz.func9, Tryz.ntmps9
    go_wp2_with fail
    refine (HI2.out _).mono ?_
    rintro e w1 ⟨rfl, hb1⟩
    have HB1 := Aside0.mk (HB.out.trans (hb1.mono (by simp)))
    clear hb1
    go_wp2_with fail
    refine (HLE.out _).mono ?_
    rintro e w2 ⟨rfl, hd⟩
    have HB2 := Aside0.mk (HB1.out.trans ((drawn_below hd).mono HB1.out.size))
    clear hd
    go_wp2_with fail
    go_ret3
    exact ⟨rfl, HB2.out⟩
 ·rw [if_neg c2] at H
  have c2b : (bt a0 0 == 92) = false := beq_eq_false_iff_ne.mpr c2
  have c2c : (bt a0 0 != 92) = true := bne_iff_ne.mpr c2
  simp only [Option.some.injEq, Prod.mk.injEq] at H
  obtain ⟨rfl, rfl, rfl⟩ := H
  clear c2
  go_enter Tryz.func9, Tryz.ntmps9
  go_wp2
  go_ret3
  exact ⟨rfl, HB.out⟩
end Go.Proofs.YtheheijhijeljaaGreatDoor.HBracketWrites

