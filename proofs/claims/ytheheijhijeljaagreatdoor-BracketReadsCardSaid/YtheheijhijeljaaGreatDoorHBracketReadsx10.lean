-- Made by wip/hyb (a program of this session over the kit's print); its parts marked 'own text' are typed by hand.
import Derived.Test.YtheheijhijeljaaGreatDoorHBracketReadsx3
import Derived.Test.YtheheijhijeljaaGreatDoorHBracketReadsx6
namespace Go.Proofs.YtheheijhijeljaaGreatDoor.HBracketReads
open Go.RowKit Go.Proofs.YtheheijhijeljaaGreatDoorW.PrintWords Go.Proofs.YtheheijhijeljaaGreatDoorW.PrintLast Go.Proofs.YtheheijhijeljaaGreatDoorW.PrintMore
attribute [local go_sem] max2_int min2_int max_two min_two max_three min_three max_four min_four   -- for this text's walks alone
set_option linter.unusedVariables false
set_option linter.unusedSimpArgs false
mutual
def bracket_Set.j0 : Nat → ByteArray → Bool → Option ((List (S36)) × Int × Int)
 | 0, _, _ => none
 | k + 1, x0, x5 => if x5 = true then (some (([] : List (S36)), 0, 3)) else (if (x0.size : Int) = 1 then (some (([] : List (S36)), 0, 5)) else (if 1 < (x0.size : Int) then (if (bt x0 1) = 100 then (bracket_Set.j1 k x0 (bt x0 1) ((bt x0 1) == 100)) else (if (bt x0 1) = 115 then (bracket_Set.j1 k x0 (bt x0 1) ((bt x0 1) == 115)) else (bracket_Set.j1 k x0 (bt x0 1) ((bt x0 1) == 119)))) else (none)))
def bracket_Set.j1 : Nat → ByteArray → Int → Bool → Option ((List (S36)) × Int × Int)
 | 0, _, _, _ => none
 | k + 1, x0, x18, x19 => if x19 = true then (if 1 < (x0.size : Int) then ((class_Letter.f k (bt x0 1)).bind fun bt185 => (some (bt185.1, 2, bt185.2))) else (none)) else (if x18 = 68 then (bracket_Set.j2 k x0 x18 (x18 == 68)) else (if x18 = 83 then (bracket_Set.j2 k x0 x18 (x18 == 83)) else (bracket_Set.j2 k x0 x18 (x18 == 87))))
def bracket_Set.j2 : Nat → ByteArray → Int → Bool → Option ((List (S36)) × Int × Int)
 | 0, _, _, _ => none
 | k + 1, x0, x18, x23 => if x23 = true then (if 1 < (x0.size : Int) then ((class_Letter.f k (bt x0 1)).bind fun bt189 => (some (bt189.1, 2, bt189.2))) else (none)) else (if x18 = 112 then (bracket_Set.j3 k x0 (x18 == 112)) else (bracket_Set.j3 k x0 (x18 == 80)))
def bracket_Set.j3 : Nat → ByteArray → Bool → Option ((List (S36)) × Int × Int)
 | 0, _, _ => none
 | k + 1, x0, x27 => if x27 = true then ((bracket_property.f k x0).bind fun bt193 => (some (bt193.1, bt193.2.1, bt193.2.2))) else (some (([] : List (S36)), 0, 5))
end
def bracket_Set.f (k : Nat) (a0 : ByteArray) : Option ((List (S36)) × Int × Int) := if a0.toList = ([] : List UInt8) then (bracket_Set.j0 k a0 true) else (if 0 < (a0.size : Int) then (bracket_Set.j0 k a0 ((bt a0 0) != 92)) else (none))
theorem bracket_Set.mono_l : ∀ k, (∀ y0 y1, LeO (bracket_Set.j0 k y0 y1) (bracket_Set.j0 (k + 1) y0 y1)) ∧ (∀ y0 y1 y2, LeO (bracket_Set.j1 k y0 y1 y2) (bracket_Set.j1 (k + 1) y0 y1 y2)) ∧ (∀ y0 y1 y2, LeO (bracket_Set.j2 k y0 y1 y2) (bracket_Set.j2 (k + 1) y0 y1 y2)) ∧ (∀ y0 y1, LeO (bracket_Set.j3 k y0 y1) (bracket_Set.j3 (k + 1) y0 y1))
 | 0 => ⟨fun _ _ r h => by simp [bracket_Set.j0] at h, fun _ _ _ r h => by simp [bracket_Set.j1] at h, fun _ _ _ r h => by simp [bracket_Set.j2] at h, fun _ _ r h => by simp [bracket_Set.j3] at h⟩
 | k + 1 => by
  obtain ⟨ih0, ih1, ih2, ih3⟩ := bracket_Set.mono_l k
  refine ⟨?_, ?_, ?_, ?_⟩
  ·intro y0 y1
   unfold bracket_Set.j0
   repeat' first
   | (with_reducible exact ih0 _ _)
   | (with_reducible exact ih1 _ _ _)
   | (with_reducible exact ih2 _ _ _)
   | (with_reducible exact ih3 _ _)
   | (with_reducible exact bracket_property.mono _ _)
   | (with_reducible exact class_Letter.mono _ _)
   | (with_reducible exact LeO.refl _)
   | (with_reducible exact LeO.none _)
   | (with_reducible refine LeO.ite ?_ ?_)
   | (with_reducible refine LeO.bind ?_ (fun _ => ?_))
   | exact ih0 _ _
   | exact ih1 _ _ _
   | exact ih2 _ _ _
   | exact ih3 _ _
   | exact bracket_property.mono _ _
   | exact class_Letter.mono _ _
   | exact LeO.none _
   | refine LeO.ite ?_ ?_
   | refine LeO.bind ?_ (fun _ => ?_)
  ·intro y0 y1 y2
   unfold bracket_Set.j1
   repeat' first
   | (with_reducible exact ih0 _ _)
   | (with_reducible exact ih1 _ _ _)
   | (with_reducible exact ih2 _ _ _)
   | (with_reducible exact ih3 _ _)
   | (with_reducible exact bracket_property.mono _ _)
   | (with_reducible exact class_Letter.mono _ _)
   | (with_reducible exact LeO.refl _)
   | (with_reducible exact LeO.none _)
   | (with_reducible refine LeO.ite ?_ ?_)
   | (with_reducible refine LeO.bind ?_ (fun _ => ?_))
   | exact ih0 _ _
   | exact ih1 _ _ _
   | exact ih2 _ _ _
   | exact ih3 _ _
   | exact bracket_property.mono _ _
   | exact class_Letter.mono _ _
   | exact LeO.none _
   | refine LeO.ite ?_ ?_
   | refine LeO.bind ?_ (fun _ => ?_)
  ·intro y0 y1 y2
   unfold bracket_Set.j2
   repeat' first
   | (with_reducible exact ih0 _ _)
   | (with_reducible exact ih1 _ _ _)
   | (with_reducible exact ih2 _ _ _)
   | (with_reducible exact ih3 _ _)
   | (with_reducible exact bracket_property.mono _ _)
   | (with_reducible exact class_Letter.mono _ _)
   | (with_reducible exact LeO.refl _)
   | (with_reducible exact LeO.none _)
   | (with_reducible refine LeO.ite ?_ ?_)
   | (with_reducible refine LeO.bind ?_ (fun _ => ?_))
   | exact ih0 _ _
   | exact ih1 _ _ _
   | exact ih2 _ _ _
   | exact ih3 _ _
   | exact bracket_property.mono _ _
   | exact class_Letter.mono _ _
   | exact LeO.none _
   | refine LeO.ite ?_ ?_
   | refine LeO.bind ?_ (fun _ => ?_)
  intro y0 y1
  unfold bracket_Set.j3
  repeat' first
  | (with_reducible exact ih0 _ _)
  | (with_reducible exact ih1 _ _ _)
  | (with_reducible exact ih2 _ _ _)
  | (with_reducible exact ih3 _ _)
  | (with_reducible exact bracket_property.mono _ _)
  | (with_reducible exact class_Letter.mono _ _)
  | (with_reducible exact LeO.refl _)
  | (with_reducible exact LeO.none _)
  | (with_reducible refine LeO.ite ?_ ?_)
  | (with_reducible refine LeO.bind ?_ (fun _ => ?_))
  | exact ih0 _ _
  | exact ih1 _ _ _
  | exact ih2 _ _ _
  | exact ih3 _ _
  | exact bracket_property.mono _ _
  | exact class_Letter.mono _ _
  | exact LeO.none _
  | refine LeO.ite ?_ ?_
  | refine LeO.bind ?_ (fun _ => ?_)
theorem bracket_Set.mono : ∀ a0 k, LeO (bracket_Set.f k a0) (bracket_Set.f (k + 1) a0) := by
 intro a0 k
 obtain ⟨ih0, ih1, ih2, ih3⟩ := bracket_Set.mono_l k
 unfold bracket_Set.f
 repeat' first
   | (with_reducible exact ih0 _ _)
   | (with_reducible exact ih1 _ _ _)
   | (with_reducible exact ih2 _ _ _)
   | (with_reducible exact ih3 _ _)
   | (with_reducible exact bracket_property.mono _ _)
   | (with_reducible exact class_Letter.mono _ _)
   | (with_reducible exact LeO.refl _)
   | (with_reducible exact LeO.none _)
   | (with_reducible refine LeO.ite ?_ ?_)
   | (with_reducible refine LeO.bind ?_ (fun _ => ?_))
   | exact ih0 _ _
   | exact ih1 _ _ _
   | exact ih2 _ _ _
   | exact ih3 _ _
   | exact bracket_property.mono _ _
   | exact class_Letter.mono _ _
   | exact LeO.none _
   | refine LeO.ite ?_ ?_
   | refine LeO.bind ?_ (fun _ => ?_)
set_option maxHeartbeats 8000000 in
set_option maxRecDepth 100000 in
theorem bracket_Set.calls (k : Nat) (a0 : ByteArray) (r1 : List (S36)) (r2 : Int) (r3 : Int) (w : World) (h : bracket_Set.f k a0 = some (r1, r2, r3)) :
  Calls Tryz.prog 11 #[.string a0] w fun e w' => ∃ v0_ : Value, e = .returned (.tuple #[v0_, .int .i64 r2, .int .i64 r3]) ∧ Kd.R k36 36 w' w.heap.size (fun _ => True) v0_ r1 ∧ Below w.heap.size w w' := by
 have HB := Aside0.mk (Below.refl w.heap.size w)
 have H : (if a0.toList = ([] : List UInt8) then (bracket_Set.j0 k a0 true) else (if 0 < (a0.size : Int) then (bracket_Set.j0 k a0 ((bt a0 0) != 92)) else (none))) = some (r1, r2, r3) := h
 clear h
 have HC2 := Aside0.mk H
 clear H
 go_enter Tryz.func11, Tryz.ntmps11
 go_upto_region 1 with (fail)
 go_cut [5] (fun v5 wc => ∃ (kq : Nat) (x5_1 : Bool), v5 = .bool x5_1 ∧ Aside0 (bracket_Set.j0 kq a0 x5_1 = some (r1, r2, r3)) ∧ Aside0 (kq ≤ k) ∧ Aside0 (Below w.heap.size w wc))
 case first =>
  have H := HC2.out
  clear HC2
  by_cases c3 : a0.toList = ([] : List UInt8)
  ·rw [if_pos c3] at H
   have c3b0 := beq_iff_eq.mpr c3
   have c3b1 := bne_eq_false_iff_eq.mpr c3
   clear c3
   (first | rw [c3b0] | (simp only [i64_w, i32_w]; rw [c3b0]) | skip)
   have H' := Aside0.mk H
   clear H
   go_wp2
   go_meet
   case rel => exact ⟨_, (true), ez, H', ⟨by first | omega | exact Nat.le_refl _⟩, ⟨bz⟩⟩
  rw [if_neg c3] at H
  have c3b0 := beq_eq_false_iff_ne.mpr c3
  have c3b1 := bne_iff_ne.mpr c3
  (first | rw [c3b0] | (simp only [i64_w, i32_w]; rw [c3b0]) | skip)
  by_cases c4 : 0 < (a0.size : Int)
  rotate_left
  ·exact nomatch (if_neg c4).symm.trans H
  rw [if_pos c4] at H
  have c4b0 := decide_eq_true c4
  have c4b1 : decide (0 < a0.size) = true := decide_eq_true (by omega)
  clear c4
  have H' := Aside0.mk H
  clear H
  have q5 : 0 < a0.size := (by have : (0 : Int) < (a0.size : Int) := oz; omega)
  have hx5 : ∀ h : 0 < a0.size, ((a0[0]'h).toNat : Int) = bt a0 0 := bt_at a0 0
  have qi5 : (0 < (a0.size : Int)) = True := eq_true (oz)
  replace q5 := eq_true q5
  go_wp2
  go_meet
  case rel => exact ⟨_, (((bt a0 0) != 92)), ez, H', ⟨by first | omega | exact Nat.le_refl _⟩, ⟨bz⟩⟩
 clear HC2
 try clear c1
 try clear p2
 try clear c3
 try clear c3b0 c3b1
 try clear c4
 try clear c4b0 c4b1
 try clear p5
 try clear q5
 try clear hx5
 try clear qi5
 try clear p5
 try clear q5
 obtain ⟨kq, x5_1, rfl, HA, HJ1, HB⟩ := hcut
 cases kq with
 | zero => exact absurd HA.out (by simp [bracket_Set.j0])
 | succ kj1 =>
  have H := HA.out
  clear HA
  simp only [bracket_Set.j0] at H
  by_cases c6 : x5_1 = true
  ·subst c6
   rw [if_pos rfl] at H
   simp only [Option.some.injEq, Prod.mk.injEq] at H
   obtain ⟨rfl, rfl, rfl⟩ := H
   go_wp2
   go_ret3
   exact ⟨_, fz, by first | exact Kd.R_nil _ _ _ _ _ | exact Kd.N_nil _ _ _ _ _ | exact Kd.V_nil _ _ _ _ _ | exact Kd.Q_nil _ _ _ _ _ | exact Kd.S_nil _ _ _ _ _, bz⟩
  replace c6 := Bool.eq_false_iff.mpr c6
  subst c6
  rw [if_neg (show ¬ (false = true) by decide)] at H
  by_cases c7 : (a0.size : Int) = 1
  ·rw [if_pos c7] at H
   have c7b0 := beq_iff_eq.mpr c7
   have c7b1 := bne_eq_false_iff_eq.mpr c7
   clear c7
   simp only [Option.some.injEq, Prod.mk.injEq] at H
   obtain ⟨rfl, rfl, rfl⟩ := H
   go_wp2
   go_ret3
   exact ⟨_, fz, by first | exact Kd.R_nil _ _ _ _ _ | exact Kd.N_nil _ _ _ _ _ | exact Kd.V_nil _ _ _ _ _ | exact Kd.Q_nil _ _ _ _ _ | exact Kd.S_nil _ _ _ _ _, bz⟩
  rw [if_neg c7] at H
  have c7b0 := beq_eq_false_iff_ne.mpr c7
  have c7b1 := bne_iff_ne.mpr c7
  by_cases c8 : 1 < (a0.size : Int)
  rotate_left
  ·exact nomatch (if_neg c8).symm.trans H
  rw [if_pos c8] at H
  have c8b0 := decide_eq_true c8
  have c8b1 : decide (1 < a0.size) = true := decide_eq_true (by omega)
  clear c8
  have HC10 := Aside0.mk H
  clear H
  have q9 : 1 < a0.size := (by have : (1 : Int) < (a0.size : Int) := oz; omega)
  have hx9 : ∀ h : 1 < a0.size, ((a0[1]'h).toNat : Int) = bt a0 1 := bt_at a0 1
  have qi9 : (1 < (a0.size : Int)) = True := eq_true (oz)
  replace q9 := eq_true q9
  go_upto_if 19 with (fail)
  go_cut [19] (fun v19 wc => ∃ (kq : Nat) (x19_9 : Bool), v19 = .bool x19_9 ∧ Aside0 (bracket_Set.j1 kq a0 (bt a0 1) x19_9 = some (r1, r2, r3)) ∧ Aside0 (kq ≤ kj1) ∧ Aside0 (Below w.heap.size w wc))
  case first =>
   have H := HC10.out
   clear HC10
   by_cases c11 : (bt a0 1) = 100
   ·rw [if_pos c11] at H
    have c11b0 := beq_iff_eq.mpr c11
    have c11b1 := bne_eq_false_iff_eq.mpr c11
    clear c11
    (first | rw [c11b0] | (simp only [i64_w, i32_w]; rw [c11b0]) | skip)
    have H' := Aside0.mk H
    clear H
    go_wp2
    go_meet
    case rel => exact ⟨_, (((bt a0 1) == 100)), ez, H', ⟨by have := HJ1.out; first | omega | exact Nat.le_refl _⟩, ⟨bz⟩⟩
   rw [if_neg c11] at H
   have c11b0 := beq_eq_false_iff_ne.mpr c11
   have c11b1 := bne_iff_ne.mpr c11
   (first | rw [c11b0] | (simp only [i64_w, i32_w]; rw [c11b0]) | skip)
   by_cases c12 : (bt a0 1) = 115
   ·rw [if_pos c12] at H
    have c12b0 := beq_iff_eq.mpr c12
    have c12b1 := bne_eq_false_iff_eq.mpr c12
    clear c12
    have H' := Aside0.mk H
    clear H
    go_wp2
    go_meet
    case rel => exact ⟨_, (((bt a0 1) == 115)), ez, H', ⟨by have := HJ1.out; first | omega | exact Nat.le_refl _⟩, ⟨bz⟩⟩
   rw [if_neg c12] at H
   have c12b0 := beq_eq_false_iff_ne.mpr c12
   have c12b1 := bne_iff_ne.mpr c12
   have H' := Aside0.mk H
   clear H
   go_wp2
   go_meet
   case rel => exact ⟨_, (((bt a0 1) == 119)), ez, H', ⟨by have := HJ1.out; first | omega | exact Nat.le_refl _⟩, ⟨bz⟩⟩
  clear HC10
  try clear c1
  try clear p2
  try clear c3
  try clear c3b0 c3b1
  try clear c4
  try clear c4b0 c4b1
  try clear p5
  try clear q5
  try clear hx5
  try clear qi5
  try clear c6
  try clear c7
  try clear c7b0 c7b1
  try clear c8
  try clear c8b0 c8b1
  try clear p9
  try clear q9
  try clear hx9
  try clear qi9
  try clear c11
  try clear c11b0 c11b1
  try clear c12
  try clear c12b0 c12b1
  try clear p2
  try clear p5
  try clear p9
  try clear q5
  try clear q9
  obtain ⟨kq, x19_9, rfl, HA, HJ9, HB⟩ := hcut
  cases kq with
  | zero => exact absurd HA.out (by simp [bracket_Set.j1])
  | succ kj9 =>
   have H := HA.out
   clear HA
   simp only [bracket_Set.j1] at H
   by_cases c13 : x19_9 = true
   ·subst c13
    rw [if_pos rfl] at H
    by_cases c14 : 1 < (a0.size : Int)
    rotate_left
    ·exact nomatch (if_neg c14).symm.trans H
    rw [if_pos c14] at H
    have c14b0 := decide_eq_true c14
    have c14b1 : decide (1 < a0.size) = true := decide_eq_true (by omega)
    clear c14
    replace H := Option.bind_eq_some_iff.mp H
    obtain ⟨⟨t185, t186⟩, A160, H⟩ := H
    try dsimp only at H
    have A16 := Aside0.mk A160
    clear A160
    simp only [Option.some.injEq, Prod.mk.injEq] at H
    obtain ⟨rfl, rfl, rfl⟩ := H
    have q15 : 1 < a0.size := (by have : (1 : Int) < (a0.size : Int) := oz; omega)
    have hx15 : ∀ h : 1 < a0.size, ((a0[1]'h).toNat : Int) = bt a0 1 := bt_at a0 1
    have qi15 : (1 < (a0.size : Int)) = True := eq_true (oz)
    replace q15 := eq_true q15
    go_wp2_with (first | ((with_reducible refine gate_callee (f := 30) rfl ?_); refine goesL_ (some 33) rfl rfl Tryz.func30 kz rfl #[.int .u8 (bt a0 1)] rfl mz ?_; (with_reducible refine (class_Letter.calls kj9 (bt a0 1) t185 t186 _ A16.out).mono ?_); rintro e w17 ⟨v187, rfl, ho0, hb⟩; refine ⟨_, rfl, ?_⟩; have HO188 := Aside0.mk (Kd.R_lower ho0 (below_size bz)); replace HB := hz hb; (try clear hb); (try clear ho0)))
    go_ret3
    exact ⟨_, fz, rz HO188.out, bz⟩
   replace c13 := Bool.eq_false_iff.mpr c13
   subst c13
   rw [if_neg (show ¬ (false = true) by decide)] at H
   have HC18 := Aside0.mk H
   clear H
   go_upto_if 23 with (fail)
   go_cut [23] (fun v23 wc => ∃ (kq : Nat) (x23_17 : Bool), v23 = .bool x23_17 ∧ Aside0 (bracket_Set.j2 kq a0 (bt a0 1) x23_17 = some (r1, r2, r3)) ∧ Aside0 (kq ≤ kj9) ∧ Aside0 (Below w.heap.size w wc))
   case first =>
    have H := HC18.out
    clear HC18
    by_cases c19 : (bt a0 1) = 68
    ·rw [if_pos c19] at H
     have c19b0 := beq_iff_eq.mpr c19
     have c19b1 := bne_eq_false_iff_eq.mpr c19
     clear c19
     (first | rw [c19b0] | (simp only [i64_w, i32_w]; rw [c19b0]) | skip)
     have H' := Aside0.mk H
     clear H
     go_wp2
     go_meet
     case rel => exact ⟨_, (((bt a0 1) == 68)), ez, H', ⟨by have := HJ1.out; have := HJ9.out; first | omega | exact Nat.le_refl _⟩, ⟨bz⟩⟩
    rw [if_neg c19] at H
    have c19b0 := beq_eq_false_iff_ne.mpr c19
    have c19b1 := bne_iff_ne.mpr c19
    (first | rw [c19b0] | (simp only [i64_w, i32_w]; rw [c19b0]) | skip)
    by_cases c20 : (bt a0 1) = 83
    ·rw [if_pos c20] at H
     have c20b0 := beq_iff_eq.mpr c20
     have c20b1 := bne_eq_false_iff_eq.mpr c20
     clear c20
     have H' := Aside0.mk H
     clear H
     go_wp2
     go_meet
     case rel => exact ⟨_, (((bt a0 1) == 83)), ez, H', ⟨by have := HJ1.out; have := HJ9.out; first | omega | exact Nat.le_refl _⟩, ⟨bz⟩⟩
    rw [if_neg c20] at H
    have c20b0 := beq_eq_false_iff_ne.mpr c20
    have c20b1 := bne_iff_ne.mpr c20
    have H' := Aside0.mk H
    clear H
    go_wp2
    go_meet
    case rel => exact ⟨_, (((bt a0 1) == 87)), ez, H', ⟨by have := HJ1.out; have := HJ9.out; first | omega | exact Nat.le_refl _⟩, ⟨bz⟩⟩
   clear HC18
   try clear c1
   try clear p1
   try clear q1
   try clear hx1
   try clear qi1
   try clear c2
   try clear p2
   try clear c3
   try clear c3b0 c3b1
   try clear c4
   try clear c4b0 c4b1
   try clear p5
   try clear q5
   try clear hx5
   try clear qi5
   try clear c6
   try clear c7
   try clear c7b0 c7b1
   try clear c8
   try clear c8b0 c8b1
   try clear p9
   try clear q9
   try clear hx9
   try clear qi9
   try clear c11
   try clear c11b0 c11b1
   try clear c12
   try clear c12b0 c12b1
   try clear c13
   try clear c14
   try clear c14b0 c14b1
   try clear p15
   try clear q15
   try clear hx15
   try clear qi15
   try clear c19
   try clear c19b0 c19b1
   try clear c20
   try clear c20b0 c20b1
   try clear p15
   try clear p2
   try clear p5
   try clear p9
   try clear q15
   try clear q5
   try clear q9
   obtain ⟨kq, x23_17, rfl, HA, HJ17, HB⟩ := hcut
   cases kq with
   | zero => exact absurd HA.out (by simp [bracket_Set.j2])
   | succ kj17 =>
    have H := HA.out
    clear HA
    simp only [bracket_Set.j2] at H
    by_cases c21 : x23_17 = true
    ·subst c21
     rw [if_pos rfl] at H
     by_cases c22 : 1 < (a0.size : Int)
     rotate_left
     ·exact nomatch (if_neg c22).symm.trans H
     rw [if_pos c22] at H
     have c22b0 := decide_eq_true c22
     have c22b1 : decide (1 < a0.size) = true := decide_eq_true (by omega)
     clear c22
     replace H := Option.bind_eq_some_iff.mp H
     obtain ⟨⟨t189, t190⟩, A240, H⟩ := H
     try dsimp only at H
     have A24 := Aside0.mk A240
     clear A240
     simp only [Option.some.injEq, Prod.mk.injEq] at H
     obtain ⟨rfl, rfl, rfl⟩ := H
     have q23 : 1 < a0.size := (by have : (1 : Int) < (a0.size : Int) := oz; omega)
     have hx23 : ∀ h : 1 < a0.size, ((a0[1]'h).toNat : Int) = bt a0 1 := bt_at a0 1
     have qi23 : (1 < (a0.size : Int)) = True := eq_true (oz)
     replace q23 := eq_true q23
     go_wp2_with (first | ((with_reducible refine gate_callee (f := 30) rfl ?_); refine goesL_ (some 33) rfl rfl Tryz.func30 kz rfl #[.int .u8 (bt a0 1)] rfl mz ?_; (with_reducible refine (class_Letter.calls kj17 (bt a0 1) t189 t190 _ A24.out).mono ?_); rintro e w25 ⟨v191, rfl, ho0, hb⟩; refine ⟨_, rfl, ?_⟩; have HO192 := Aside0.mk (Kd.R_lower ho0 (below_size bz)); replace HB := hz hb; (try clear hb); (try clear ho0)))
     go_ret3
     exact ⟨_, fz, rz HO192.out, bz⟩
    replace c21 := Bool.eq_false_iff.mpr c21
    subst c21
    rw [if_neg (show ¬ (false = true) by decide)] at H
    have HC26 := Aside0.mk H
    clear H
    go_upto_if 27 with (fail)
    go_cut [27] (fun v27 wc => ∃ (kq : Nat) (x27_25 : Bool), v27 = .bool x27_25 ∧ Aside0 (bracket_Set.j3 kq a0 x27_25 = some (r1, r2, r3)) ∧ Aside0 (kq ≤ kj17) ∧ Aside0 (Below w.heap.size w wc))
    case first =>
     have H := HC26.out
     clear HC26
     by_cases c27 : (bt a0 1) = 112
     ·rw [if_pos c27] at H
      have c27b0 := beq_iff_eq.mpr c27
      have c27b1 := bne_eq_false_iff_eq.mpr c27
      clear c27
      (first | rw [c27b0] | (simp only [i64_w, i32_w]; rw [c27b0]) | skip)
      have H' := Aside0.mk H
      clear H
      go_wp2
      go_meet
      case rel => exact ⟨_, (((bt a0 1) == 112)), ez, H', ⟨by have := HJ1.out; have := HJ9.out; have := HJ17.out; first | omega | exact Nat.le_refl _⟩, ⟨bz⟩⟩
     rw [if_neg c27] at H
     have c27b0 := beq_eq_false_iff_ne.mpr c27
     have c27b1 := bne_iff_ne.mpr c27
     (first | rw [c27b0] | (simp only [i64_w, i32_w]; rw [c27b0]) | skip)
     have H' := Aside0.mk H
     clear H
     go_wp2
     go_meet
     case rel => exact ⟨_, (((bt a0 1) == 80)), ez, H', ⟨by have := HJ1.out; have := HJ9.out; have := HJ17.out; first | omega | exact Nat.le_refl _⟩, ⟨bz⟩⟩
    clear HC26
    try clear c1
    try clear p1
    try clear q1
    try clear hx1
    try clear qi1
    try clear c2
    try clear p2
    try clear q2
    try clear hx2
    try clear qi2
    try clear c3
    try clear c3b0 c3b1
    try clear c4
    try clear c4b0 c4b1
    try clear p5
    try clear q5
    try clear hx5
    try clear qi5
    try clear c6
    try clear c7
    try clear c7b0 c7b1
    try clear c8
    try clear c8b0 c8b1
    try clear p9
    try clear q9
    try clear hx9
    try clear qi9
    try clear c11
    try clear c11b0 c11b1
    try clear c12
    try clear c12b0 c12b1
    try clear c13
    try clear c14
    try clear c14b0 c14b1
    try clear p15
    try clear q15
    try clear hx15
    try clear qi15
    try clear c19
    try clear c19b0 c19b1
    try clear c20
    try clear c20b0 c20b1
    try clear c21
    try clear c22
    try clear c22b0 c22b1
    try clear p23
    try clear q23
    try clear hx23
    try clear qi23
    try clear c27
    try clear c27b0 c27b1
    try clear p1
    try clear p15
    try clear p2
    try clear p23
    try clear p5
    try clear p9
    try clear q1
    try clear q15
    try clear q23
    try clear q5
    try clear q9
    obtain ⟨kq, x27_25, rfl, HA, HJ25, HB⟩ := hcut
    cases kq with
    | zero => exact absurd HA.out (by simp [bracket_Set.j3])
    | succ kj25 =>
     have H := HA.out
     clear HA
     simp only [bracket_Set.j3] at H
     by_cases c28 : x27_25 = true
     ·subst c28
      rw [if_pos rfl] at H
      replace H := Option.bind_eq_some_iff.mp H
      obtain ⟨⟨t193, t194, t195⟩, A290, H⟩ := H
      try dsimp only at H
      have A29 := Aside0.mk A290
      clear A290
      simp only [Option.some.injEq, Prod.mk.injEq] at H
      obtain ⟨rfl, rfl, rfl⟩ := H
      go_wp2_with (first | ((with_reducible refine gate_callee (f := 31) rfl ?_); refine goesL_ (some 39) rfl rfl Tryz.func31 kz rfl #[.string a0] rfl mz ?_; (with_reducible refine (bracket_property.calls kj25 a0 t193 t194 t195 _ A29.out).mono ?_); rintro e w30 ⟨v196, rfl, ho0, hb⟩; refine ⟨_, rfl, ?_⟩; have HO197 := Aside0.mk (Kd.R_lower ho0 (below_size bz)); replace HB := hz hb; (try clear hb); (try clear ho0)))
      go_ret3
      exact ⟨_, fz, rz HO197.out, bz⟩
     replace c28 := Bool.eq_false_iff.mpr c28
     subst c28
     rw [if_neg (show ¬ (false = true) by decide)] at H
     simp only [Option.some.injEq, Prod.mk.injEq] at H
     obtain ⟨rfl, rfl, rfl⟩ := H
     go_wp2
     go_ret3
     exact ⟨_, fz, by first | exact Kd.R_nil _ _ _ _ _ | exact Kd.N_nil _ _ _ _ _ | exact Kd.V_nil _ _ _ _ _ | exact Kd.Q_nil _ _ _ _ _ | exact Kd.S_nil _ _ _ _ _, bz⟩
-- own text
def fold_Close.f (l0 : List S36) : Option (List S36) := if l0.length ≤ 100000 then some ((Go.Proofs.YtheheijhijeljaaGreatDoorX.closeL (l0.map ofRg)).map toRg) else none
theorem fold_Close.calls (A0 : Option Addr) (c0 : Nat) (l0 : List S36) (r : List S36) (w : World) (hr0 : Kd.C k36 w A0 l0.length l0) (hc0 : l0.length ≤ c0) (h : fold_Close.f l0 = some r) :
  Calls Tryz.prog 20 #[.slice A0 l0.length c0] w fun e w' => ∃ v0_ : Value, e = .returned (v0_) ∧ Kd.R k36 36 w' w.heap.size (fun _ => True) v0_ r ∧ Below w.heap.size w w' := by
 unfold fold_Close.f at h
 split at h
 ·rename_i hs
  obtain rfl := Option.some.inj h
  have hb := Go.Proofs.YtheheijhijeljaaGreatDoorX.close_any normAt A0 c0 (l0.map ofRg) w (by rw [List.length_map]; exact Go.Proofs.YtheheijhijeljaaGreatDoorX.C_iso.1 (rg_kd ▸ hr0)) (by simp; omega)
  rw [List.length_map] at hb
  refine hb.mono fun e w' ⟨v, he, hR, hb⟩ => ⟨v, he, ?_, hb⟩
  rw [rg_kd]
  exact Go.Proofs.YtheheijhijeljaaGreatDoorX.R_iso.2 (by rw [map_forth]; exact hR)
 cases h
def strings_HasPrefix.f (a0 : ByteArray) (a1 : ByteArray) : Option (Bool) := (stringslite_HasPrefix.f a0 a1).bind fun t198 => (some t198)
set_option maxHeartbeats 8000000 in
set_option maxRecDepth 100000 in
theorem strings_HasPrefix.calls (a0 : ByteArray) (a1 : ByteArray) (r : Bool) (w : World) (h : strings_HasPrefix.f a0 a1 = some r) :
  Calls Tryz.prog 66 #[.string a0, .string a1] w fun e w' => e = .returned (.bool r) ∧ Drawn0 w w' := by
 have H : ((stringslite_HasPrefix.f a0 a1).bind fun t198 => (some t198)) = some r := h
 clear h
 replace H := Option.bind_eq_some_iff.mp H
 obtain ⟨t198, A30, H⟩ := H
 try dsimp only at H
 have A3 := Aside0.mk A30
 clear A30
 obtain rfl := Option.some.inj H
 go_enter Tryz.func66, Tryz.ntmps66
 go_wp2_with (first | ((with_reducible refine gate_callee (f := 96) rfl ?_); refine goesL_ (some 7) rfl rfl Tryz.func96 kz rfl #[.string a0, .string a1] rfl mz ?_; (with_reducible refine (stringslite_HasPrefix.calls a0 a1 t198 _ A3.out).mono ?_); rintro e w' ⟨rfl, ⟨nd, rfl⟩⟩; refine ⟨_, rfl, ?_⟩))
 go_ret
 exact ⟨ez, dz⟩
def class_colons.f  : Option ((List (S105))) := some (([(⟨(⟨#[97, 108, 110, 117, 109]⟩ : ByteArray), (⟨#[51, 48, 45, 51, 57, 32, 52, 49, 45, 53, 65, 32, 54, 49, 45, 55, 65]⟩ : ByteArray)⟩ : S105), (⟨(⟨#[97, 108, 112, 104, 97]⟩ : ByteArray), (⟨#[52, 49, 45, 53, 65, 32, 54, 49, 45, 55, 65]⟩ : ByteArray)⟩ : S105), (⟨(⟨#[97, 115, 99, 105, 105]⟩ : ByteArray), (⟨#[48, 45, 55, 70]⟩ : ByteArray)⟩ : S105), (⟨(⟨#[98, 108, 97, 110, 107]⟩ : ByteArray), (⟨#[57, 32, 50, 48]⟩ : ByteArray)⟩ : S105), (⟨(⟨#[99, 110, 116, 114, 108]⟩ : ByteArray), (⟨#[48, 45, 49, 70, 32, 55, 70]⟩ : ByteArray)⟩ : S105), (⟨(⟨#[100, 105, 103, 105, 116]⟩ : ByteArray), (⟨#[51, 48, 45, 51, 57]⟩ : ByteArray)⟩ : S105), (⟨(⟨#[103, 114, 97, 112, 104]⟩ : ByteArray), (⟨#[50, 49, 45, 55, 69]⟩ : ByteArray)⟩ : S105), (⟨(⟨#[108, 111, 119, 101, 114]⟩ : ByteArray), (⟨#[54, 49, 45, 55, 65]⟩ : ByteArray)⟩ : S105), (⟨(⟨#[112, 114, 105, 110, 116]⟩ : ByteArray), (⟨#[50, 48, 45, 55, 69]⟩ : ByteArray)⟩ : S105), (⟨(⟨#[112, 117, 110, 99, 116]⟩ : ByteArray), (⟨#[50, 49, 45, 50, 70, 32, 51, 65, 45, 52, 48, 32, 53, 66, 45, 54, 48, 32, 55, 66, 45, 55, 69]⟩ : ByteArray)⟩ : S105), (⟨(⟨#[115, 112, 97, 99, 101]⟩ : ByteArray), (⟨#[57, 45, 68, 32, 50, 48]⟩ : ByteArray)⟩ : S105), (⟨(⟨#[117, 112, 112, 101, 114]⟩ : ByteArray), (⟨#[52, 49, 45, 53, 65]⟩ : ByteArray)⟩ : S105), (⟨(⟨#[119, 111, 114, 100]⟩ : ByteArray), (⟨#[51, 48, 45, 51, 57, 32, 52, 49, 45, 53, 65, 32, 53, 70, 32, 54, 49, 45, 55, 65]⟩ : ByteArray)⟩ : S105), (⟨(⟨#[120, 100, 105, 103, 105, 116]⟩ : ByteArray), (⟨#[51, 48, 45, 51, 57, 32, 52, 49, 45, 52, 54, 32, 54, 49, 45, 54, 54]⟩ : ByteArray)⟩ : S105)] : List (S105)))
set_option maxHeartbeats 8000000 in
set_option maxRecDepth 100000 in
theorem class_colons.calls  (r : List (S105)) (w : World) (h : class_colons.f  = some r) :
  Calls Tryz.prog 98 #[] w fun e w' => ∃ v0_ : Value, e = .returned (v0_) ∧ Kd.R k105 105 w' w.heap.size (fun _ => True) v0_ r ∧ Below w.heap.size w w' := by
 have hu105 := Tryz.underlying105
 have HB := Aside0.mk (Below.refl w.heap.size w)
 have H : (some (([(⟨(⟨#[97, 108, 110, 117, 109]⟩ : ByteArray), (⟨#[51, 48, 45, 51, 57, 32, 52, 49, 45, 53, 65, 32, 54, 49, 45, 55, 65]⟩ : ByteArray)⟩ : S105), (⟨(⟨#[97, 108, 112, 104, 97]⟩ : ByteArray), (⟨#[52, 49, 45, 53, 65, 32, 54, 49, 45, 55, 65]⟩ : ByteArray)⟩ : S105), (⟨(⟨#[97, 115, 99, 105, 105]⟩ : ByteArray), (⟨#[48, 45, 55, 70]⟩ : ByteArray)⟩ : S105), (⟨(⟨#[98, 108, 97, 110, 107]⟩ : ByteArray), (⟨#[57, 32, 50, 48]⟩ : ByteArray)⟩ : S105), (⟨(⟨#[99, 110, 116, 114, 108]⟩ : ByteArray), (⟨#[48, 45, 49, 70, 32, 55, 70]⟩ : ByteArray)⟩ : S105), (⟨(⟨#[100, 105, 103, 105, 116]⟩ : ByteArray), (⟨#[51, 48, 45, 51, 57]⟩ : ByteArray)⟩ : S105), (⟨(⟨#[103, 114, 97, 112, 104]⟩ : ByteArray), (⟨#[50, 49, 45, 55, 69]⟩ : ByteArray)⟩ : S105), (⟨(⟨#[108, 111, 119, 101, 114]⟩ : ByteArray), (⟨#[54, 49, 45, 55, 65]⟩ : ByteArray)⟩ : S105), (⟨(⟨#[112, 114, 105, 110, 116]⟩ : ByteArray), (⟨#[50, 48, 45, 55, 69]⟩ : ByteArray)⟩ : S105), (⟨(⟨#[112, 117, 110, 99, 116]⟩ : ByteArray), (⟨#[50, 49, 45, 50, 70, 32, 51, 65, 45, 52, 48, 32, 53, 66, 45, 54, 48, 32, 55, 66, 45, 55, 69]⟩ : ByteArray)⟩ : S105), (⟨(⟨#[115, 112, 97, 99, 101]⟩ : ByteArray), (⟨#[57, 45, 68, 32, 50, 48]⟩ : ByteArray)⟩ : S105), (⟨(⟨#[117, 112, 112, 101, 114]⟩ : ByteArray), (⟨#[52, 49, 45, 53, 65]⟩ : ByteArray)⟩ : S105), (⟨(⟨#[119, 111, 114, 100]⟩ : ByteArray), (⟨#[51, 48, 45, 51, 57, 32, 52, 49, 45, 53, 65, 32, 53, 70, 32, 54, 49, 45, 55, 65]⟩ : ByteArray)⟩ : S105), (⟨(⟨#[120, 100, 105, 103, 105, 116]⟩ : ByteArray), (⟨#[51, 48, 45, 51, 57, 32, 52, 49, 45, 52, 54, 32, 54, 49, 45, 54, 54]⟩ : ByteArray)⟩ : S105)] : List (S105)))) = some r := h
 clear h
 obtain ⟨y199, hy199⟩ : ∃ y_ : List (S105), y_ = (([(⟨(⟨#[97, 108, 110, 117, 109]⟩ : ByteArray), (⟨#[51, 48, 45, 51, 57, 32, 52, 49, 45, 53, 65, 32, 54, 49, 45, 55, 65]⟩ : ByteArray)⟩ : S105), (⟨(⟨#[97, 108, 112, 104, 97]⟩ : ByteArray), (⟨#[52, 49, 45, 53, 65, 32, 54, 49, 45, 55, 65]⟩ : ByteArray)⟩ : S105), (⟨(⟨#[97, 115, 99, 105, 105]⟩ : ByteArray), (⟨#[48, 45, 55, 70]⟩ : ByteArray)⟩ : S105), (⟨(⟨#[98, 108, 97, 110, 107]⟩ : ByteArray), (⟨#[57, 32, 50, 48]⟩ : ByteArray)⟩ : S105), (⟨(⟨#[99, 110, 116, 114, 108]⟩ : ByteArray), (⟨#[48, 45, 49, 70, 32, 55, 70]⟩ : ByteArray)⟩ : S105), (⟨(⟨#[100, 105, 103, 105, 116]⟩ : ByteArray), (⟨#[51, 48, 45, 51, 57]⟩ : ByteArray)⟩ : S105), (⟨(⟨#[103, 114, 97, 112, 104]⟩ : ByteArray), (⟨#[50, 49, 45, 55, 69]⟩ : ByteArray)⟩ : S105), (⟨(⟨#[108, 111, 119, 101, 114]⟩ : ByteArray), (⟨#[54, 49, 45, 55, 65]⟩ : ByteArray)⟩ : S105), (⟨(⟨#[112, 114, 105, 110, 116]⟩ : ByteArray), (⟨#[50, 48, 45, 55, 69]⟩ : ByteArray)⟩ : S105), (⟨(⟨#[112, 117, 110, 99, 116]⟩ : ByteArray), (⟨#[50, 49, 45, 50, 70, 32, 51, 65, 45, 52, 48, 32, 53, 66, 45, 54, 48, 32, 55, 66, 45, 55, 69]⟩ : ByteArray)⟩ : S105), (⟨(⟨#[115, 112, 97, 99, 101]⟩ : ByteArray), (⟨#[57, 45, 68, 32, 50, 48]⟩ : ByteArray)⟩ : S105), (⟨(⟨#[117, 112, 112, 101, 114]⟩ : ByteArray), (⟨#[52, 49, 45, 53, 65]⟩ : ByteArray)⟩ : S105), (⟨(⟨#[119, 111, 114, 100]⟩ : ByteArray), (⟨#[51, 48, 45, 51, 57, 32, 52, 49, 45, 53, 65, 32, 53, 70, 32, 54, 49, 45, 55, 65]⟩ : ByteArray)⟩ : S105), (⟨(⟨#[120, 100, 105, 103, 105, 116]⟩ : ByteArray), (⟨#[51, 48, 45, 51, 57, 32, 52, 49, 45, 52, 54, 32, 54, 49, 45, 54, 54]⟩ : ByteArray)⟩ : S105)] : List (S105))) := ⟨_, rfl⟩
 rw [← hy199] at H
 try rw [Option.bind_some] at H
 have Ny199 := Aside0.mk hy199
 clear hy199
 obtain rfl := Option.some.inj H
 go_enter Tryz.func98, Tryz.ntmps98
 go_wp2_with (first | ((with_reducible refine gate_dst (N := 15) rfl ?_); refine Kd.R_lit k105 _ 105 ?hg (N := 15) ?hd (xs := ([(⟨(⟨#[97, 108, 110, 117, 109]⟩ : ByteArray), (⟨#[51, 48, 45, 51, 57, 32, 52, 49, 45, 53, 65, 32, 54, 49, 45, 55, 65]⟩ : ByteArray)⟩ : S105), (⟨(⟨#[97, 108, 112, 104, 97]⟩ : ByteArray), (⟨#[52, 49, 45, 53, 65, 32, 54, 49, 45, 55, 65]⟩ : ByteArray)⟩ : S105), (⟨(⟨#[97, 115, 99, 105, 105]⟩ : ByteArray), (⟨#[48, 45, 55, 70]⟩ : ByteArray)⟩ : S105), (⟨(⟨#[98, 108, 97, 110, 107]⟩ : ByteArray), (⟨#[57, 32, 50, 48]⟩ : ByteArray)⟩ : S105), (⟨(⟨#[99, 110, 116, 114, 108]⟩ : ByteArray), (⟨#[48, 45, 49, 70, 32, 55, 70]⟩ : ByteArray)⟩ : S105), (⟨(⟨#[100, 105, 103, 105, 116]⟩ : ByteArray), (⟨#[51, 48, 45, 51, 57]⟩ : ByteArray)⟩ : S105), (⟨(⟨#[103, 114, 97, 112, 104]⟩ : ByteArray), (⟨#[50, 49, 45, 55, 69]⟩ : ByteArray)⟩ : S105), (⟨(⟨#[108, 111, 119, 101, 114]⟩ : ByteArray), (⟨#[54, 49, 45, 55, 65]⟩ : ByteArray)⟩ : S105), (⟨(⟨#[112, 114, 105, 110, 116]⟩ : ByteArray), (⟨#[50, 48, 45, 55, 69]⟩ : ByteArray)⟩ : S105), (⟨(⟨#[112, 117, 110, 99, 116]⟩ : ByteArray), (⟨#[50, 49, 45, 50, 70, 32, 51, 65, 45, 52, 48, 32, 53, 66, 45, 54, 48, 32, 55, 66, 45, 55, 69]⟩ : ByteArray)⟩ : S105), (⟨(⟨#[115, 112, 97, 99, 101]⟩ : ByteArray), (⟨#[57, 45, 68, 32, 50, 48]⟩ : ByteArray)⟩ : S105), (⟨(⟨#[117, 112, 112, 101, 114]⟩ : ByteArray), (⟨#[52, 49, 45, 53, 65]⟩ : ByteArray)⟩ : S105), (⟨(⟨#[119, 111, 114, 100]⟩ : ByteArray), (⟨#[51, 48, 45, 51, 57, 32, 52, 49, 45, 53, 65, 32, 53, 70, 32, 54, 49, 45, 55, 65]⟩ : ByteArray)⟩ : S105), (⟨(⟨#[120, 100, 105, 103, 105, 116]⟩ : ByteArray), (⟨#[51, 48, 45, 51, 57, 32, 52, 49, 45, 52, 54, 32, 54, 49, 45, 54, 54]⟩ : ByteArray)⟩ : S105)] : List (S105))) (inner := [.string (⟨#[97, 108, 110, 117, 109]⟩ : ByteArray), .string (⟨#[51, 48, 45, 51, 57, 32, 52, 49, 45, 53, 65, 32, 54, 49, 45, 55, 65]⟩ : ByteArray), .string (⟨#[97, 108, 112, 104, 97]⟩ : ByteArray), .string (⟨#[52, 49, 45, 53, 65, 32, 54, 49, 45, 55, 65]⟩ : ByteArray), .string (⟨#[97, 115, 99, 105, 105]⟩ : ByteArray), .string (⟨#[48, 45, 55, 70]⟩ : ByteArray), .string (⟨#[98, 108, 97, 110, 107]⟩ : ByteArray), .string (⟨#[57, 32, 50, 48]⟩ : ByteArray), .string (⟨#[99, 110, 116, 114, 108]⟩ : ByteArray), .string (⟨#[48, 45, 49, 70, 32, 55, 70]⟩ : ByteArray), .string (⟨#[100, 105, 103, 105, 116]⟩ : ByteArray), .string (⟨#[51, 48, 45, 51, 57]⟩ : ByteArray), .string (⟨#[103, 114, 97, 112, 104]⟩ : ByteArray), .string (⟨#[50, 49, 45, 55, 69]⟩ : ByteArray), .string (⟨#[108, 111, 119, 101, 114]⟩ : ByteArray), .string (⟨#[54, 49, 45, 55, 65]⟩ : ByteArray), .string (⟨#[112, 114, 105, 110, 116]⟩ : ByteArray), .string (⟨#[50, 48, 45, 55, 69]⟩ : ByteArray), .string (⟨#[112, 117, 110, 99, 116]⟩ : ByteArray), .string (⟨#[50, 49, 45, 50, 70, 32, 51, 65, 45, 52, 48, 32, 53, 66, 45, 54, 48, 32, 55, 66, 45, 55, 69]⟩ : ByteArray), .string (⟨#[115, 112, 97, 99, 101]⟩ : ByteArray), .string (⟨#[57, 45, 68, 32, 50, 48]⟩ : ByteArray), .string (⟨#[117, 112, 112, 101, 114]⟩ : ByteArray), .string (⟨#[52, 49, 45, 53, 65]⟩ : ByteArray), .string (⟨#[119, 111, 114, 100]⟩ : ByteArray), .string (⟨#[51, 48, 45, 51, 57, 32, 52, 49, 45, 53, 65, 32, 53, 70, 32, 54, 49, 45, 55, 65]⟩ : ByteArray), .string (⟨#[120, 100, 105, 103, 105, 116]⟩ : ByteArray), .string (⟨#[51, 48, 45, 51, 57, 32, 52, 49, 45, 52, 54, 32, 54, 49, 45, 54, 54]⟩ : ByteArray)]) (ok := fun _ => True) (okp := fun _ => True) ?hr ?hp (fun _ hk => hk) trivial (Below.refl _ _) (Nat.le_refl _) (by simp) ?_; (case hd => rfl); (case hg => rfl); (case hr => first | (go_simp; done) | (go_simp; rfl)); (case hp => exact (Reps.c2 (k105_mkM _ _ _ _) (Reps.c2 (k105_mkM _ _ _ _) (Reps.c2 (k105_mkM _ _ _ _) (Reps.c2 (k105_mkM _ _ _ _) (Reps.c2 (k105_mkM _ _ _ _) (Reps.c2 (k105_mkM _ _ _ _) (Reps.c2 (k105_mkM _ _ _ _) (Reps.c2 (k105_mkM _ _ _ _) (Reps.c2 (k105_mkM _ _ _ _) (Reps.c2 (k105_mkM _ _ _ _) (Reps.c2 (k105_mkM _ _ _ _) (Reps.c2 (k105_mkM _ _ _ _) (Reps.c2 (k105_mkM _ _ _ _) (Reps.c2 (k105_mkM _ _ _ _) (Reps.none _ _)))))))))))))))); intro v200 w1 ho2 hb hg_ hnew_; clear hg_ hnew_; (first | rw [← Ny199.out] at ho2 | (simp only [Int.reduceToNat] at ho2; rw [← Ny199.out] at ho2)); have HO201 := Aside0.mk (Kd.R_lower ho2 (below_size bz)); replace HB := hz hb; clear hb ho2))
 go_ret
 exact ⟨_, fz, rz HO201.out, bz⟩
def class_Colon.f (k : Nat) (a0 : ByteArray) : Option ((List (S36)) × Int) := (class_colons.f).bind fun t202 => ((class_turned.f k t202 a0).bind fun bt205 => (some (bt205.1, bt205.2)))
theorem class_Colon.mono : ∀ a0 k, LeO (class_Colon.f k a0) (class_Colon.f (k + 1) a0) := by
 intro a0 k
 unfold class_Colon.f
 repeat' first
   | (with_reducible exact class_turned.mono _ _ _)
   | (with_reducible exact LeO.refl _)
   | (with_reducible exact LeO.none _)
   | (with_reducible refine LeO.ite ?_ ?_)
   | (with_reducible refine LeO.bind ?_ (fun _ => ?_))
   | exact class_turned.mono _ _ _
   | exact LeO.none _
   | refine LeO.ite ?_ ?_
   | refine LeO.bind ?_ (fun _ => ?_)
set_option maxHeartbeats 8000000 in
set_option maxRecDepth 100000 in
theorem class_Colon.calls (k : Nat) (a0 : ByteArray) (r1 : List (S36)) (r2 : Int) (w : World) (h : class_Colon.f k a0 = some (r1, r2)) :
  Calls Tryz.prog 68 #[.string a0] w fun e w' => ∃ v0_ : Value, e = .returned (.tuple #[v0_, .int .i64 r2]) ∧ Kd.R k36 36 w' w.heap.size (fun _ => True) v0_ r1 ∧ Below w.heap.size w w' := by
 have HB := Aside0.mk (Below.refl w.heap.size w)
 have H : ((class_colons.f).bind fun t202 => ((class_turned.f k t202 a0).bind fun bt205 => (some (bt205.1, bt205.2)))) = some (r1, r2) := h
 clear h
 replace H := Option.bind_eq_some_iff.mp H
 obtain ⟨t202, A20, H⟩ := H
 try dsimp only at H
 have A2 := Aside0.mk A20
 clear A20
 replace H := Option.bind_eq_some_iff.mp H
 obtain ⟨⟨t205, t206⟩, A30, H⟩ := H
 try dsimp only at H
 have A3 := Aside0.mk A30
 clear A30
 simp only [Option.some.injEq, Prod.mk.injEq] at H
 obtain ⟨rfl, rfl⟩ := H
 go_enter Tryz.func68, Tryz.ntmps68
 go_wp2_with (first | ((with_reducible refine gate_callee (f := 98) rfl ?_); refine goesL_ (some 4) rfl rfl Tryz.func98 kz rfl #[] rfl mz ?_; (with_reducible refine (class_colons.calls  t202 _ A2.out).mono ?_); rintro e w4 ⟨v203, rfl, ho0, hb⟩; refine ⟨_, rfl, ?_⟩; have HO204 := Aside0.mk (Kd.R_lower ho0 (below_size bz)); replace HB := hz hb; (try clear hb); (try clear ho0); obtain ⟨Ao5, co5, eo5⟩ := Kd.R_slice HO204.out; subst eo5) | ((with_reducible refine gate_callee (f := 58) rfl ?_); refine goesL_ (some 6) rfl rfl Tryz.func58 kz rfl #[.slice Ao5 t202.length co5, .string a0] rfl mz ?_; (with_reducible refine (class_turned.calls k _ _ t202 a0 t205 t206 _ ?side1 ?side2 A3.out).mono ?_); (case side1 => exact cz (Kd.R_reads' HO204.out).2.2); (case side2 => exact (Kd.R_reads' HO204.out).2.1); rintro e w6 ⟨v207, rfl, ho0, hb⟩; refine ⟨_, rfl, ?_⟩; have HO208 := Aside0.mk (Kd.R_lower ho0 (below_size bz)); replace HO204 := Aside0.mk (Kd.R_below (rz HO204.out) hb); replace HB := hz hb; (try clear hb); (try clear ho0)))
 go_ret2
 exact ⟨_, fz, rz HO208.out, bz⟩
mutual
def bracket_digit.j0 : Nat → Int → Bool → Option (Int)
 | 0, _, _ => none
 | k + 1, x0, x3 => if x3 = true then (some ((x0 - 48) % 256)) else (if x0 ≥ 97 then (bracket_digit.j1 k x0 (decide (x0 ≤ 102))) else (bracket_digit.j1 k x0 false))
def bracket_digit.j1 : Nat → Int → Bool → Option (Int)
 | 0, _, _ => none
 | k + 1, x0, x13 => if x13 = true then (some (((x0 - 97) % 256) + 10)) else (if x0 ≥ 65 then (if x0 ≤ 70 then (some (((x0 - 65) % 256) + 10)) else (some (-1))) else (some (-1)))
end
def bracket_digit.f (k : Nat) (a0 : Int) : Option (Int) := if a0 ≥ 48 then (bracket_digit.j0 k a0 (decide (a0 ≤ 57))) else (bracket_digit.j0 k a0 false)
theorem bracket_digit.mono_l : ∀ k, (∀ y0 y1, LeO (bracket_digit.j0 k y0 y1) (bracket_digit.j0 (k + 1) y0 y1)) ∧ (∀ y0 y1, LeO (bracket_digit.j1 k y0 y1) (bracket_digit.j1 (k + 1) y0 y1))
 | 0 => ⟨fun _ _ r h => by simp [bracket_digit.j0] at h, fun _ _ r h => by simp [bracket_digit.j1] at h⟩
 | k + 1 => by
  obtain ⟨ih0, ih1⟩ := bracket_digit.mono_l k
  refine ⟨?_, ?_⟩
  ·intro y0 y1
   unfold bracket_digit.j0
   repeat' first
   | (with_reducible exact ih0 _ _)
   | (with_reducible exact ih1 _ _)
   | (with_reducible exact LeO.refl _)
   | (with_reducible exact LeO.none _)
   | (with_reducible refine LeO.ite ?_ ?_)
   | (with_reducible refine LeO.bind ?_ (fun _ => ?_))
   | exact ih0 _ _
   | exact ih1 _ _
   | exact LeO.none _
   | refine LeO.ite ?_ ?_
   | refine LeO.bind ?_ (fun _ => ?_)
  intro y0 y1
  unfold bracket_digit.j1
  repeat' first
  | (with_reducible exact ih0 _ _)
  | (with_reducible exact ih1 _ _)
  | (with_reducible exact LeO.refl _)
  | (with_reducible exact LeO.none _)
  | (with_reducible refine LeO.ite ?_ ?_)
  | (with_reducible refine LeO.bind ?_ (fun _ => ?_))
  | exact ih0 _ _
  | exact ih1 _ _
  | exact LeO.none _
  | refine LeO.ite ?_ ?_
  | refine LeO.bind ?_ (fun _ => ?_)
theorem bracket_digit.mono : ∀ a0 k, LeO (bracket_digit.f k a0) (bracket_digit.f (k + 1) a0) := by
 intro a0 k
 obtain ⟨ih0, ih1⟩ := bracket_digit.mono_l k
 unfold bracket_digit.f
 repeat' first
   | (with_reducible exact ih0 _ _)
   | (with_reducible exact ih1 _ _)
   | (with_reducible exact LeO.refl _)
   | (with_reducible exact LeO.none _)
   | (with_reducible refine LeO.ite ?_ ?_)
   | (with_reducible refine LeO.bind ?_ (fun _ => ?_))
   | exact ih0 _ _
   | exact ih1 _ _
   | exact LeO.none _
   | refine LeO.ite ?_ ?_
   | refine LeO.bind ?_ (fun _ => ?_)
set_option maxHeartbeats 8000000 in
set_option maxRecDepth 100000 in
theorem bracket_digit.calls (k : Nat) (a0 : Int) (r : Int) (w : World) (h : bracket_digit.f k a0 = some r) :
  Calls Tryz.prog 54 #[.int .u8 a0] w fun e w' => e = .returned (.int .i64 r) ∧ Drawn0 w w' := by
 have H : (if a0 ≥ 48 then (bracket_digit.j0 k a0 (decide (a0 ≤ 57))) else (bracket_digit.j0 k a0 false)) = some r := h
 clear h
 have HC2 := Aside0.mk H
 clear H
 go_enter Tryz.func54, Tryz.ntmps54
 go_upto_region 1 with (fail)
 go_cut [3] (fun v3 wc => ∃ (kq : Nat) (x3_1 : Bool), v3 = .bool x3_1 ∧ Aside0 (bracket_digit.j0 kq a0 x3_1 = some r) ∧ Aside0 (kq ≤ k) ∧ Drawn0 w wc)
 case first =>
  have H := HC2.out
  clear HC2
  by_cases c3 : a0 ≥ 48
  ·rw [if_pos c3] at H
   have c3b0 : decide (48 ≤ a0) = true := decide_eq_true c3
   clear c3
   (first | rw [c3b0] | (simp only [i64_w, i32_w]; rw [c3b0]) | skip)
   have H' := Aside0.mk H
   clear H
   go_wp2
   go_meet
   case rel => exact ⟨_, (decide (a0 ≤ 57)), ez, H', ⟨by first | omega | exact Nat.le_refl _⟩, dz⟩
  rw [if_neg c3] at H
  have c3b0 : decide (48 ≤ a0) = false := decide_eq_false c3
  clear c3
  (first | rw [c3b0] | (simp only [i64_w, i32_w]; rw [c3b0]) | skip)
  have H' := Aside0.mk H
  clear H
  go_wp2
  go_meet
  case rel => exact ⟨_, (false), ez, H', ⟨by first | omega | exact Nat.le_refl _⟩, dz⟩
 clear HC2
 try clear p2
 try clear c3
 try clear c3b0
 obtain ⟨kq, x3_1, rfl, HA, HJ1, ⟨mc1, rfl⟩⟩ := hcut
 cases kq with
 | zero => exact absurd HA.out (by simp [bracket_digit.j0])
 | succ kj1 =>
  have H := HA.out
  clear HA
  simp only [bracket_digit.j0] at H
  by_cases c4 : x3_1 = true
  ·subst c4
   rw [if_pos rfl] at H
   obtain rfl := Option.some.inj H
   go_wp2
   go_ret
   exact ⟨ez, dz⟩
  replace c4 := Bool.eq_false_iff.mpr c4
  subst c4
  rw [if_neg (show ¬ (false = true) by decide)] at H
  have HC5 := Aside0.mk H
  clear H
  go_upto_region 3 with (fail)
  go_cut [13] (fun v13 wc => ∃ (kq : Nat) (x13_4 : Bool), v13 = .bool x13_4 ∧ Aside0 (bracket_digit.j1 kq a0 x13_4 = some r) ∧ Aside0 (kq ≤ kj1) ∧ Drawn0 w wc)
  case first =>
   have H := HC5.out
   clear HC5
   by_cases c6 : a0 ≥ 97
   ·rw [if_pos c6] at H
    have c6b0 : decide (97 ≤ a0) = true := decide_eq_true c6
    clear c6
    (first | rw [c6b0] | (simp only [i64_w, i32_w]; rw [c6b0]) | skip)
    have H' := Aside0.mk H
    clear H
    go_wp2
    go_meet
    case rel => exact ⟨_, (decide (a0 ≤ 102)), ez, H', ⟨by have := HJ1.out; first | omega | exact Nat.le_refl _⟩, dz⟩
   rw [if_neg c6] at H
   have c6b0 : decide (97 ≤ a0) = false := decide_eq_false c6
   clear c6
   (first | rw [c6b0] | (simp only [i64_w, i32_w]; rw [c6b0]) | skip)
   have H' := Aside0.mk H
   clear H
   go_wp2
   go_meet
   case rel => exact ⟨_, (false), ez, H', ⟨by have := HJ1.out; first | omega | exact Nat.le_refl _⟩, dz⟩
  clear HC5
  try clear c1
  try clear p2
  try clear c3
  try clear c3b0
  try clear c4
  try clear c5
  try clear c6
  try clear c6b0
  try clear p2
  obtain ⟨kq, x13_4, rfl, HA, HJ4, ⟨mc4, rfl⟩⟩ := hcut
  cases kq with
  | zero => exact absurd HA.out (by simp [bracket_digit.j1])
  | succ kj4 =>
   have H := HA.out
   clear HA
   simp only [bracket_digit.j1] at H
   by_cases c7 : x13_4 = true
   ·subst c7
    rw [if_pos rfl] at H
    obtain rfl := Option.some.inj H
    go_wp2
    go_ret
    exact ⟨ez, dz⟩
   replace c7 := Bool.eq_false_iff.mpr c7
   subst c7
   rw [if_neg (show ¬ (false = true) by decide)] at H
   by_cases c8 : a0 ≥ 65
   ·rw [if_pos c8] at H
    have c8b0 : decide (65 ≤ a0) = true := decide_eq_true c8
    clear c8
    by_cases c9 : a0 ≤ 70
    ·rw [if_pos c9] at H
     have c9b0 := decide_eq_true c9
     clear c9
     obtain rfl := Option.some.inj H
     go_wp2
     go_ret
     exact ⟨ez, dz⟩
    rw [if_neg c9] at H
    have c9b0 := decide_eq_false c9
    clear c9
    obtain rfl := Option.some.inj H
    go_wp2
    go_ret
    exact ⟨ez, dz⟩
   rw [if_neg c8] at H
   have c8b0 : decide (65 ≤ a0) = false := decide_eq_false c8
   clear c8
   obtain rfl := Option.some.inj H
   go_wp2
   go_ret
   exact ⟨ez, dz⟩
mutual
def bracket_long.l0 : Nat → ByteArray → Int → Int → Option (Int × Int × Int)
 | 0, _, _, _ => none
 | k + 1, x0, x2, x5 => if x5 < (x0.size : Int) then (if 0 ≤ x5 then ((bracket_digit.f k (bt x0 x5)).bind fun t209 => (if (bt x0 x5) = 125 then (if x5 > 3 then (bracket_long.j1 k x0 x2 x5 t209 (decide (x2 ≤ 1114111))) else (bracket_long.j1 k x0 x2 x5 t209 false)) else (bracket_long.j1 k x0 x2 x5 t209 false))) else (none)) else (some (0, 0, 82))
def bracket_long.j1 : Nat → ByteArray → Int → Int → Int → Bool → Option (Int × Int × Int)
 | 0, _, _, _, _, _ => none
 | k + 1, x0, x2, x5, x6, x17 => if x17 = true then (some (x2, wrap64 (x5 + 1), 0)) else (if x6 < 0 then (some (0, 0, 80)) else (if (wrap64 (x5 - 3)) = 6 then (some (0, 0, 80)) else (bracket_long.l0 k x0 (wrap64 ((wrap64 (16 * x2)) + x6)) (wrap64 (x5 + 1)))))
end
def bracket_long.f (k : Nat) (a0 : ByteArray) : Option (Int × Int × Int) := bracket_long.l0 k a0 0 3
theorem bracket_long.mono_l : ∀ k, (∀ y0 y1 y2, LeO (bracket_long.l0 k y0 y1 y2) (bracket_long.l0 (k + 1) y0 y1 y2)) ∧ (∀ y0 y1 y2 y3 y4, LeO (bracket_long.j1 k y0 y1 y2 y3 y4) (bracket_long.j1 (k + 1) y0 y1 y2 y3 y4))
 | 0 => ⟨fun _ _ _ r h => by simp [bracket_long.l0] at h, fun _ _ _ _ _ r h => by simp [bracket_long.j1] at h⟩
 | k + 1 => by
  obtain ⟨ih0, ih1⟩ := bracket_long.mono_l k
  refine ⟨?_, ?_⟩
  ·intro y0 y1 y2
   unfold bracket_long.l0
   repeat' first
   | (with_reducible exact ih0 _ _ _)
   | (with_reducible exact ih1 _ _ _ _ _)
   | (with_reducible exact bracket_digit.mono _ _)
   | (with_reducible exact LeO.refl _)
   | (with_reducible exact LeO.none _)
   | (with_reducible refine LeO.ite ?_ ?_)
   | (with_reducible refine LeO.bind ?_ (fun _ => ?_))
   | exact ih0 _ _ _
   | exact ih1 _ _ _ _ _
   | exact bracket_digit.mono _ _
   | exact LeO.none _
   | refine LeO.ite ?_ ?_
   | refine LeO.bind ?_ (fun _ => ?_)
  intro y0 y1 y2 y3 y4
  unfold bracket_long.j1
  repeat' first
  | (with_reducible exact ih0 _ _ _)
  | (with_reducible exact ih1 _ _ _ _ _)
  | (with_reducible exact bracket_digit.mono _ _)
  | (with_reducible exact LeO.refl _)
  | (with_reducible exact LeO.none _)
  | (with_reducible refine LeO.ite ?_ ?_)
  | (with_reducible refine LeO.bind ?_ (fun _ => ?_))
  | exact ih0 _ _ _
  | exact ih1 _ _ _ _ _
  | exact bracket_digit.mono _ _
  | exact LeO.none _
  | refine LeO.ite ?_ ?_
  | refine LeO.bind ?_ (fun _ => ?_)
theorem bracket_long.mono : ∀ a0 k, LeO (bracket_long.f k a0) (bracket_long.f (k + 1) a0) := by
 intro a0 k
 obtain ⟨ih0, ih1⟩ := bracket_long.mono_l k
 unfold bracket_long.f
 repeat' first
   | (with_reducible exact ih0 _ _ _)
   | (with_reducible exact ih1 _ _ _ _ _)
   | (with_reducible exact bracket_digit.mono _ _)
   | (with_reducible exact LeO.refl _)
   | (with_reducible exact LeO.none _)
   | (with_reducible refine LeO.ite ?_ ?_)
   | (with_reducible refine LeO.bind ?_ (fun _ => ?_))
   | exact ih0 _ _ _
   | exact ih1 _ _ _ _ _
   | exact bracket_digit.mono _ _
   | exact LeO.none _
   | refine LeO.ite ?_ ?_
   | refine LeO.bind ?_ (fun _ => ?_)
set_option maxHeartbeats 8000000 in
set_option maxRecDepth 100000 in
theorem bracket_long.calls (k : Nat) (a0 : ByteArray) (r1 : Int) (r2 : Int) (r3 : Int) (w : World) (h : bracket_long.f k a0 = some (r1, r2, r3)) :
  Calls Tryz.prog 25 #[.string a0] w fun e w' => e = .returned (.tuple #[.int .i64 r1, .int .i64 r2, .int .i64 r3]) ∧ Drawn0 w w' := by
 have H : (bracket_long.l0 k a0 0 3) = some (r1, r2, r3) := h
 clear h
 have H' := Aside0.mk H
 clear H
 go_enter Tryz.func25, Tryz.ntmps25
 go_wp2
 go_loopg [2, 5] k (fun kq v2 v5 w' => ∃ (x2_1 : Int) (x5_1 : Int), v2 = .int .i64 x2_1 ∧ v5 = .int .i64 x5_1 ∧ Aside0 (bracket_long.l0 kq a0 x2_1 x5_1 = some (r1, r2, r3)) ∧ Aside0 (kq ≤ k) ∧ Drawn0 w w')
 case atStart => exact ⟨(0), (3), ez, ez, H', ⟨Nat.le_refl _⟩, dz⟩
 clear H'
 obtain ⟨x2_1, x5_1, rfl, rfl, HA, HK1, ⟨m1, rfl⟩⟩ := hrel
 cases gk with
 | zero => exact absurd HA.out (by simp [bracket_long.l0])
 | succ k1 =>
  have H := HA.out
  clear HA
  simp only [bracket_long.l0] at H
  by_cases c2 : x5_1 < (a0.size : Int)
  ·rw [if_pos c2] at H
   have c2b0 := decide_eq_true c2
   clear c2
   by_cases c3 : 0 ≤ x5_1
   rotate_left
   ·exact nomatch (if_neg c3).symm.trans H
   rw [if_pos c3] at H
   have c3b0 := decide_eq_true c3
   clear c3
   replace H := Option.bind_eq_some_iff.mp H
   obtain ⟨t209, A50, H⟩ := H
   try dsimp only at H
   have A5 := Aside0.mk A50
   clear A50
   have HC6 := Aside0.mk H
   clear H
   have p4 : 0 ≤ (x5_1 : Int) := oz
   have q4 : x5_1 < (a0.size : Int) := oz
   have hx4 := bt_at a0 x5_1
   replace p4 := eq_true p4
   replace q4 := eq_true q4
   go_upto_region 5 with (first | ((with_reducible refine gate_callee (f := 54) rfl ?_); refine goesL_ (some 16) rfl rfl Tryz.func54 kz rfl #[.int .u8 (bt a0 x5_1)] rfl mz ?_; (with_reducible refine (bracket_digit.calls k1 (bt a0 x5_1) t209 _ A5.out).mono ?_); rintro e w' ⟨rfl, ⟨nd, rfl⟩⟩; refine ⟨_, rfl, ?_⟩))
   (try simp only [Act.put, List.setIfInBounds_toArray, List.set_cons_zero, List.set_cons_succ])
   go_cut [17] (fun v17 wc => ∃ (kq : Nat) (x17_5 : Bool), v17 = .bool x17_5 ∧ Aside0 (bracket_long.j1 kq a0 x2_1 x5_1 t209 x17_5 = some (r1, r2, r3)) ∧ Aside0 (kq ≤ k1) ∧ Drawn0 w wc)
   case first =>
    have H := HC6.out
    clear HC6
    by_cases c8 : (bt a0 x5_1) = 125
    ·rw [if_pos c8] at H
     have c8b0 := beq_iff_eq.mpr c8
     have c8b1 := bne_eq_false_iff_eq.mpr c8
     clear c8
     (first | rw [c8b0] | (simp only [i64_w, i32_w]; rw [c8b0]) | skip)
     by_cases c9 : x5_1 > 3
     ·rw [if_pos c9] at H
      have c9b0 : decide (3 < x5_1) = true := decide_eq_true c9
      clear c9
      have H' := Aside0.mk H
      clear H
      have p7 : 0 ≤ (x5_1 : Int) := oz
      have q7 : x5_1 < (a0.size : Int) := oz
      have hx7 := bt_at a0 x5_1
      replace p7 := eq_true p7
      replace q7 := eq_true q7
      go_wp2
      go_meet
      case rel => exact ⟨_, (decide (x2_1 ≤ 1114111)), ez, H', ⟨by have := HK1.out; first | omega | exact Nat.le_refl _⟩, dz⟩
     rw [if_neg c9] at H
     have c9b0 : decide (3 < x5_1) = false := decide_eq_false c9
     clear c9
     have H' := Aside0.mk H
     clear H
     have p7 : 0 ≤ (x5_1 : Int) := oz
     have q7 : x5_1 < (a0.size : Int) := oz
     have hx7 := bt_at a0 x5_1
     replace p7 := eq_true p7
     replace q7 := eq_true q7
     go_wp2
     go_meet
     case rel => exact ⟨_, (false), ez, H', ⟨by have := HK1.out; first | omega | exact Nat.le_refl _⟩, dz⟩
    rw [if_neg c8] at H
    have c8b0 := beq_eq_false_iff_ne.mpr c8
    have c8b1 := bne_iff_ne.mpr c8
    (first | rw [c8b0] | (simp only [i64_w, i32_w]; rw [c8b0]) | skip)
    have H' := Aside0.mk H
    clear H
    have p7 : 0 ≤ (x5_1 : Int) := oz
    have q7 : x5_1 < (a0.size : Int) := oz
    have hx7 := bt_at a0 x5_1
    replace p7 := eq_true p7
    replace q7 := eq_true q7
    go_wp2
    go_meet
    case rel => exact ⟨_, (false), ez, H', ⟨by have := HK1.out; first | omega | exact Nat.le_refl _⟩, dz⟩
   clear HC6
   try clear c2
   try clear c2b0
   try clear p2
   try clear c3
   try clear c3b0
   try clear p4
   try clear q4
   try clear hx4
   try clear c5
   try clear p7
   try clear q7
   try clear hx7
   try clear c8
   try clear c8b0 c8b1
   try clear c9
   try clear c9b0
   try clear p4
   try clear p7
   try clear q4
   try clear q7
   obtain ⟨kq, x17_5, rfl, HA, HJ5, ⟨mc5, rfl⟩⟩ := hcut
   cases kq with
   | zero => exact absurd HA.out (by simp [bracket_long.j1])
   | succ kj5 =>
    have H := HA.out
    clear HA
    simp only [bracket_long.j1] at H
    by_cases c10 : x17_5 = true
    ·subst c10
     rw [if_pos rfl] at H
     simp only [Option.some.injEq, Prod.mk.injEq] at H
     obtain ⟨rfl, rfl, rfl⟩ := H
     go_wp2
     go_ret3
     exact ⟨ez, dz⟩
    replace c10 := Bool.eq_false_iff.mpr c10
    subst c10
    rw [if_neg (show ¬ (false = true) by decide)] at H
    by_cases c11 : t209 < 0
    ·rw [if_pos c11] at H
     have c11b0 := decide_eq_true c11
     clear c11
     simp only [Option.some.injEq, Prod.mk.injEq] at H
     obtain ⟨rfl, rfl, rfl⟩ := H
     go_wp2
     go_ret3
     exact ⟨ez, dz⟩
    rw [if_neg c11] at H
    have c11b0 := decide_eq_false c11
    clear c11
    by_cases c12 : (wrap64 (x5_1 - 3)) = 6
    ·rw [if_pos c12] at H
     have c12b0 := beq_iff_eq.mpr c12
     have c12b1 := bne_eq_false_iff_eq.mpr c12
     clear c12
     simp only [Option.some.injEq, Prod.mk.injEq] at H
     obtain ⟨rfl, rfl, rfl⟩ := H
     go_wp2
     go_ret3
     exact ⟨ez, dz⟩
    rw [if_neg c12] at H
    have c12b0 := beq_eq_false_iff_ne.mpr c12
    have c12b1 := bne_iff_ne.mpr c12
    have H' := Aside0.mk H
    clear H
    go_wp2
    go_roundg kj5
    case measure => have := HK1.out; have := HJ5.out; omega
    case rel => exact ⟨(wrap64 ((wrap64 (16 * x2_1)) + t209)), (wrap64 (x5_1 + 1)), ez, ez, H', ⟨by have := HK1.out; have := HJ5.out; omega⟩, dz⟩
  rw [if_neg c2] at H
  have c2b0 := decide_eq_false c2
  clear c2
  simp only [Option.some.injEq, Prod.mk.injEq] at H
  obtain ⟨rfl, rfl, rfl⟩ := H
  go_wp2
  go_ret3
  exact ⟨ez, dz⟩
def bracket_short.l0 : Nat → ByteArray → Int → Int → Option (Int × Int × Int)
 | 0, _, _, _ => none
 | k + 1, x0, x2, x5 => if x5 < 4 then (if x5 = (x0.size : Int) then (some (0, 0, 82)) else (if 0 ≤ x5 then (if x5 < (x0.size : Int) then ((bracket_digit.f k (bt x0 x5)).bind fun t210 => (if t210 < 0 then (some (0, 0, 80)) else (bracket_short.l0 k x0 (wrap64 ((wrap64 (16 * x2)) + t210)) (wrap64 (x5 + 1))))) else (none)) else (none))) else (some (x2, 4, 0))
def bracket_short.f (k : Nat) (a0 : ByteArray) : Option (Int × Int × Int) := bracket_short.l0 k a0 0 2
theorem bracket_short.mono_l : ∀ k, (∀ y0 y1 y2, LeO (bracket_short.l0 k y0 y1 y2) (bracket_short.l0 (k + 1) y0 y1 y2))
 | 0 => fun _ _ _ r h => by simp [bracket_short.l0] at h
 | k + 1 => by
  have ih0 := bracket_short.mono_l k
  intro y0 y1 y2
  unfold bracket_short.l0
  repeat' first
  | (with_reducible exact ih0 _ _ _)
  | (with_reducible exact bracket_digit.mono _ _)
  | (with_reducible exact LeO.refl _)
  | (with_reducible exact LeO.none _)
  | (with_reducible refine LeO.ite ?_ ?_)
  | (with_reducible refine LeO.bind ?_ (fun _ => ?_))
  | exact ih0 _ _ _
  | exact bracket_digit.mono _ _
  | exact LeO.none _
  | refine LeO.ite ?_ ?_
  | refine LeO.bind ?_ (fun _ => ?_)
theorem bracket_short.mono : ∀ a0 k, LeO (bracket_short.f k a0) (bracket_short.f (k + 1) a0) := by
 intro a0 k
 have ih0 := bracket_short.mono_l k
 unfold bracket_short.f
 repeat' first
   | (with_reducible exact ih0 _ _ _)
   | (with_reducible exact bracket_digit.mono _ _)
   | (with_reducible exact LeO.refl _)
   | (with_reducible exact LeO.none _)
   | (with_reducible refine LeO.ite ?_ ?_)
   | (with_reducible refine LeO.bind ?_ (fun _ => ?_))
   | exact ih0 _ _ _
   | exact bracket_digit.mono _ _
   | exact LeO.none _
   | refine LeO.ite ?_ ?_
   | refine LeO.bind ?_ (fun _ => ?_)
set_option maxHeartbeats 8000000 in
set_option maxRecDepth 100000 in
theorem bracket_short.calls (k : Nat) (a0 : ByteArray) (r1 : Int) (r2 : Int) (r3 : Int) (w : World) (h : bracket_short.f k a0 = some (r1, r2, r3)) :
  Calls Tryz.prog 26 #[.string a0] w fun e w' => e = .returned (.tuple #[.int .i64 r1, .int .i64 r2, .int .i64 r3]) ∧ Drawn0 w w' := by
 have H : (bracket_short.l0 k a0 0 2) = some (r1, r2, r3) := h
 clear h
 have H' := Aside0.mk H
 clear H
 go_enter Tryz.func26, Tryz.ntmps26
 go_wp2
 go_loopg [2, 5] k (fun kq v2 v5 w' => ∃ (x2_1 : Int) (x5_1 : Int), v2 = .int .i64 x2_1 ∧ v5 = .int .i64 x5_1 ∧ Aside0 (bracket_short.l0 kq a0 x2_1 x5_1 = some (r1, r2, r3)) ∧ Aside0 (kq ≤ k) ∧ Drawn0 w w')
 case atStart => exact ⟨(0), (2), ez, ez, H', ⟨Nat.le_refl _⟩, dz⟩
 clear H'
 obtain ⟨x2_1, x5_1, rfl, rfl, HA, HK1, ⟨m1, rfl⟩⟩ := hrel
 cases gk with
 | zero => exact absurd HA.out (by simp [bracket_short.l0])
 | succ k1 =>
  have H := HA.out
  clear HA
  simp only [bracket_short.l0] at H
  by_cases c2 : x5_1 < 4
  ·rw [if_pos c2] at H
   have c2b0 := decide_eq_true c2
   clear c2
   by_cases c3 : x5_1 = (a0.size : Int)
   ·rw [if_pos c3] at H
    have c3b0 := beq_iff_eq.mpr c3
    have c3b1 := bne_eq_false_iff_eq.mpr c3
    clear c3
    simp only [Option.some.injEq, Prod.mk.injEq] at H
    obtain ⟨rfl, rfl, rfl⟩ := H
    go_wp2
    go_ret3
    exact ⟨ez, dz⟩
   rw [if_neg c3] at H
   have c3b0 := beq_eq_false_iff_ne.mpr c3
   have c3b1 := bne_iff_ne.mpr c3
   by_cases c4 : 0 ≤ x5_1
   rotate_left
   ·exact nomatch (if_neg c4).symm.trans H
   rw [if_pos c4] at H
   have c4b0 := decide_eq_true c4
   clear c4
   by_cases c5 : x5_1 < (a0.size : Int)
   rotate_left
   ·exact nomatch (if_neg c5).symm.trans H
   rw [if_pos c5] at H
   have c5b0 := decide_eq_true c5
   clear c5
   replace H := Option.bind_eq_some_iff.mp H
   obtain ⟨t210, A70, H⟩ := H
   try dsimp only at H
   have A7 := Aside0.mk A70
   clear A70
   by_cases c8 : t210 < 0
   ·rw [if_pos c8] at H
    have c8b0 := decide_eq_true c8
    clear c8
    simp only [Option.some.injEq, Prod.mk.injEq] at H
    obtain ⟨rfl, rfl, rfl⟩ := H
    have p6 : 0 ≤ (x5_1 : Int) := oz
    have q6 : x5_1 < (a0.size : Int) := oz
    have hx6 := bt_at a0 x5_1
    replace p6 := eq_true p6
    replace q6 := eq_true q6
    go_wp2_with (first | ((with_reducible refine gate_callee (f := 54) rfl ?_); refine goesL_ (some 18) rfl rfl Tryz.func54 kz rfl #[.int .u8 (bt a0 x5_1)] rfl mz ?_; (with_reducible refine (bracket_digit.calls k1 (bt a0 x5_1) t210 _ A7.out).mono ?_); rintro e w' ⟨rfl, ⟨nd, rfl⟩⟩; refine ⟨_, rfl, ?_⟩))
    go_ret3
    exact ⟨ez, dz⟩
   rw [if_neg c8] at H
   have c8b0 := decide_eq_false c8
   clear c8
   have H' := Aside0.mk H
   clear H
   have p6 : 0 ≤ (x5_1 : Int) := oz
   have q6 : x5_1 < (a0.size : Int) := oz
   have hx6 := bt_at a0 x5_1
   replace p6 := eq_true p6
   replace q6 := eq_true q6
   go_wp2_with (first | ((with_reducible refine gate_callee (f := 54) rfl ?_); refine goesL_ (some 18) rfl rfl Tryz.func54 kz rfl #[.int .u8 (bt a0 x5_1)] rfl mz ?_; (with_reducible refine (bracket_digit.calls k1 (bt a0 x5_1) t210 _ A7.out).mono ?_); rintro e w' ⟨rfl, ⟨nd, rfl⟩⟩; refine ⟨_, rfl, ?_⟩))
   go_roundg k1
   case measure => have := HK1.out; omega
   case rel => exact ⟨(wrap64 ((wrap64 (16 * x2_1)) + t210)), (wrap64 (x5_1 + 1)), ez, ez, H', ⟨by have := HK1.out; omega⟩, dz⟩
  rw [if_neg c2] at H
  have c2b0 := decide_eq_false c2
  clear c2
  simp only [Option.some.injEq, Prod.mk.injEq] at H
  obtain ⟨rfl, rfl, rfl⟩ := H
  go_wp2
  go_ret3
  exact ⟨ez, dz⟩
-- own text
def numPlain : List Int := [7, 12, 9, 10, 13, 11]
def numLetters : List Int := [97, 102, 116, 110, 114, 118]
def bracket_Number.f (k : Nat) (a0 : ByteArray) : Option (Int × Int × Int) :=
 if a0.toList = ([] : List UInt8) then some (0, 0, 3) else if bt a0 0 = 92 then (if (a0.size : Int) = 1 then some (0, 0, 82) else if 1 < (a0.size : Int) then
  (if bt a0 1 ∈ numLetters then some (numPlain.getD (numLetters.idxOf (bt a0 1)) 0, 2, 0) else if bt a0 1 = 120 then (if 2 < (a0.size : Int) ∧ bt a0 2 = 123 then bracket_long.f k a0 else bracket_short.f k a0)
     else if bt a0 1 < 33 ∨ bt a0 1 > 126 then some (0, 0, 80) else (bracket_letter.f (bt a0 1)).bind fun t => if t = true ∨ 48 ≤ bt a0 1 ∧ bt a0 1 ≤ 57 then some (0, 0, 80) else some (bt a0 1, 2, 0))
  else none) else some (0, 0, 3)
theorem bracket_Number.mono : ∀ a0 k, LeO (bracket_Number.f k a0) (bracket_Number.f (k + 1) a0) := by
 intro a0 k
 unfold bracket_Number.f
 repeat' first
   | (with_reducible exact bracket_long.mono _ _)
   | (with_reducible exact bracket_short.mono _ _)
   | (with_reducible exact LeO.refl _)
   | (with_reducible refine LeO.ite ?_ ?_)
theorem plains_index (j : Nat) (hj : j < 6) : ∀ w, (Instr.index 45 (.agg #[.int .i64 7, .int .i64 12, .int .i64 9, .int .i64 10, .int .i64 13, .int .i64 11]) (.int .i64 (j : Int))).run Tryz.prog w = .ok (.int .i64 (numPlain.getD j 0)) w := by
 intro w
 have h : j = 0 ∨ j = 1 ∨ j = 2 ∨ j = 3 ∨ j = 4 ∨ j = 5 := by omega
 rcases h with rfl | rfl | rfl | rfl | rfl | rfl <;> simp [Instr.index, run_underlying Tryz.underlying45, asIntOf, numPlain, go_sem]
theorem drawn_below {w w' : World} (h : Drawn0 w w') : Below w.heap.size w w' := by
 obtain ⟨m, rfl⟩ := h
 exact pw_below_drewN (Below.refl _ _) m
theorem plains_any (w : World) : Calls Tryz.prog 24 #[] w fun e w' => e = .returned (.agg #[.int .i64 7, .int .i64 12, .int .i64 9, .int .i64 10, .int .i64 13, .int .i64 11]) ∧ Below w.heap.size w w' := by
 go_enter Tryz.func24, Tryz.ntmps24
 go_wp2
 exact bodyPost_ret (v := .agg #[.int .i64 7, .int .i64 12, .int .i64 9, .int .i64 10, .int .i64 13, .int .i64 11]) (by simp [results, Tryz.results24, go_sem]) rfl ⟨rfl, (Below.refl _ _).alloc (Nat.le_refl _) _⟩
set_option maxRecDepth 100000 in
set_option maxHeartbeats 4000000 in
theorem bracket_Number.calls (k : Nat) (a0 : ByteArray) (r1 : Int) (r2 : Int) (r3 : Int) (w : World) (h : bracket_Number.f k a0 = some (r1, r2, r3)) :
  Calls Tryz.prog 9 #[.string a0] w fun e w' => e = .returned (.tuple #[.int .i64 r1, .int .i64 r2, .int .i64 r3]) ∧ Below w.heap.size w w' := by
 have HB := Aside0.mk (Below.refl w.heap.size w)
 have H := h
 clear h
 unfold bracket_Number.f at H
 by_cases c1 : a0.toList = ([] : List UInt8)
 ·rw [if_pos c1] at H
  simp only [Option.some.injEq, Prod.mk.injEq] at H
  obtain ⟨rfl, rfl, rfl⟩ := H
  have c1b0 := beq_iff_eq.mpr c1
  clear c1
  go_enter Tryz.func9, Tryz.ntmps9
  go_wp2
  go_ret3
  exact ⟨rfl, HB.out⟩
 rw [if_neg c1] at H
 have hpos : 0 < a0.size := by
  rcases Nat.eq_zero_or_pos a0.size with h | h
  ·exact absurd (by rw [ByteArray.toList_eq]; exact List.length_eq_zero_iff.1 (by simpa using h)) c1
  exact h
 have c1b0 := beq_eq_false_iff_ne.mpr c1
 clear c1
 have hx0 : ∀ h : 0 < a0.size, ((a0[0]'h).toNat : Int) = bt a0 0 := bt_at a0 0
 have qi0 : (0 < (a0.size : Int)) = True := eq_true (by omega)
 have q0 := eq_true hpos
 by_cases c2 : bt a0 0 = 92
 ·rw [if_pos c2] at H
  rw [c2] at hx0
  clear c2
  by_cases c3 : (a0.size : Int) = 1
  ·rw [if_pos c3] at H
   simp only [Option.some.injEq, Prod.mk.injEq] at H
   obtain ⟨rfl, rfl, rfl⟩ := H
   have c3b0 := beq_iff_eq.mpr c3
   clear c3
   go_enter Tryz.func9, Tryz.ntmps9
   go_wp2
   go_ret3
   exact ⟨rfl, HB.out⟩
  rw [if_neg c3] at H
  have c3b0 := beq_eq_false_iff_ne.mpr c3
  have h1 : 1 < (a0.size : Int) := by omega
  rw [if_pos h1] at H
  have hx1 : ∀ h : 1 < a0.size, ((a0[1]'h).toNat : Int) = bt a0 1 := bt_at a0 1
  have qi1 : (1 < (a0.size : Int)) = True := eq_true h1
  have q1 : (1 < a0.size) = True := eq_true (by omega)
  have hr := bt_range a0 1
  have HI := Aside0.mk (fun (c : Int) (w : World) => strings_IndexByte.calls (⟨#[97, 102, 116, 110, 114, 118]⟩ : ByteArray) c _ w rfl)
  clear c3 h1 hpos
  by_cases c4 : bt a0 1 ∈ numLetters
  ·rw [if_pos c4] at H
   simp only [Option.some.injEq, Prod.mk.injEq] at H
   obtain ⟨rfl, rfl, rfl⟩ := H
   have h6 : bt a0 1 = 97 ∨ bt a0 1 = 102 ∨ bt a0 1 = 116 ∨ bt a0 1 = 110 ∨ bt a0 1 = 114 ∨ bt a0 1 = 118 := by simpa [numLetters] using c4
   clear c4 hr
   rcases h6 with hb | hb | hb | hb | hb | hb
   all_goals
    rw [hb] at hx1 ⊢
    have HC := Aside0.mk (HI.out (bt a0 1))
    rw [hb] at HC
    clear HI hb
    go_enter Tryz.func9, Tryz.ntmps9
    go_wp2_with fail
    refine (HC.out _).mono ?_
    rintro e w1 ⟨rfl, hb1⟩
    have HB1 := Aside0.mk (HB.out.trans (hb1.mono (by simp)))
    clear hb1
    simp only [show Lib.indexByte (⟨#[97, 102, 116, 110, 114, 118]⟩ : ByteArray).data.toList (97 : Int).toNat.toUInt8 = 0 from by decide, show Lib.indexByte (⟨#[97, 102, 116, 110, 114, 118]⟩ : ByteArray).data.toList (102 : Int).toNat.toUInt8 = 1 from by decide, show Lib.indexByte (⟨#[97, 102, 116, 110, 114, 118]⟩ : ByteArray).data.toList (116 : Int).toNat.toUInt8 = 2 from by decide, show Lib.indexByte (⟨#[97, 102, 116, 110, 114, 118]⟩ : ByteArray).data.toList (110 : Int).toNat.toUInt8 = 3 from by decide, show Lib.indexByte (⟨#[97, 102, 116, 110, 114, 118]⟩ : ByteArray).data.toList (114 : Int).toNat.toUInt8 = 4 from by decide, show Lib.indexByte (⟨#[97, 102, 116, 110, 114, 118]⟩ : ByteArray).data.toList (118 : Int).toNat.toUInt8 = 5 from by decide]
    go_wp2_with fail
    refine (plains_any _).mono ?_
    rintro e w2 ⟨rfl, hb2⟩
    have HB2 := Aside0.mk (HB1.out.trans (hb2.mono (HB1.out.size)))
    clear hb2
    have hix0 : ∀ w, (Instr.index 45 (.agg #[.int .i64 7, .int .i64 12, .int .i64 9, .int .i64 10, .int .i64 13, .int .i64 11]) (.int .i64 0)).run Tryz.prog w = .ok (.int .i64 7) w := plains_index 0 (by decide)
    have hix1 : ∀ w, (Instr.index 45 (.agg #[.int .i64 7, .int .i64 12, .int .i64 9, .int .i64 10, .int .i64 13, .int .i64 11]) (.int .i64 1)).run Tryz.prog w = .ok (.int .i64 12) w := plains_index 1 (by decide)
    have hix2 : ∀ w, (Instr.index 45 (.agg #[.int .i64 7, .int .i64 12, .int .i64 9, .int .i64 10, .int .i64 13, .int .i64 11]) (.int .i64 2)).run Tryz.prog w = .ok (.int .i64 9) w := plains_index 2 (by decide)
    have hix3 : ∀ w, (Instr.index 45 (.agg #[.int .i64 7, .int .i64 12, .int .i64 9, .int .i64 10, .int .i64 13, .int .i64 11]) (.int .i64 3)).run Tryz.prog w = .ok (.int .i64 10) w := plains_index 3 (by decide)
    have hix4 : ∀ w, (Instr.index 45 (.agg #[.int .i64 7, .int .i64 12, .int .i64 9, .int .i64 10, .int .i64 13, .int .i64 11]) (.int .i64 4)).run Tryz.prog w = .ok (.int .i64 13) w := plains_index 4 (by decide)
    have hix5 : ∀ w, (Instr.index 45 (.agg #[.int .i64 7, .int .i64 12, .int .i64 9, .int .i64 10, .int .i64 13, .int .i64 11]) (.int .i64 5)).run Tryz.prog w = .ok (.int .i64 11) w := plains_index 5 (by decide)
    go_wp2_with fail
    go_ret3
    exact ⟨by first | (simp [numPlain, numLetters]; done) | (simp [numPlain, numLetters]; decide), HB2.out⟩
  rw [if_neg c4] at H
  have HI2 := Aside0.mk (show ∀ w, Calls Tryz.prog 23 #[.string (⟨#[97, 102, 116, 110, 114, 118]⟩ : ByteArray), .int .u8 (bt a0 1)] w fun e w' => e = .returned (.int .i64 (-1)) ∧ Below w.heap.size w w' from fun w => by
   have h1 := HI.out (bt a0 1) w
   have hv : Lib.indexByte (⟨#[97, 102, 116, 110, 114, 118]⟩ : ByteArray).data.toList (bt a0 1).toNat.toUInt8 = -1 := by
    have key : ∀ c : Fin 256, (c.val : Int) ∉ numLetters → Lib.indexByte (⟨#[97, 102, 116, 110, 114, 118]⟩ : ByteArray).data.toList (c.val : Int).toNat.toUInt8 = -1 := by decide +kernel
    have := key ⟨(bt a0 1).toNat, by omega⟩ (by simpa [Int.toNat_of_nonneg hr.1] using c4)
    rwa [show (((⟨(bt a0 1).toNat, by omega⟩ : Fin 256).val : Nat) : Int) = bt a0 1 from by simp; omega] at this
   rwa [hv] at h1)
  clear HI c4
  by_cases c5 : bt a0 1 = 120
  ·rw [if_pos c5] at H
   rw [c5] at hx1 HI2
   clear hr c5
   by_cases c6 : 2 < (a0.size : Int)
   ·have hx2 : ∀ h : 2 < a0.size, ((a0[2]'h).toNat : Int) = bt a0 2 := bt_at a0 2
    have qi2 : (2 < (a0.size : Int)) = True := eq_true c6
    have q2 : (2 < a0.size) = True := eq_true (by omega)
    by_cases c7 : bt a0 2 = 123
    ·rw [if_pos ⟨c6, c7⟩] at H
     rw [c7] at hx2
     have HL := Aside0.mk (fun w => bracket_long.calls k a0 r1 r2 r3 w H)
     clear H c6 c7
     go_enter Tryz.func9, Tryz.ntmps9
     go_wp2_with fail
     refine (HI2.out _).mono ?_
     rintro e w1 ⟨rfl, hb1⟩
     have HB1 := Aside0.mk (HB.out.trans (hb1.mono (by simp)))
     clear hb1
     go_wp2_with fail
     refine (HL.out _).mono ?_
     rintro e w2 ⟨rfl, hd⟩
     have HB2 := Aside0.mk (HB1.out.trans ((drawn_below hd).mono HB1.out.size))
     clear hd
     go_wp2_with fail
     go_ret3
     exact ⟨rfl, HB2.out⟩
    rw [if_neg (fun h => c7 h.2)] at H
    have c7b : (bt a0 2 == 123) = false := beq_eq_false_iff_ne.mpr c7
    have HL := Aside0.mk (fun w => bracket_short.calls k a0 r1 r2 r3 w H)
    clear H c6 c7
    go_enter Tryz.func9, Tryz.ntmps9
    go_wp2_with fail
    refine (HI2.out _).mono ?_
    rintro e w1 ⟨rfl, hb1⟩
    have HB1 := Aside0.mk (HB.out.trans (hb1.mono (by simp)))
    clear hb1
    go_wp2_with fail
    refine (HL.out _).mono ?_
    rintro e w2 ⟨rfl, hd⟩
    have HB2 := Aside0.mk (HB1.out.trans ((drawn_below hd).mono HB1.out.size))
    clear hd
    go_wp2_with fail
    go_ret3
    exact ⟨rfl, HB2.out⟩
   rw [if_neg (fun h => c6 h.1)] at H
   have HL := Aside0.mk (fun w => bracket_short.calls k a0 r1 r2 r3 w H)
   have qi2 : (2 < (a0.size : Int)) = False := eq_false c6
   have q2 : (2 < a0.size) = False := eq_false (by omega)
   clear H c6
   go_enter Tryz.func9, Tryz.ntmps9
   go_wp2_with fail
   refine (HI2.out _).mono ?_
   rintro e w1 ⟨rfl, hb1⟩
   have HB1 := Aside0.mk (HB.out.trans (hb1.mono (by simp)))
   clear hb1
   go_wp2_with fail
   refine (HL.out _).mono ?_
   rintro e w2 ⟨rfl, hd⟩
   have HB2 := Aside0.mk (HB1.out.trans ((drawn_below hd).mono HB1.out.size))
   clear hd
   go_wp2_with fail
   go_ret3
   exact ⟨rfl, HB2.out⟩
  rw [if_neg c5] at H
  have c5b : (bt a0 1 == 120) = false := beq_eq_false_iff_ne.mpr c5
  clear c5
  by_cases c6 : bt a0 1 < 33
  ·rw [if_pos (.inl c6)] at H
   simp only [Option.some.injEq, Prod.mk.injEq] at H
   obtain ⟨rfl, rfl, rfl⟩ := H
   have c6b : decide (bt a0 1 < 33) = true := decide_eq_true c6
   clear c6
   go_enter Tryz.func9, Tryz.ntmps9
   go_wp2_with fail
   refine (HI2.out _).mono ?_
   rintro e w1 ⟨rfl, hb1⟩
   have HB1 := Aside0.mk (HB.out.trans (hb1.mono (by simp)))
   clear hb1
   go_wp2_with fail
   go_ret3
   exact ⟨rfl, HB1.out⟩
  have c6b : decide (bt a0 1 < 33) = false := decide_eq_false c6
  by_cases c7 : 126 < bt a0 1
  ·rw [if_pos (.inr c7)] at H
   simp only [Option.some.injEq, Prod.mk.injEq] at H
   obtain ⟨rfl, rfl, rfl⟩ := H
   have c7b : decide (126 < bt a0 1) = true := decide_eq_true c7
   clear c6 c7
   go_enter Tryz.func9, Tryz.ntmps9
   go_wp2_with fail
   refine (HI2.out _).mono ?_
   rintro e w1 ⟨rfl, hb1⟩
   have HB1 := Aside0.mk (HB.out.trans (hb1.mono (by simp)))
   clear hb1
   go_wp2_with fail
   go_ret3
   exact ⟨rfl, HB1.out⟩
  rw [if_neg (by omega)] at H
  have c7b : decide (126 < bt a0 1) = false := decide_eq_false c7
  obtain ⟨t, ht, H⟩ := Option.bind_eq_some_iff.1 H
  have HLE := Aside0.mk (fun w => bracket_letter.calls (bt a0 1) t w ht)
  clear ht c6 c7
  cases t with
  | true =>
   rw [if_pos (.inl rfl)] at H
   simp only [Option.some.injEq, Prod.mk.injEq] at H
   obtain ⟨rfl, rfl, rfl⟩ := H
   go_enter Tryz.func9, Tryz.ntmps9
   go_wp2_with fail
   refine (HI2.out _).mono ?_
   rintro e w1 ⟨rfl, hb1⟩
   have HB1 := Aside0.mk (HB.out.trans (hb1.mono (by simp)))
   clear hb1
   go_wp2_with fail
   refine (HLE.out _).mono ?_
   rintro e w2 ⟨rfl, hd⟩
   have HB2 := Aside0.mk (HB1.out.trans ((drawn_below hd).mono HB1.out.size))
   clear hd
   go_wp2_with fail
   go_ret3
   exact ⟨rfl, HB2.out⟩
  | false =>
   by_cases c8 : 48 ≤ bt a0 1
   ·have c8b : decide (48 ≤ bt a0 1) = true := decide_eq_true c8
    by_cases c9 : bt a0 1 ≤ 57
    ·rw [if_pos (.inr ⟨c8, c9⟩)] at H
     have c9b : decide (bt a0 1 ≤ 57) = true := decide_eq_true c9
     simp only [Option.some.injEq, Prod.mk.injEq] at H
     obtain ⟨rfl, rfl, rfl⟩ := H
     clear c8 c9
     go_enter Tryz.func9, Tryz.ntmps9
     go_wp2_with fail
     refine (HI2.out _).mono ?_
     rintro e w1 ⟨rfl, hb1⟩
     have HB1 := Aside0.mk (HB.out.trans (hb1.mono (by simp)))
     clear hb1
     go_wp2_with fail
     refine (HLE.out _).mono ?_
     rintro e w2 ⟨rfl, hd⟩
     have HB2 := Aside0.mk (HB1.out.trans ((drawn_below hd).mono HB1.out.size))
     clear hd
     go_wp2_with fail
     go_ret3
     exact ⟨rfl, HB2.out⟩
    rw [if_neg (by simp; omega)] at H
    have c9b : decide (bt a0 1 ≤ 57) = false := decide_eq_false c9
    simp only [Option.some.injEq, Prod.mk.injEq] at H
    obtain ⟨rfl, rfl, rfl⟩ := H
    clear c8 c9
    go_enter Tryz.func9, Tryz.ntmps9
    go_wp2_with fail
    refine (HI2.out _).mono ?_
    rintro e w1 ⟨rfl, hb1⟩
    have HB1 := Aside0.mk (HB.out.trans (hb1.mono (by simp)))
    clear hb1
    go_wp2_with fail
    refine (HLE.out _).mono ?_
    rintro e w2 ⟨rfl, hd⟩
    have HB2 := Aside0.mk (HB1.out.trans ((drawn_below hd).mono HB1.out.size))
    clear hd
    go_wp2_with fail
    go_ret3
    exact ⟨rfl, HB2.out⟩
   rw [if_neg (by simp; omega)] at H
   have c8b : decide (48 ≤ bt a0 1) = false := decide_eq_false c8
   simp only [Option.some.injEq, Prod.mk.injEq] at H
   obtain ⟨rfl, rfl, rfl⟩ := H
   clear c8
   go_enter Tryz.func9, Tryz.ntmps9
   go_wp2_with fail
   refine (HI2.out _).mono ?_
   rintro e w1 ⟨rfl, hb1⟩
   have HB1 := Aside0.mk (HB.out.trans (hb1.mono (by simp)))
   clear hb1
   go_wp2_with fail
   refine (HLE.out _).mono ?_
   rintro e w2 ⟨rfl, hd⟩
   have HB2 := Aside0.mk (HB1.out.trans ((drawn_below hd).mono HB1.out.size))
   clear hd
   go_wp2_with fail
   go_ret3
   exact ⟨rfl, HB2.out⟩
 rw [if_neg c2] at H
 have c2b : (bt a0 0 == 92) = false := beq_eq_false_iff_ne.mpr c2
 have c2c : (bt a0 0 != 92) = true := bne_iff_ne.mpr c2
 simp only [Option.some.injEq, Prod.mk.injEq] at H
 obtain ⟨rfl, rfl, rfl⟩ := H
 clear c2
 go_enter Tryz.func9, Tryz.ntmps9
 go_wp2
 go_ret3
 exact ⟨rfl, HB.out⟩
def utf_Width.j0 : Nat → Int → Bool → Option (Int)
 | 0, _, _ => none
 | k + 1, x0, x3 => if x3 = true then (some 0) else (if x0 ≤ 127 then (some 1) else (if x0 ≤ 2047 then (some 2) else (if x0 ≤ 65535 then (some 3) else (some 4))))
def utf_Width.f (k : Nat) (a0 : Int) : Option (Int) := if a0 < 0 then (utf_Width.j0 k a0 true) else (if a0 > 1114111 then (utf_Width.j0 k a0 true) else (if a0 ≥ 55296 then (utf_Width.j0 k a0 (decide (a0 ≤ 57343))) else (utf_Width.j0 k a0 false)))
theorem utf_Width.mono_l : ∀ k, (∀ y0 y1, LeO (utf_Width.j0 k y0 y1) (utf_Width.j0 (k + 1) y0 y1))
 | 0 => fun _ _ r h => by simp [utf_Width.j0] at h
 | k + 1 => by
  have ih0 := utf_Width.mono_l k
  intro y0 y1
  unfold utf_Width.j0
  repeat' first
  | (with_reducible exact ih0 _ _)
  | (with_reducible exact LeO.refl _)
  | (with_reducible exact LeO.none _)
  | (with_reducible refine LeO.ite ?_ ?_)
  | (with_reducible refine LeO.bind ?_ (fun _ => ?_))
  | exact ih0 _ _
  | exact LeO.none _
  | refine LeO.ite ?_ ?_
  | refine LeO.bind ?_ (fun _ => ?_)
theorem utf_Width.mono : ∀ a0 k, LeO (utf_Width.f k a0) (utf_Width.f (k + 1) a0) := by
 intro a0 k
 have ih0 := utf_Width.mono_l k
 unfold utf_Width.f
 repeat' first
   | (with_reducible exact ih0 _ _)
   | (with_reducible exact LeO.refl _)
   | (with_reducible exact LeO.none _)
   | (with_reducible refine LeO.ite ?_ ?_)
   | (with_reducible refine LeO.bind ?_ (fun _ => ?_))
   | exact ih0 _ _
   | exact LeO.none _
   | refine LeO.ite ?_ ?_
   | refine LeO.bind ?_ (fun _ => ?_)
set_option maxHeartbeats 8000000 in
set_option maxRecDepth 100000 in
theorem utf_Width.calls (k : Nat) (a0 : Int) (r : Int) (w : World) (h : utf_Width.f k a0 = some r) :
  Calls Tryz.prog 51 #[.int .i64 a0] w fun e w' => e = .returned (.int .i64 r) ∧ Drawn0 w w' := by
 have H : (if a0 < 0 then (utf_Width.j0 k a0 true) else (if a0 > 1114111 then (utf_Width.j0 k a0 true) else (if a0 ≥ 55296 then (utf_Width.j0 k a0 (decide (a0 ≤ 57343))) else (utf_Width.j0 k a0 false)))) = some r := h
 clear h
 have HC2 := Aside0.mk H
 clear H
 go_enter Tryz.func51, Tryz.ntmps51
 go_upto_region 1 with (fail)
 go_cut [3] (fun v3 wc => ∃ (kq : Nat) (x3_1 : Bool), v3 = .bool x3_1 ∧ Aside0 (utf_Width.j0 kq a0 x3_1 = some r) ∧ Aside0 (kq ≤ k) ∧ Drawn0 w wc)
 case first =>
  have H := HC2.out
  clear HC2
  by_cases c3 : a0 < 0
  ·rw [if_pos c3] at H
   have c3b0 := decide_eq_true c3
   clear c3
   (first | rw [c3b0] | (simp only [i64_w, i32_w]; rw [c3b0]) | skip)
   have H' := Aside0.mk H
   clear H
   go_wp2
   go_meet
   case rel => exact ⟨_, (true), ez, H', ⟨by first | omega | exact Nat.le_refl _⟩, dz⟩
  rw [if_neg c3] at H
  have c3b0 := decide_eq_false c3
  clear c3
  (first | rw [c3b0] | (simp only [i64_w, i32_w]; rw [c3b0]) | skip)
  by_cases c4 : a0 > 1114111
  ·rw [if_pos c4] at H
   have c4b0 : decide (1114111 < a0) = true := decide_eq_true c4
   clear c4
   have H' := Aside0.mk H
   clear H
   go_wp2
   go_meet
   case rel => exact ⟨_, (true), ez, H', ⟨by first | omega | exact Nat.le_refl _⟩, dz⟩
  rw [if_neg c4] at H
  have c4b0 : decide (1114111 < a0) = false := decide_eq_false c4
  clear c4
  by_cases c5 : a0 ≥ 55296
  ·rw [if_pos c5] at H
   have c5b0 : decide (55296 ≤ a0) = true := decide_eq_true c5
   clear c5
   have H' := Aside0.mk H
   clear H
   go_wp2
   go_meet
   case rel => exact ⟨_, (decide (a0 ≤ 57343)), ez, H', ⟨by first | omega | exact Nat.le_refl _⟩, dz⟩
  rw [if_neg c5] at H
  have c5b0 : decide (55296 ≤ a0) = false := decide_eq_false c5
  clear c5
  have H' := Aside0.mk H
  clear H
  go_wp2
  go_meet
  case rel => exact ⟨_, (false), ez, H', ⟨by first | omega | exact Nat.le_refl _⟩, dz⟩
 clear HC2
 try clear p2
 try clear c3
 try clear c3b0
 try clear c4
 try clear c4b0
 try clear c5
 try clear c5b0
 obtain ⟨kq, x3_1, rfl, HA, HJ1, ⟨mc1, rfl⟩⟩ := hcut
 cases kq with
 | zero => exact absurd HA.out (by simp [utf_Width.j0])
 | succ kj1 =>
  have H := HA.out
  clear HA
  simp only [utf_Width.j0] at H
  by_cases c6 : x3_1 = true
  ·subst c6
   rw [if_pos rfl] at H
   obtain rfl := Option.some.inj H
   go_wp2
   go_ret
   exact ⟨ez, dz⟩
  replace c6 := Bool.eq_false_iff.mpr c6
  subst c6
  rw [if_neg (show ¬ (false = true) by decide)] at H
  by_cases c7 : a0 ≤ 127
  ·rw [if_pos c7] at H
   have c7b0 := decide_eq_true c7
   clear c7
   obtain rfl := Option.some.inj H
   go_wp2
   go_ret
   exact ⟨ez, dz⟩
  rw [if_neg c7] at H
  have c7b0 := decide_eq_false c7
  clear c7
  by_cases c8 : a0 ≤ 2047
  ·rw [if_pos c8] at H
   have c8b0 := decide_eq_true c8
   clear c8
   obtain rfl := Option.some.inj H
   go_wp2
   go_ret
   exact ⟨ez, dz⟩
  rw [if_neg c8] at H
  have c8b0 := decide_eq_false c8
  clear c8
  by_cases c9 : a0 ≤ 65535
  ·rw [if_pos c9] at H
   have c9b0 := decide_eq_true c9
   clear c9
   obtain rfl := Option.some.inj H
   go_wp2
   go_ret
   exact ⟨ez, dz⟩
  rw [if_neg c9] at H
  have c9b0 := decide_eq_false c9
  clear c9
  obtain rfl := Option.some.inj H
  go_wp2
  go_ret
  exact ⟨ez, dz⟩
-- own text
def utf_lead.f (a0 : Int) : Option Int := if 1 ≤ a0 ∧ a0 ≤ 4 then some (Go.Proofs.YtheheijhijeljaaGreatDoorX.leadV a0.toNat) else none
theorem utf_lead.calls (a0 : Int) (r : Int) (w : World) (h : utf_lead.f a0 = some r) :
  Calls Tryz.prog 52 #[.int .i64 a0] w fun e w' => e = .returned (.int .u8 r) ∧ Below w.heap.size w w' := by
 unfold utf_lead.f at h
 split at h
 ·rename_i hs
  obtain rfl := Option.some.inj h
  have := Go.Proofs.YtheheijhijeljaaGreatDoorX.lead_any a0.toNat (by omega) w
  rwa [show ((a0.toNat : Nat) : Int) = a0 by omega] at this
 cases h
mutual
def utf_long.j0 : Nat → Int → Bool → Option (Int)
 | 0, _, _ => none
 | k + 1, x0, x6 => if x6 = true then (some 2) else (if x0 ≥ 224 then (utf_long.j1 k x0 (decide (x0 < 240))) else (utf_long.j1 k x0 false))
def utf_long.j1 : Nat → Int → Bool → Option (Int)
 | 0, _, _ => none
 | k + 1, x0, x13 => if x13 = true then (some 3) else (if x0 ≥ 240 then (if x0 < 245 then (some 4) else (some 0)) else (some 0))
end
def utf_long.f (k : Nat) (a0 : Int) : Option (Int) := if a0 ≤ 127 then (some 1) else (if a0 ≥ 194 then (utf_long.j0 k a0 (decide (a0 < 224))) else (utf_long.j0 k a0 false))
theorem utf_long.mono_l : ∀ k, (∀ y0 y1, LeO (utf_long.j0 k y0 y1) (utf_long.j0 (k + 1) y0 y1)) ∧ (∀ y0 y1, LeO (utf_long.j1 k y0 y1) (utf_long.j1 (k + 1) y0 y1))
 | 0 => ⟨fun _ _ r h => by simp [utf_long.j0] at h, fun _ _ r h => by simp [utf_long.j1] at h⟩
 | k + 1 => by
  obtain ⟨ih0, ih1⟩ := utf_long.mono_l k
  refine ⟨?_, ?_⟩
  ·intro y0 y1
   unfold utf_long.j0
   repeat' first
   | (with_reducible exact ih0 _ _)
   | (with_reducible exact ih1 _ _)
   | (with_reducible exact LeO.refl _)
   | (with_reducible exact LeO.none _)
   | (with_reducible refine LeO.ite ?_ ?_)
   | (with_reducible refine LeO.bind ?_ (fun _ => ?_))
   | exact ih0 _ _
   | exact ih1 _ _
   | exact LeO.none _
   | refine LeO.ite ?_ ?_
   | refine LeO.bind ?_ (fun _ => ?_)
  intro y0 y1
  unfold utf_long.j1
  repeat' first
  | (with_reducible exact ih0 _ _)
  | (with_reducible exact ih1 _ _)
  | (with_reducible exact LeO.refl _)
  | (with_reducible exact LeO.none _)
  | (with_reducible refine LeO.ite ?_ ?_)
  | (with_reducible refine LeO.bind ?_ (fun _ => ?_))
  | exact ih0 _ _
  | exact ih1 _ _
  | exact LeO.none _
  | refine LeO.ite ?_ ?_
  | refine LeO.bind ?_ (fun _ => ?_)
theorem utf_long.mono : ∀ a0 k, LeO (utf_long.f k a0) (utf_long.f (k + 1) a0) := by
 intro a0 k
 obtain ⟨ih0, ih1⟩ := utf_long.mono_l k
 unfold utf_long.f
 repeat' first
   | (with_reducible exact ih0 _ _)
   | (with_reducible exact ih1 _ _)
   | (with_reducible exact LeO.refl _)
   | (with_reducible exact LeO.none _)
   | (with_reducible refine LeO.ite ?_ ?_)
   | (with_reducible refine LeO.bind ?_ (fun _ => ?_))
   | exact ih0 _ _
   | exact ih1 _ _
   | exact LeO.none _
   | refine LeO.ite ?_ ?_
   | refine LeO.bind ?_ (fun _ => ?_)
set_option maxHeartbeats 8000000 in
set_option maxRecDepth 100000 in
theorem utf_long.calls (k : Nat) (a0 : Int) (r : Int) (w : World) (h : utf_long.f k a0 = some r) :
  Calls Tryz.prog 122 #[.int .u8 a0] w fun e w' => e = .returned (.int .i64 r) ∧ Drawn0 w w' := by
 have H : (if a0 ≤ 127 then (some 1) else (if a0 ≥ 194 then (utf_long.j0 k a0 (decide (a0 < 224))) else (utf_long.j0 k a0 false))) = some r := h
 clear h
 by_cases c2 : a0 ≤ 127
 ·rw [if_pos c2] at H
  have c2b0 := decide_eq_true c2
  clear c2
  obtain rfl := Option.some.inj H
  go_enter Tryz.func122, Tryz.ntmps122
  go_wp2
  go_ret
  exact ⟨ez, dz⟩
 rw [if_neg c2] at H
 have c2b0 := decide_eq_false c2
 clear c2
 have HC3 := Aside0.mk H
 clear H
 go_enter Tryz.func122, Tryz.ntmps122
 go_upto_region 3 with (fail)
 go_cut [6] (fun v6 wc => ∃ (kq : Nat) (x6_2 : Bool), v6 = .bool x6_2 ∧ Aside0 (utf_long.j0 kq a0 x6_2 = some r) ∧ Aside0 (kq ≤ k) ∧ Drawn0 w wc)
 case first =>
  have H := HC3.out
  clear HC3
  by_cases c4 : a0 ≥ 194
  ·rw [if_pos c4] at H
   have c4b0 : decide (194 ≤ a0) = true := decide_eq_true c4
   clear c4
   (first | rw [c4b0] | (simp only [i64_w, i32_w]; rw [c4b0]) | skip)
   have H' := Aside0.mk H
   clear H
   go_wp2
   go_meet
   case rel => exact ⟨_, (decide (a0 < 224)), ez, H', ⟨by first | omega | exact Nat.le_refl _⟩, dz⟩
  rw [if_neg c4] at H
  have c4b0 : decide (194 ≤ a0) = false := decide_eq_false c4
  clear c4
  (first | rw [c4b0] | (simp only [i64_w, i32_w]; rw [c4b0]) | skip)
  have H' := Aside0.mk H
  clear H
  go_wp2
  go_meet
  case rel => exact ⟨_, (false), ez, H', ⟨by first | omega | exact Nat.le_refl _⟩, dz⟩
 clear HC3
 try clear c1
 try clear c2
 try clear c2b0
 try clear p2
 try clear c4
 try clear c4b0
 obtain ⟨kq, x6_2, rfl, HA, HJ2, ⟨mc2, rfl⟩⟩ := hcut
 cases kq with
 | zero => exact absurd HA.out (by simp [utf_long.j0])
 | succ kj2 =>
  have H := HA.out
  clear HA
  simp only [utf_long.j0] at H
  by_cases c5 : x6_2 = true
  ·subst c5
   rw [if_pos rfl] at H
   obtain rfl := Option.some.inj H
   go_wp2
   go_ret
   exact ⟨ez, dz⟩
  replace c5 := Bool.eq_false_iff.mpr c5
  subst c5
  rw [if_neg (show ¬ (false = true) by decide)] at H
  have HC6 := Aside0.mk H
  clear H
  go_upto_region 5 with (fail)
  go_cut [13] (fun v13 wc => ∃ (kq : Nat) (x13_5 : Bool), v13 = .bool x13_5 ∧ Aside0 (utf_long.j1 kq a0 x13_5 = some r) ∧ Aside0 (kq ≤ kj2) ∧ Drawn0 w wc)
  case first =>
   have H := HC6.out
   clear HC6
   by_cases c7 : a0 ≥ 224
   ·rw [if_pos c7] at H
    have c7b0 : decide (224 ≤ a0) = true := decide_eq_true c7
    clear c7
    (first | rw [c7b0] | (simp only [i64_w, i32_w]; rw [c7b0]) | skip)
    have H' := Aside0.mk H
    clear H
    go_wp2
    go_meet
    case rel => exact ⟨_, (decide (a0 < 240)), ez, H', ⟨by have := HJ2.out; first | omega | exact Nat.le_refl _⟩, dz⟩
   rw [if_neg c7] at H
   have c7b0 : decide (224 ≤ a0) = false := decide_eq_false c7
   clear c7
   (first | rw [c7b0] | (simp only [i64_w, i32_w]; rw [c7b0]) | skip)
   have H' := Aside0.mk H
   clear H
   go_wp2
   go_meet
   case rel => exact ⟨_, (false), ez, H', ⟨by have := HJ2.out; first | omega | exact Nat.le_refl _⟩, dz⟩
  clear HC6
  try clear c1
  try clear c2
  try clear c2b0
  try clear p2
  try clear c4
  try clear c4b0
  try clear c5
  try clear c7
  try clear c7b0
  try clear p2
  obtain ⟨kq, x13_5, rfl, HA, HJ5, ⟨mc5, rfl⟩⟩ := hcut
  cases kq with
  | zero => exact absurd HA.out (by simp [utf_long.j1])
  | succ kj5 =>
   have H := HA.out
   clear HA
   simp only [utf_long.j1] at H
   by_cases c8 : x13_5 = true
   ·subst c8
    rw [if_pos rfl] at H
    obtain rfl := Option.some.inj H
    go_wp2
    go_ret
    exact ⟨ez, dz⟩
   replace c8 := Bool.eq_false_iff.mpr c8
   subst c8
   rw [if_neg (show ¬ (false = true) by decide)] at H
   by_cases c9 : a0 ≥ 240
   ·rw [if_pos c9] at H
    have c9b0 : decide (240 ≤ a0) = true := decide_eq_true c9
    clear c9
    by_cases c10 : a0 < 245
    ·rw [if_pos c10] at H
     have c10b0 := decide_eq_true c10
     clear c10
     obtain rfl := Option.some.inj H
     go_wp2
     go_ret
     exact ⟨ez, dz⟩
    rw [if_neg c10] at H
    have c10b0 := decide_eq_false c10
    clear c10
    obtain rfl := Option.some.inj H
    go_wp2
    go_ret
    exact ⟨ez, dz⟩
   rw [if_neg c9] at H
   have c9b0 : decide (240 ≤ a0) = false := decide_eq_false c9
   clear c9
   obtain rfl := Option.some.inj H
   go_wp2
   go_ret
   exact ⟨ez, dz⟩
mutual
def utf_Decode.j0 : Nat → ByteArray → Int → Bool → Option (Int × Int)
 | 0, _, _, _ => none
 | k + 1, x0, x3, x17 => if x17 = true then (some ((-1), 1)) else (if 0 < (x0.size : Int) then ((utf_lead.f x3).bind fun t212 => (utf_Decode.l0 k x0 (wrap64 (Go.bits .xor .u8 (bt x0 0) t212)) x3 1)) else (none))
def utf_Decode.l0 : Nat → ByteArray → Int → Int → Int → Option (Int × Int)
 | 0, _, _, _, _ => none
 | k + 1, x0, x2, x3, x4 => if x4 < x3 then (if 0 ≤ x4 then (if x4 < (x0.size : Int) then (if (Go.bits .and .u8 (bt x0 x4) 192) = 128 then (utf_Decode.l0 k x0 (Go.bits .or .i64 (wrap64 (x2 * 64)) (wrap64 (Go.bits .and .u8 (bt x0 x4) 63))) x3 (wrap64 (x4 + 1))) else (some ((-1), 1))) else (none)) else (none)) else ((utf_Width.f k x2).bind fun t213 => (if t213 = x3 then (some (x2, x3)) else (some ((-1), 1))))
end
def utf_Decode.f (k : Nat) (a0 : ByteArray) : Option (Int × Int) := if a0.toList = ([] : List UInt8) then (some ((-1), 0)) else (if 0 < (a0.size : Int) then ((utf_long.f k (bt a0 0)).bind fun t211 => (if t211 = 0 then (utf_Decode.j0 k a0 t211 true) else (utf_Decode.j0 k a0 t211 (decide (t211 > (a0.size : Int)))))) else (none))
theorem utf_Decode.mono_l : ∀ k, (∀ y0 y1 y2, LeO (utf_Decode.j0 k y0 y1 y2) (utf_Decode.j0 (k + 1) y0 y1 y2)) ∧ (∀ y0 y1 y2 y3, LeO (utf_Decode.l0 k y0 y1 y2 y3) (utf_Decode.l0 (k + 1) y0 y1 y2 y3))
 | 0 => ⟨fun _ _ _ r h => by simp [utf_Decode.j0] at h, fun _ _ _ _ r h => by simp [utf_Decode.l0] at h⟩
 | k + 1 => by
  obtain ⟨ih0, ih1⟩ := utf_Decode.mono_l k
  refine ⟨?_, ?_⟩
  ·intro y0 y1 y2
   unfold utf_Decode.j0
   repeat' first
   | (with_reducible exact ih0 _ _ _)
   | (with_reducible exact ih1 _ _ _ _)
   | (with_reducible exact utf_Width.mono _ _)
   | (with_reducible exact utf_long.mono _ _)
   | (with_reducible exact LeO.refl _)
   | (with_reducible exact LeO.none _)
   | (with_reducible refine LeO.ite ?_ ?_)
   | (with_reducible refine LeO.bind ?_ (fun _ => ?_))
   | exact ih0 _ _ _
   | exact ih1 _ _ _ _
   | exact utf_Width.mono _ _
   | exact utf_long.mono _ _
   | exact LeO.none _
   | refine LeO.ite ?_ ?_
   | refine LeO.bind ?_ (fun _ => ?_)
  intro y0 y1 y2 y3
  unfold utf_Decode.l0
  repeat' first
  | (with_reducible exact ih0 _ _ _)
  | (with_reducible exact ih1 _ _ _ _)
  | (with_reducible exact utf_Width.mono _ _)
  | (with_reducible exact utf_long.mono _ _)
  | (with_reducible exact LeO.refl _)
  | (with_reducible exact LeO.none _)
  | (with_reducible refine LeO.ite ?_ ?_)
  | (with_reducible refine LeO.bind ?_ (fun _ => ?_))
  | exact ih0 _ _ _
  | exact ih1 _ _ _ _
  | exact utf_Width.mono _ _
  | exact utf_long.mono _ _
  | exact LeO.none _
  | refine LeO.ite ?_ ?_
  | refine LeO.bind ?_ (fun _ => ?_)
theorem utf_Decode.mono : ∀ a0 k, LeO (utf_Decode.f k a0) (utf_Decode.f (k + 1) a0) := by
 intro a0 k
 obtain ⟨ih0, ih1⟩ := utf_Decode.mono_l k
 unfold utf_Decode.f
 repeat' first
   | (with_reducible exact ih0 _ _ _)
   | (with_reducible exact ih1 _ _ _ _)
   | (with_reducible exact utf_Width.mono _ _)
   | (with_reducible exact utf_long.mono _ _)
   | (with_reducible exact LeO.refl _)
   | (with_reducible exact LeO.none _)
   | (with_reducible refine LeO.ite ?_ ?_)
   | (with_reducible refine LeO.bind ?_ (fun _ => ?_))
   | exact ih0 _ _ _
   | exact ih1 _ _ _ _
   | exact utf_Width.mono _ _
   | exact utf_long.mono _ _
   | exact LeO.none _
   | refine LeO.ite ?_ ?_
   | refine LeO.bind ?_ (fun _ => ?_)
set_option maxHeartbeats 8000000 in
set_option maxRecDepth 100000 in
theorem utf_Decode.calls (k : Nat) (a0 : ByteArray) (r1 : Int) (r2 : Int) (w : World) (h : utf_Decode.f k a0 = some (r1, r2)) :
  Calls Tryz.prog 99 #[.string a0] w fun e w' => e = .returned (.tuple #[.int .i64 r1, .int .i64 r2]) ∧ Below w.heap.size w w' := by
 have HB := Aside0.mk (Below.refl w.heap.size w)
 have H : (if a0.toList = ([] : List UInt8) then (some ((-1), 0)) else (if 0 < (a0.size : Int) then ((utf_long.f k (bt a0 0)).bind fun t211 => (if t211 = 0 then (utf_Decode.j0 k a0 t211 true) else (utf_Decode.j0 k a0 t211 (decide (t211 > (a0.size : Int)))))) else (none))) = some (r1, r2) := h
 clear h
 by_cases c2 : a0.toList = ([] : List UInt8)
 ·rw [if_pos c2] at H
  have c2b0 := beq_iff_eq.mpr c2
  have c2b1 := bne_eq_false_iff_eq.mpr c2
  clear c2
  simp only [Option.some.injEq, Prod.mk.injEq] at H
  obtain ⟨rfl, rfl⟩ := H
  go_enter Tryz.func99, Tryz.ntmps99
  go_wp2
  go_ret2
  exact ⟨fz, bz⟩
 rw [if_neg c2] at H
 have c2b0 := beq_eq_false_iff_ne.mpr c2
 have c2b1 := bne_iff_ne.mpr c2
 by_cases c3 : 0 < (a0.size : Int)
 rotate_left
 ·exact nomatch (if_neg c3).symm.trans H
 rw [if_pos c3] at H
 have c3b0 := decide_eq_true c3
 have c3b1 : decide (0 < a0.size) = true := decide_eq_true (by omega)
 clear c3
 replace H := Option.bind_eq_some_iff.mp H
 obtain ⟨t211, A50, H⟩ := H
 try dsimp only at H
 have A5 := Aside0.mk A50
 clear A50
 have HC6 := Aside0.mk H
 clear H
 have q4 : 0 < a0.size := (by have : (0 : Int) < (a0.size : Int) := oz; omega)
 have hx4 : ∀ h : 0 < a0.size, ((a0[0]'h).toNat : Int) = bt a0 0 := bt_at a0 0
 have qi4 : (0 < (a0.size : Int)) = True := eq_true (oz)
 replace q4 := eq_true q4
 go_enter Tryz.func99, Tryz.ntmps99
 go_upto_region 4 with (first | ((with_reducible refine gate_callee (f := 122) rfl ?_); refine goesL_ (some 9) rfl rfl Tryz.func122 kz rfl #[.int .u8 (bt a0 0)] rfl mz ?_; (with_reducible refine (utf_long.calls k (bt a0 0) t211 _ A5.out).mono ?_); rintro e w' ⟨rfl, ⟨nd, rfl⟩⟩; refine ⟨_, rfl, ?_⟩))
 (try simp only [Act.put, List.setIfInBounds_toArray, List.set_cons_zero, List.set_cons_succ])
 go_cut [17] (fun v17 wc => ∃ (kq : Nat) (x17_5 : Bool), v17 = .bool x17_5 ∧ Aside0 (utf_Decode.j0 kq a0 t211 x17_5 = some (r1, r2)) ∧ Aside0 (kq ≤ k) ∧ Aside0 (Below w.heap.size w wc))
 case first =>
  have H := HC6.out
  clear HC6
  by_cases c7 : t211 = 0
  ·rw [if_pos c7] at H
   have c7b0 := beq_iff_eq.mpr c7
   have c7b1 := bne_eq_false_iff_eq.mpr c7
   clear c7
   (first | rw [c7b0] | (simp only [i64_w, i32_w]; rw [c7b0]) | skip)
   have H' := Aside0.mk H
   clear H
   go_wp2
   go_meet
   case rel => exact ⟨_, (true), ez, H', ⟨by first | omega | exact Nat.le_refl _⟩, ⟨bz⟩⟩
  rw [if_neg c7] at H
  have c7b0 := beq_eq_false_iff_ne.mpr c7
  have c7b1 := bne_iff_ne.mpr c7
  (first | rw [c7b0] | (simp only [i64_w, i32_w]; rw [c7b0]) | skip)
  have H' := Aside0.mk H
  clear H
  go_wp2
  go_meet
  case rel => exact ⟨_, (decide (t211 > (a0.size : Int))), ez, H', ⟨by first | omega | exact Nat.le_refl _⟩, ⟨bz⟩⟩
 clear HC6
 try clear c1
 try clear c2
 try clear c2b0 c2b1
 try clear p2
 try clear c3
 try clear c3b0 c3b1
 try clear p4
 try clear q4
 try clear hx4
 try clear qi4
 try clear c7
 try clear c7b0 c7b1
 try clear p4
 try clear q4
 obtain ⟨kq, x17_5, rfl, HA, HJ5, HB⟩ := hcut
 cases kq with
 | zero => exact absurd HA.out (by simp [utf_Decode.j0])
 | succ kj5 =>
  have H := HA.out
  clear HA
  simp only [utf_Decode.j0] at H
  by_cases c8 : x17_5 = true
  ·subst c8
   rw [if_pos rfl] at H
   simp only [Option.some.injEq, Prod.mk.injEq] at H
   obtain ⟨rfl, rfl⟩ := H
   go_wp2
   go_ret2
   exact ⟨fz, bz⟩
  replace c8 := Bool.eq_false_iff.mpr c8
  subst c8
  rw [if_neg (show ¬ (false = true) by decide)] at H
  by_cases c9 : 0 < (a0.size : Int)
  rotate_left
  ·exact nomatch (if_neg c9).symm.trans H
  rw [if_pos c9] at H
  have c9b0 := decide_eq_true c9
  have c9b1 : decide (0 < a0.size) = true := decide_eq_true (by omega)
  clear c9
  replace H := Option.bind_eq_some_iff.mp H
  obtain ⟨t212, A110, H⟩ := H
  try dsimp only at H
  have A11 := Aside0.mk A110
  clear A110
  have H' := Aside0.mk H
  clear H
  try go_wp2
  have n0_ := Aside0.mk (below_drew1 HB.out)
  clear HB
  have HB := n0_
  clear n0_
  have q10 : 0 < a0.size := (by have : (0 : Int) < (a0.size : Int) := oz; omega)
  have hx10 : ∀ h : 0 < a0.size, ((a0[0]'h).toNat : Int) = bt a0 0 := bt_at a0 0
  have qi10 : (0 < (a0.size : Int)) = True := eq_true (oz)
  replace q10 := eq_true q10
  refine start_ (n := 7) (S := fun w' => True) (ds := []) #[false, false, false, false, false, false, false] kz rfl rfl trivial (fun hHeld => ?_)
  generalize wc.drew = w12 at HB hHeld ⊢
  refine pure_ (i := 0) (N := some 18) (v := ?_) (a' := ?_) #[true, false, false, false, false, false, false] rfl rfl kz (fun _ _ _ h => h) (Or.inl ⟨by rfl, ?_⟩) ?_ ?_
  rotate_left
  ·intro w'
   go_simp
   with_reducible rfl
  rotate_left
  ·simp only [Act.put, List.setIfInBounds_toArray, List.set_cons_zero, List.set_cons_succ, i64_w, i32_w]
   rfl
  refine pure_ (i := 2) (N := some 20) (v := ?_) (a' := ?_) #[true, false, true, false, false, false, false] rfl rfl kz (fun _ _ _ h => h) (Or.inl ⟨by rfl, ?_⟩) ?_ ?_
  rotate_left
  ·intro w'
   go_simp
   with_reducible rfl
  rotate_left
  ·simp only [Act.put, List.setIfInBounds_toArray, List.set_cons_zero, List.set_cons_succ, i64_w, i32_w]
   rfl
  refine take_ (i := 1) (N := some 19) (v := ?_) (a' := ?_) #[true, true, true, false, false, false, false] rfl rfl kz (fun _ _ _ h => h) (Or.inl ⟨by rfl, ?_⟩) hHeld ?_ ?_
  rotate_left
  ·intro w' _
   go_simp
   with_reducible rfl
  rotate_left
  ·simp only [Act.put, List.setIfInBounds_toArray, List.set_cons_zero, List.set_cons_succ, i64_w, i32_w]
   rfl
  refine one_ (i := 3) (N := some 21) #[true, true, true, true, false, false, false] rfl rfl kz (by decide) (fun K hK => ?_)
  refine goes_ Tryz.func52 kz rfl #[.int .i64 t211] (by rfl) rfl rfl mz ?_
  with_reducible refine (utf_lead.calls t211 t212 _ A11.out).mono ?_
  rintro e w13 ⟨rfl, hb⟩
  refine ⟨_, rfl, ?_⟩
  have n0_ := hz hb
  clear HB
  have HB := n0_
  clear n0_
  (try clear hb)
  (try clear hb2)
  (try clear hk)
  (try clear hi)
  refine hK.out _ _ trivial (fun hHeld => ?_)
  clear hK K
  refine norm_ (a' := ?_) ?_ ?_
  rotate_left
  ·show Act.put _ (some 21) _ = _
   simp only [Act.put, List.setIfInBounds_toArray, List.set_cons_zero, List.set_cons_succ, i64_w, i32_w]
   rfl
  refine pure_ (i := 4) (N := some 22) (v := ?_) (a' := ?_) #[true, true, true, true, true, false, false] rfl rfl kz (fun _ _ _ h => h) (Or.inl ⟨by rfl, ?_⟩) ?_ ?_
  rotate_left
  ·intro w'
   go_simp
   with_reducible rfl
  rotate_left
  ·simp only [Act.put, List.setIfInBounds_toArray, List.set_cons_zero, List.set_cons_succ, i64_w, i32_w]
   rfl
  refine pure_ (i := 5) (N := some 23) (v := ?_) (a' := ?_) #[true, true, true, true, true, true, false] rfl rfl kz (fun _ _ _ h => h) (Or.inl ⟨by rfl, ?_⟩) ?_ ?_
  rotate_left
  ·intro w'
   go_simp
   with_reducible rfl
  rotate_left
  ·simp only [Act.put, List.setIfInBounds_toArray, List.set_cons_zero, List.set_cons_succ, i64_w, i32_w]
   rfl
  refine pure_ (i := 6) (N := some 2) (v := ?_) (a' := ?_) #[true, true, true, true, true, true, true] rfl rfl kz (fun _ _ _ h => h) (Or.inl ⟨by rfl, ?_⟩) ?_ ?_
  rotate_left
  ·intro w'
   go_simp
   with_reducible rfl
  rotate_left
  ·simp only [Act.put, List.setIfInBounds_toArray, List.set_cons_zero, List.set_cons_succ, i64_w, i32_w]
   rfl
  refine done_ kz ?_
  try go_wp2
  go_loopg [2, 3, 4] kj5 (fun kq v2 v3 v4 w' => ∃ (x2_2 : Int) (x3_2 : Int) (x4_2 : Int), v2 = .int .i64 x2_2 ∧ v3 = .int .i64 x3_2 ∧ v4 = .int .i64 x4_2 ∧ Aside0 (utf_Decode.l0 kq a0 x2_2 x3_2 x4_2 = some (r1, r2)) ∧ Aside0 (kq ≤ kj5) ∧ Aside0 (Below w.heap.size w w'))
  case atStart => exact ⟨(wrap64 (Go.bits .xor .u8 (bt a0 0) t212)), (t211), (1), ez, ez, ez, H', ⟨Nat.le_refl _⟩, ⟨bz⟩⟩
  clear H'
  try clear c1
  try clear p1
  try clear q1
  try clear hx1
  try clear qi1
  try clear c2
  try clear c2b0 c2b1
  try clear p2
  try clear c3
  try clear c3b0 c3b1
  try clear p4
  try clear q4
  try clear hx4
  try clear qi4
  try clear c5
  try clear p6
  try clear c7
  try clear c7b0 c7b1
  try clear c8
  try clear c9
  try clear c9b0 c9b1
  try clear p10
  try clear q10
  try clear hx10
  try clear qi10
  try clear c12
  try clear p10
  try clear p2
  try clear p4
  try clear q10
  try clear q4
  obtain ⟨x2_2, x3_2, x4_2, rfl, rfl, rfl, HA, HK2, HB⟩ := hrel
  cases gk with
  | zero => exact absurd HA.out (by simp [utf_Decode.l0])
  | succ k2 =>
   have H := HA.out
   clear HA
   simp only [utf_Decode.l0] at H
   by_cases c14 : x4_2 < x3_2
   ·rw [if_pos c14] at H
    have c14b0 := decide_eq_true c14
    clear c14
    by_cases c15 : 0 ≤ x4_2
    rotate_left
    ·exact nomatch (if_neg c15).symm.trans H
    rw [if_pos c15] at H
    have c15b0 := decide_eq_true c15
    clear c15
    by_cases c16 : x4_2 < (a0.size : Int)
    rotate_left
    ·exact nomatch (if_neg c16).symm.trans H
    rw [if_pos c16] at H
    have c16b0 := decide_eq_true c16
    clear c16
    by_cases c18 : (Go.bits .and .u8 (bt a0 x4_2) 192) = 128
    ·rw [if_pos c18] at H
     have c18b0 := beq_iff_eq.mpr c18
     have c18b1 := bne_eq_false_iff_eq.mpr c18
     clear c18
     have H' := Aside0.mk H
     clear H
     have p17 : 0 ≤ (x4_2 : Int) := oz
     have q17 : x4_2 < (a0.size : Int) := oz
     have hx17 := bt_at a0 x4_2
     replace p17 := eq_true p17
     replace q17 := eq_true q17
     have p19 : 0 ≤ (x4_2 : Int) := oz
     have q19 : x4_2 < (a0.size : Int) := oz
     have hx19 := bt_at a0 x4_2
     replace p19 := eq_true p19
     replace q19 := eq_true q19
     go_wp2
     go_roundg k2
     case measure => have := HJ5.out; have := HK2.out; omega
     case rel => exact ⟨(Go.bits .or .i64 (wrap64 (x2_2 * 64)) (wrap64 (Go.bits .and .u8 (bt a0 x4_2) 63))), (x3_2), (wrap64 (x4_2 + 1)), ez, ez, ez, H', ⟨by have := HJ5.out; have := HK2.out; omega⟩, ⟨bz⟩⟩
    rw [if_neg c18] at H
    have c18b0 := beq_eq_false_iff_ne.mpr c18
    have c18b1 := bne_iff_ne.mpr c18
    simp only [Option.some.injEq, Prod.mk.injEq] at H
    obtain ⟨rfl, rfl⟩ := H
    have p17 : 0 ≤ (x4_2 : Int) := oz
    have q17 : x4_2 < (a0.size : Int) := oz
    have hx17 := bt_at a0 x4_2
    replace p17 := eq_true p17
    replace q17 := eq_true q17
    go_wp2
    go_ret2
    exact ⟨fz, bz⟩
   rw [if_neg c14] at H
   have c14b0 := decide_eq_false c14
   clear c14
   replace H := Option.bind_eq_some_iff.mp H
   obtain ⟨t213, A200, H⟩ := H
   try dsimp only at H
   have A20 := Aside0.mk A200
   clear A200
   by_cases c21 : t213 = x3_2
   ·rw [if_pos c21] at H
    have c21b0 := beq_iff_eq.mpr c21
    have c21b1 := bne_eq_false_iff_eq.mpr c21
    clear c21
    simp only [Option.some.injEq, Prod.mk.injEq] at H
    obtain ⟨rfl, rfl⟩ := H
    go_wp2_with (first | ((with_reducible refine gate_callee (f := 51) rfl ?_); refine goesL_ (some 43) rfl rfl Tryz.func51 kz rfl #[.int .i64 x2_2] rfl mz ?_; (with_reducible refine (utf_Width.calls k2 x2_2 t213 _ A20.out).mono ?_); rintro e w' ⟨rfl, ⟨nd, rfl⟩⟩; refine ⟨_, rfl, ?_⟩))
    go_ret2
    exact ⟨fz, bz⟩
   rw [if_neg c21] at H
   have c21b0 := beq_eq_false_iff_ne.mpr c21
   have c21b1 := bne_iff_ne.mpr c21
   simp only [Option.some.injEq, Prod.mk.injEq] at H
   obtain ⟨rfl, rfl⟩ := H
   go_wp2_with (first | ((with_reducible refine gate_callee (f := 51) rfl ?_); refine goesL_ (some 43) rfl rfl Tryz.func51 kz rfl #[.int .i64 x2_2] rfl mz ?_; (with_reducible refine (utf_Width.calls k2 x2_2 t213 _ A20.out).mono ?_); rintro e w' ⟨rfl, ⟨nd, rfl⟩⟩; refine ⟨_, rfl, ?_⟩))
   go_ret2
   exact ⟨fz, bz⟩
def bracket_one.f (k : Nat) (a0 : ByteArray) : Option (Int × Int × Int) := if a0.toList = ([] : List UInt8) then (some (0, 0, 82)) else (if 0 < (a0.size : Int) then (if (bt a0 0) = 92 then ((bracket_Number.f k a0).bind fun bt214 => (some (bt214.1, bt214.2.1, bt214.2.2))) else ((utf_Decode.f k a0).bind fun bt217 => (if bt217.1 < 0 then (some (0, 0, 3)) else (some (bt217.1, bt217.2, 0))))) else (none))
theorem bracket_one.mono : ∀ a0 k, LeO (bracket_one.f k a0) (bracket_one.f (k + 1) a0) := by
 intro a0 k
 unfold bracket_one.f
 repeat' first
   | (with_reducible exact bracket_Number.mono _ _)
   | (with_reducible exact utf_Decode.mono _ _)
   | (with_reducible exact LeO.refl _)
   | (with_reducible exact LeO.none _)
   | (with_reducible refine LeO.ite ?_ ?_)
   | (with_reducible refine LeO.bind ?_ (fun _ => ?_))
   | exact bracket_Number.mono _ _
   | exact utf_Decode.mono _ _
   | exact LeO.none _
   | refine LeO.ite ?_ ?_
   | refine LeO.bind ?_ (fun _ => ?_)
set_option maxHeartbeats 8000000 in
set_option maxRecDepth 100000 in
theorem bracket_one.calls (k : Nat) (a0 : ByteArray) (r1 : Int) (r2 : Int) (r3 : Int) (w : World) (h : bracket_one.f k a0 = some (r1, r2, r3)) :
  Calls Tryz.prog 69 #[.string a0] w fun e w' => e = .returned (.tuple #[.int .i64 r1, .int .i64 r2, .int .i64 r3]) ∧ Below w.heap.size w w' := by
 have HB := Aside0.mk (Below.refl w.heap.size w)
 have H : (if a0.toList = ([] : List UInt8) then (some (0, 0, 82)) else (if 0 < (a0.size : Int) then (if (bt a0 0) = 92 then ((bracket_Number.f k a0).bind fun bt214 => (some (bt214.1, bt214.2.1, bt214.2.2))) else ((utf_Decode.f k a0).bind fun bt217 => (if bt217.1 < 0 then (some (0, 0, 3)) else (some (bt217.1, bt217.2, 0))))) else (none))) = some (r1, r2, r3) := h
 clear h
 by_cases c2 : a0.toList = ([] : List UInt8)
 ·rw [if_pos c2] at H
  have c2b0 := beq_iff_eq.mpr c2
  have c2b1 := bne_eq_false_iff_eq.mpr c2
  clear c2
  simp only [Option.some.injEq, Prod.mk.injEq] at H
  obtain ⟨rfl, rfl, rfl⟩ := H
  go_enter Tryz.func69, Tryz.ntmps69
  go_wp2
  go_ret3
  exact ⟨fz, bz⟩
 rw [if_neg c2] at H
 have c2b0 := beq_eq_false_iff_ne.mpr c2
 have c2b1 := bne_iff_ne.mpr c2
 by_cases c3 : 0 < (a0.size : Int)
 rotate_left
 ·exact nomatch (if_neg c3).symm.trans H
 rw [if_pos c3] at H
 have c3b0 := decide_eq_true c3
 have c3b1 : decide (0 < a0.size) = true := decide_eq_true (by omega)
 clear c3
 by_cases c5 : (bt a0 0) = 92
 ·rw [if_pos c5] at H
  have c5b0 := beq_iff_eq.mpr c5
  have c5b1 := bne_eq_false_iff_eq.mpr c5
  clear c5
  replace H := Option.bind_eq_some_iff.mp H
  obtain ⟨⟨t214, t215, t216⟩, A60, H⟩ := H
  try dsimp only at H
  have A6 := Aside0.mk A60
  clear A60
  simp only [Option.some.injEq, Prod.mk.injEq] at H
  obtain ⟨rfl, rfl, rfl⟩ := H
  have q4 : 0 < a0.size := (by have : (0 : Int) < (a0.size : Int) := oz; omega)
  have hx4 : ∀ h : 0 < a0.size, ((a0[0]'h).toNat : Int) = bt a0 0 := bt_at a0 0
  have qi4 : (0 < (a0.size : Int)) = True := eq_true (oz)
  replace q4 := eq_true q4
  go_enter Tryz.func69, Tryz.ntmps69
  go_wp2_with (first | ((with_reducible refine gate_callee (f := 9) rfl ?_); refine goesL_ (some 11) rfl rfl Tryz.func9 kz rfl #[.string a0] rfl mz ?_; (with_reducible refine (bracket_Number.calls k a0 t214 t215 t216 _ A6.out).mono ?_); rintro e w7 ⟨rfl, hb⟩; refine ⟨_, rfl, ?_⟩; replace HB := hz hb; (try clear hb); (try clear hb2); (try clear hk); (try clear hi)))
  go_ret3
  exact ⟨fz, bz⟩
 rw [if_neg c5] at H
 have c5b0 := beq_eq_false_iff_ne.mpr c5
 have c5b1 := bne_iff_ne.mpr c5
 replace H := Option.bind_eq_some_iff.mp H
 obtain ⟨⟨t217, t218⟩, A80, H⟩ := H
 try dsimp only at H
 have A8 := Aside0.mk A80
 clear A80
 by_cases c9 : t217 < 0
 ·rw [if_pos c9] at H
  have c9b0 := decide_eq_true c9
  clear c9
  simp only [Option.some.injEq, Prod.mk.injEq] at H
  obtain ⟨rfl, rfl, rfl⟩ := H
  have q4 : 0 < a0.size := (by have : (0 : Int) < (a0.size : Int) := oz; omega)
  have hx4 : ∀ h : 0 < a0.size, ((a0[0]'h).toNat : Int) = bt a0 0 := bt_at a0 0
  have qi4 : (0 < (a0.size : Int)) = True := eq_true (oz)
  replace q4 := eq_true q4
  go_enter Tryz.func69, Tryz.ntmps69
  go_wp2_with (first | ((with_reducible refine gate_callee (f := 99) rfl ?_); refine goesL_ (some 17) rfl rfl Tryz.func99 kz rfl #[.string a0] rfl mz ?_; (with_reducible refine (utf_Decode.calls k a0 t217 t218 _ A8.out).mono ?_); rintro e w10 ⟨rfl, hb⟩; refine ⟨_, rfl, ?_⟩; replace HB := hz hb; (try clear hb); (try clear hb2); (try clear hk); (try clear hi)))
  go_ret3
  exact ⟨fz, bz⟩
 rw [if_neg c9] at H
 have c9b0 := decide_eq_false c9
 clear c9
 simp only [Option.some.injEq, Prod.mk.injEq] at H
 obtain ⟨rfl, rfl, rfl⟩ := H
 have q4 : 0 < a0.size := (by have : (0 : Int) < (a0.size : Int) := oz; omega)
 have hx4 : ∀ h : 0 < a0.size, ((a0[0]'h).toNat : Int) = bt a0 0 := bt_at a0 0
 have qi4 : (0 < (a0.size : Int)) = True := eq_true (oz)
 replace q4 := eq_true q4
 go_enter Tryz.func69, Tryz.ntmps69
 go_wp2_with (first | ((with_reducible refine gate_callee (f := 99) rfl ?_); refine goesL_ (some 17) rfl rfl Tryz.func99 kz rfl #[.string a0] rfl mz ?_; (with_reducible refine (utf_Decode.calls k a0 t217 t218 _ A8.out).mono ?_); rintro e w11 ⟨rfl, hb⟩; refine ⟨_, rfl, ?_⟩; replace HB := hz hb; (try clear hb); (try clear hb2); (try clear hk); (try clear hi)))
 go_ret3
 exact ⟨fz, bz⟩
end Go.Proofs.YtheheijhijeljaaGreatDoor.HBracketReads
