-- Made by wip/hyb (a program of this session over the kit's print); its parts marked 'own text' are typed by hand.
import Derived.Test.YtheheijhijeljaaGreatDoorHBracketReadsx3
import Derived.Test.YtheheijhijeljaaGreatDoorHBracketReadsx13
import Derived.Test.YtheheijhijeljaaGreatDoorHBracketReadsx15
namespace Go.Proofs.YtheheijhijeljaaGreatDoor.HBracketReads
open Go.RowKit Go.Proofs.YtheheijhijeljaaGreatDoorW.PrintWords Go.Proofs.YtheheijhijeljaaGreatDoorW.PrintLast Go.Proofs.YtheheijhijeljaaGreatDoorW.PrintMore
attribute [local go_sem] max2_int min2_int max_two min_two max_three min_three max_four min_four   -- for this text's walks alone
set_option linter.unusedVariables false
set_option linter.unusedSimpArgs false
mutual
def burinref07_Set.j0 : Nat → ByteArray → Bool → Option ((List (S36)) × Int × Int)
 | 0, _, _ => none
 | k + 1, x0, x19 => if x19 = true then (some (([] : List (S36)), 0, 3)) else (if (x0.size : Int) = 1 then (some (([] : List (S36)), 0, 5)) else (if 1 < (x0.size : Int) then (if (bt x0 1) = 112 then (burinref07_Set.j1 k x0 false) else (burinref07_Set.j1 k x0 ((bt x0 1) != 80))) else (none)))
def burinref07_Set.j1 : Nat → ByteArray → Bool → Option ((List (S36)) × Int × Int)
 | 0, _, _ => none
 | k + 1, x0, x30 => if x30 = true then (if 1 < (x0.size : Int) then ((burinref04_Letter.f k (bt x0 1)).bind fun bt411 => (if bt411.2 = 0 then (some (bt411.1, 2, 0)) else (some (([] : List (S36)), 0, 5)))) else (none)) else (if (x0.size : Int) = 2 then (some (([] : List (S36)), 0, 82)) else (if 2 ≤ 3 then (if 3 ≤ (x0.size : Int) then (if 2 < (x0.size : Int) then (if (bt x0 2) = 123 then (burinref07_Set.l0 k x0 3) else ((burinref07_Letter.f (bt x0 2)).bind fun t415 => (if t415 = true then (burinref07_Set.j3 k x0 (x0.extract 2 3) 3) else (some (([] : List (S36)), 0, 70))))) else (none)) else (none)) else (none)))
def burinref07_Set.j3 : Nat → ByteArray → ByteArray → Int → Option ((List (S36)) × Int × Int)
 | 0, _, _, _ => none
 | k + 1, x0, x7, x8 => (burinref04_Property.f k x7).bind fun bt416 => (if bt416.2 = 0 then (if 1 < (x0.size : Int) then (if (bt x0 1) = 80 then ((burinref02_Not.f k bt416.1).bind fun t420 => (some (t420, x8, 0))) else (some (bt416.1, x8, 0))) else (none)) else (some (([] : List (S36)), 0, 70)))
def burinref07_Set.l0 : Nat → ByteArray → Int → Option ((List (S36)) × Int × Int)
 | 0, _, _ => none
 | k + 1, x0, x9 => if x9 < (x0.size : Int) then (if 0 ≤ x9 then (if (bt x0 x9) = 125 then (if x9 = (x0.size : Int) then (some (([] : List (S36)), 0, 82)) else (if 3 ≤ x9 then (if x9 ≤ (x0.size : Int) then (burinref07_Set.j3 k x0 (x0.extract 3 (x9 : Int).toNat) (wrap64 (x9 + 1))) else (none)) else (none))) else (burinref07_Set.l0 k x0 (wrap64 (x9 + 1)))) else (none)) else (if x9 = (x0.size : Int) then (some (([] : List (S36)), 0, 82)) else (if 3 ≤ x9 then (if x9 ≤ (x0.size : Int) then (burinref07_Set.j3 k x0 (x0.extract 3 (x9 : Int).toNat) (wrap64 (x9 + 1))) else (none)) else (none)))
end
def burinref07_Set.f (k : Nat) (a0 : ByteArray) : Option ((List (S36)) × Int × Int) := if (a0.size : Int) = 0 then (burinref07_Set.j0 k a0 true) else (if 0 < (a0.size : Int) then (burinref07_Set.j0 k a0 ((bt a0 0) != 92)) else (none))
set_option maxHeartbeats 8000000 in
set_option maxRecDepth 100000 in
theorem burinref07_Set.calls (k : Nat) (a0 : ByteArray) (r1 : List (S36)) (r2 : Int) (r3 : Int) (w : World) (h : burinref07_Set.f k a0 = some (r1, r2, r3)) :
  Calls Tryz.prog 12 #[.string a0] w fun e w' => ∃ v0_ : Value, e = .returned (.tuple #[v0_, .int .i64 r2, .int .i64 r3]) ∧ Kd.R k36 36 w' w.heap.size (fun _ => True) v0_ r1 ∧ Below w.heap.size w w' := by
 have HB := Aside0.mk (Below.refl w.heap.size w)
 have H : (if (a0.size : Int) = 0 then (burinref07_Set.j0 k a0 true) else (if 0 < (a0.size : Int) then (burinref07_Set.j0 k a0 ((bt a0 0) != 92)) else (none))) = some (r1, r2, r3) := h
 clear h
 have HC2 := Aside0.mk H
 clear H
 go_enter Tryz.func12, Tryz.ntmps12
 go_upto_region 1 with (fail)
 go_cut [19] (fun v19 wc => ∃ (kq : Nat) (x19_1 : Bool), v19 = .bool x19_1 ∧ Aside0 (burinref07_Set.j0 kq a0 x19_1 = some (r1, r2, r3)) ∧ Aside0 (kq ≤ k) ∧ Aside0 (Below w.heap.size w wc))
 case first =>
  have H := HC2.out
  clear HC2
  by_cases c3 : (a0.size : Int) = 0
  ·rw [if_pos c3] at H
   have c3b0 := beq_iff_eq.mpr c3
   have c3b1 := bne_eq_false_iff_eq.mpr c3
   clear c3
   (first | rw [c3b0] | (simp only [i64_w, i32_w]; rw [c3b0]) | skip)
   have H' := Aside0.mk H
   clear H
   go_wp2
   go_meet
   case rel => exact ⟨_, (true), ez, H', ⟨by first | omega | exact Nat.le_refl _⟩, ⟨bz⟩⟩
  rw [if_neg c3] at H
  have c3b0 := beq_eq_false_iff_ne.mpr c3
  have c3b1 := bne_iff_ne.mpr c3
  (first | rw [c3b0] | (simp only [i64_w, i32_w]; rw [c3b0]) | skip)
  by_cases c4 : 0 < (a0.size : Int)
  rotate_left
  ·exact nomatch (if_neg c4).symm.trans H
  rw [if_pos c4] at H
  have c4b0 := decide_eq_true c4
  have c4b1 : decide (0 < a0.size) = true := decide_eq_true (by omega)
  clear c4
  have H' := Aside0.mk H
  clear H
  have q5 : 0 < a0.size := (by have : (0 : Int) < (a0.size : Int) := oz; omega)
  have hx5 : ∀ h : 0 < a0.size, ((a0[0]'h).toNat : Int) = bt a0 0 := bt_at a0 0
  have qi5 : (0 < (a0.size : Int)) = True := eq_true (oz)
  replace q5 := eq_true q5
  go_wp2
  go_meet
  case rel => exact ⟨_, (((bt a0 0) != 92)), ez, H', ⟨by first | omega | exact Nat.le_refl _⟩, ⟨bz⟩⟩
 clear HC2
 try clear c1
 try clear p2
 try clear c3
 try clear c3b0 c3b1
 try clear c4
 try clear c4b0 c4b1
 try clear p5
 try clear q5
 try clear hx5
 try clear qi5
 try clear p5
 try clear q5
 obtain ⟨kq, x19_1, rfl, HA, HJ1, HB⟩ := hcut
 cases kq with
 | zero => exact absurd HA.out (by simp [burinref07_Set.j0])
 | succ kj1 =>
  have H := HA.out
  clear HA
  simp only [burinref07_Set.j0] at H
  by_cases c6 : x19_1 = true
  ·subst c6
   rw [if_pos rfl] at H
   simp only [Option.some.injEq, Prod.mk.injEq] at H
   obtain ⟨rfl, rfl, rfl⟩ := H
   go_wp2
   go_ret3
   exact ⟨_, fz, by first | exact Kd.R_nil _ _ _ _ _ | exact Kd.N_nil _ _ _ _ _ | exact Kd.V_nil _ _ _ _ _ | exact Kd.Q_nil _ _ _ _ _ | exact Kd.S_nil _ _ _ _ _, bz⟩
  replace c6 := Bool.eq_false_iff.mpr c6
  subst c6
  rw [if_neg (show ¬ (false = true) by decide)] at H
  by_cases c7 : (a0.size : Int) = 1
  ·rw [if_pos c7] at H
   have c7b0 := beq_iff_eq.mpr c7
   have c7b1 := bne_eq_false_iff_eq.mpr c7
   clear c7
   simp only [Option.some.injEq, Prod.mk.injEq] at H
   obtain ⟨rfl, rfl, rfl⟩ := H
   go_wp2
   go_ret3
   exact ⟨_, fz, by first | exact Kd.R_nil _ _ _ _ _ | exact Kd.N_nil _ _ _ _ _ | exact Kd.V_nil _ _ _ _ _ | exact Kd.Q_nil _ _ _ _ _ | exact Kd.S_nil _ _ _ _ _, bz⟩
  rw [if_neg c7] at H
  have c7b0 := beq_eq_false_iff_ne.mpr c7
  have c7b1 := bne_iff_ne.mpr c7
  have HC8 := Aside0.mk H
  clear H
  go_upto_region 5 with (fail)
  go_cut [30] (fun v30 wc => ∃ (kq : Nat) (x30_7 : Bool), v30 = .bool x30_7 ∧ Aside0 (burinref07_Set.j1 kq a0 x30_7 = some (r1, r2, r3)) ∧ Aside0 (kq ≤ kj1) ∧ Aside0 (Below w.heap.size w wc))
  case first =>
   have H := HC8.out
   clear HC8
   by_cases c9 : 1 < (a0.size : Int)
   rotate_left
   ·exact nomatch (if_neg c9).symm.trans H
   rw [if_pos c9] at H
   have c9b0 := decide_eq_true c9
   have c9b1 : decide (1 < a0.size) = true := decide_eq_true (by omega)
   clear c9
   (first | rw [c9b0] | (simp only [i64_w, i32_w]; rw [c9b0]) | skip)
   by_cases c11 : (bt a0 1) = 112
   ·rw [if_pos c11] at H
    have c11b0 := beq_iff_eq.mpr c11
    have c11b1 := bne_eq_false_iff_eq.mpr c11
    clear c11
    have H' := Aside0.mk H
    clear H
    have q10 : 1 < a0.size := (by have : (1 : Int) < (a0.size : Int) := oz; omega)
    have hx10 : ∀ h : 1 < a0.size, ((a0[1]'h).toNat : Int) = bt a0 1 := bt_at a0 1
    have qi10 : (1 < (a0.size : Int)) = True := eq_true (oz)
    replace q10 := eq_true q10
    go_wp2
    go_meet
    case rel => exact ⟨_, (false), ez, H', ⟨by have := HJ1.out; first | omega | exact Nat.le_refl _⟩, ⟨bz⟩⟩
   rw [if_neg c11] at H
   have c11b0 := beq_eq_false_iff_ne.mpr c11
   have c11b1 := bne_iff_ne.mpr c11
   have H' := Aside0.mk H
   clear H
   have q10 : 1 < a0.size := (by have : (1 : Int) < (a0.size : Int) := oz; omega)
   have hx10 : ∀ h : 1 < a0.size, ((a0[1]'h).toNat : Int) = bt a0 1 := bt_at a0 1
   have qi10 : (1 < (a0.size : Int)) = True := eq_true (oz)
   replace q10 := eq_true q10
   have q12 : 1 < a0.size := (by have : (1 : Int) < (a0.size : Int) := oz; omega)
   have hx12 : ∀ h : 1 < a0.size, ((a0[1]'h).toNat : Int) = bt a0 1 := bt_at a0 1
   have qi12 : (1 < (a0.size : Int)) = True := eq_true (oz)
   replace q12 := eq_true q12
   go_wp2
   go_meet
   case rel => exact ⟨_, (((bt a0 1) != 80)), ez, H', ⟨by have := HJ1.out; first | omega | exact Nat.le_refl _⟩, ⟨bz⟩⟩
  clear HC8
  try clear c1
  try clear p1
  try clear q1
  try clear hx1
  try clear qi1
  try clear p2
  try clear c3
  try clear c3b0 c3b1
  try clear c4
  try clear c4b0 c4b1
  try clear p5
  try clear q5
  try clear hx5
  try clear qi5
  try clear c6
  try clear c7
  try clear c7b0 c7b1
  try clear c9
  try clear c9b0 c9b1
  try clear p10
  try clear q10
  try clear hx10
  try clear qi10
  try clear c11
  try clear c11b0 c11b1
  try clear c12
  try clear p12
  try clear q12
  try clear hx12
  try clear qi12
  try clear p10
  try clear p12
  try clear p2
  try clear p5
  try clear q10
  try clear q12
  try clear q5
  obtain ⟨kq, x30_7, rfl, HA, HJ7, HB⟩ := hcut
  cases kq with
  | zero => exact absurd HA.out (by simp [burinref07_Set.j1])
  | succ kj7 =>
   have H := HA.out
   clear HA
   simp only [burinref07_Set.j1] at H
   by_cases c13 : x30_7 = true
   ·subst c13
    rw [if_pos rfl] at H
    by_cases c14 : 1 < (a0.size : Int)
    rotate_left
    ·exact nomatch (if_neg c14).symm.trans H
    rw [if_pos c14] at H
    have c14b0 := decide_eq_true c14
    have c14b1 : decide (1 < a0.size) = true := decide_eq_true (by omega)
    clear c14
    replace H := Option.bind_eq_some_iff.mp H
    obtain ⟨⟨t411, t412⟩, A160, H⟩ := H
    try dsimp only at H
    have A16 := Aside0.mk A160
    clear A160
    by_cases c17 : t412 = 0
    ·rw [if_pos c17] at H
     have c17b0 := beq_iff_eq.mpr c17
     have c17b1 := bne_eq_false_iff_eq.mpr c17
     clear c17
     simp only [Option.some.injEq, Prod.mk.injEq] at H
     obtain ⟨rfl, rfl, rfl⟩ := H
     have q15 : 1 < a0.size := (by have : (1 : Int) < (a0.size : Int) := oz; omega)
     have hx15 : ∀ h : 1 < a0.size, ((a0[1]'h).toNat : Int) = bt a0 1 := bt_at a0 1
     have qi15 : (1 < (a0.size : Int)) = True := eq_true (oz)
     replace q15 := eq_true q15
     go_wp2_with (first | ((with_reducible refine gate_callee (f := 32) rfl ?_); refine goesL_ (some 34) rfl rfl Tryz.func32 kz rfl #[.int .u8 (bt a0 1)] rfl mz ?_; (with_reducible refine (burinref04_Letter.calls kj7 (bt a0 1) t411 t412 _ A16.out).mono ?_); rintro e w18 ⟨v413, rfl, ho0, hb⟩; refine ⟨_, rfl, ?_⟩; have HO414 := Aside0.mk (Kd.R_lower ho0 (below_size bz)); replace HB := hz hb; (try clear hb); (try clear ho0)))
     go_ret3
     exact ⟨_, fz, rz HO414.out, bz⟩
    rw [if_neg c17] at H
    have c17b0 := beq_eq_false_iff_ne.mpr c17
    have c17b1 := bne_iff_ne.mpr c17
    simp only [Option.some.injEq, Prod.mk.injEq] at H
    obtain ⟨rfl, rfl, rfl⟩ := H
    have q15 : 1 < a0.size := (by have : (1 : Int) < (a0.size : Int) := oz; omega)
    have hx15 : ∀ h : 1 < a0.size, ((a0[1]'h).toNat : Int) = bt a0 1 := bt_at a0 1
    have qi15 : (1 < (a0.size : Int)) = True := eq_true (oz)
    replace q15 := eq_true q15
    go_wp2_with (first | ((with_reducible refine gate_callee (f := 32) rfl ?_); refine goesL_ (some 34) rfl rfl Tryz.func32 kz rfl #[.int .u8 (bt a0 1)] rfl mz ?_; (with_reducible refine (burinref04_Letter.calls kj7 (bt a0 1) t411 t412 _ A16.out).mono ?_); rintro e w19 ⟨v413, rfl, ho0, hb⟩; refine ⟨_, rfl, ?_⟩; have HO414 := Aside0.mk (Kd.R_lower ho0 (below_size bz)); replace HB := hz hb; (try clear hb); (try clear ho0)))
    go_ret3
    exact ⟨_, fz, by first | exact Kd.R_nil _ _ _ _ _ | exact Kd.N_nil _ _ _ _ _ | exact Kd.V_nil _ _ _ _ _ | exact Kd.Q_nil _ _ _ _ _ | exact Kd.S_nil _ _ _ _ _, bz⟩
   replace c13 := Bool.eq_false_iff.mpr c13
   subst c13
   rw [if_neg (show ¬ (false = true) by decide)] at H
   by_cases c20 : (a0.size : Int) = 2
   ·rw [if_pos c20] at H
    have c20b0 := beq_iff_eq.mpr c20
    have c20b1 := bne_eq_false_iff_eq.mpr c20
    clear c20
    simp only [Option.some.injEq, Prod.mk.injEq] at H
    obtain ⟨rfl, rfl, rfl⟩ := H
    go_wp2
    go_ret3
    exact ⟨_, fz, by first | exact Kd.R_nil _ _ _ _ _ | exact Kd.N_nil _ _ _ _ _ | exact Kd.V_nil _ _ _ _ _ | exact Kd.Q_nil _ _ _ _ _ | exact Kd.S_nil _ _ _ _ _, bz⟩
   rw [if_neg c20] at H
   have c20b0 := beq_eq_false_iff_ne.mpr c20
   have c20b1 := bne_iff_ne.mpr c20
   by_cases c21 : 2 ≤ 3
   rotate_left
   ·exact nomatch (if_neg c21).symm.trans H
   rw [if_pos c21] at H
   have c21b0 := eq_true c21
   have c21b1 := decide_eq_true c21
   clear c21
   by_cases c22 : 3 ≤ (a0.size : Int)
   rotate_left
   ·exact nomatch (if_neg c22).symm.trans H
   rw [if_pos c22] at H
   have c22b0 := eq_true c22
   have c22b1 := decide_eq_true c22
   clear c22
   by_cases c23 : 2 < (a0.size : Int)
   rotate_left
   ·exact nomatch (if_neg c23).symm.trans H
   rw [if_pos c23] at H
   have c23b0 := decide_eq_true c23
   have c23b1 : decide (2 < a0.size) = true := decide_eq_true (by omega)
   clear c23
   have HC25 := Aside0.mk H
   clear H
   have q24 : 2 < a0.size := (by have : (2 : Int) < (a0.size : Int) := oz; omega)
   have hx24 : ∀ h : 2 < a0.size, ((a0[2]'h).toNat : Int) = bt a0 2 := bt_at a0 2
   have qi24 : (2 < (a0.size : Int)) = True := eq_true (oz)
   replace q24 := eq_true q24
   go_upto_if 47 with (fail)
   go_cut [7, 8] (fun v7 v8 wc => ∃ (kq : Nat) (x7_24 : ByteArray) (x8_24 : Int), v7 = .string x7_24 ∧ v8 = .int .i64 x8_24 ∧ Aside0 (burinref07_Set.j3 kq a0 x7_24 x8_24 = some (r1, r2, r3)) ∧ Aside0 (kq ≤ kj7) ∧ Aside0 (Below w.heap.size w wc))
   case first =>
    have H := HC25.out
    clear HC25
    by_cases c26 : (bt a0 2) = 123
    ·rw [if_pos c26] at H
     have c26b0 := beq_iff_eq.mpr c26
     have c26b1 := bne_eq_false_iff_eq.mpr c26
     clear c26
     (first | rw [c26b0] | (simp only [i64_w, i32_w]; rw [c26b0]) | skip)
     have H' := Aside0.mk H
     clear H
     go_wp2
     go_loopg [9] kj7 (fun kq v9 w' => ∃ (x9_3 : Int), v9 = .int .i64 x9_3 ∧ Aside0 (burinref07_Set.l0 kq a0 x9_3 = some (r1, r2, r3)) ∧ Aside0 (kq ≤ kj7) ∧ Aside0 (Below w.heap.size w w'))
     case atStart => exact ⟨(3), ez, H', ⟨Nat.le_refl _⟩, ⟨bz⟩⟩
     clear H'
     try clear c1
     try clear p1
     try clear q1
     try clear hx1
     try clear qi1
     try clear c2
     try clear p2
     try clear q2
     try clear hx2
     try clear qi2
     try clear c3
     try clear c3b0 c3b1
     try clear c4
     try clear c4b0 c4b1
     try clear p5
     try clear q5
     try clear hx5
     try clear qi5
     try clear c6
     try clear c7
     try clear c7b0 c7b1
     try clear c9
     try clear c9b0 c9b1
     try clear p10
     try clear q10
     try clear hx10
     try clear qi10
     try clear c11
     try clear c11b0 c11b1
     try clear c12
     try clear p12
     try clear q12
     try clear hx12
     try clear qi12
     try clear c13
     try clear c14
     try clear c14b0 c14b1
     try clear p15
     try clear q15
     try clear hx15
     try clear qi15
     try clear c17
     try clear c17b0 c17b1
     try clear c20
     try clear c20b0 c20b1
     try clear c21
     try clear c21b0 c21b1
     try clear c22
     try clear c22b0 c22b1
     try clear c23
     try clear c23b0 c23b1
     try clear p24
     try clear q24
     try clear hx24
     try clear qi24
     try clear c26
     try clear c26b0 c26b1
     try clear p1
     try clear p10
     try clear p12
     try clear p15
     try clear p2
     try clear p24
     try clear p5
     try clear q1
     try clear q10
     try clear q12
     try clear q15
     try clear q24
     try clear q5
     obtain ⟨x9_3, rfl, HA, HK3, HB⟩ := hrel
     cases gk with
     | zero => exact absurd HA.out (by simp [burinref07_Set.l0])
     | succ k3 =>
      have H := HA.out
      clear HA
      simp only [burinref07_Set.l0] at H
      by_cases c27 : x9_3 < (a0.size : Int)
      ·rw [if_pos c27] at H
       have c27b0 := decide_eq_true c27
       clear c27
       by_cases c28 : 0 ≤ x9_3
       rotate_left
       ·exact nomatch (if_neg c28).symm.trans H
       rw [if_pos c28] at H
       have c28b0 := decide_eq_true c28
       clear c28
       by_cases c30 : (bt a0 x9_3) = 125
       ·rw [if_pos c30] at H
        have c30b0 := beq_iff_eq.mpr c30
        have c30b1 := bne_eq_false_iff_eq.mpr c30
        clear c30
        by_cases c31 : x9_3 = (a0.size : Int)
        ·rw [if_pos c31] at H
         have c31b0 := beq_iff_eq.mpr c31
         have c31b1 := bne_eq_false_iff_eq.mpr c31
         clear c31
         simp only [Option.some.injEq, Prod.mk.injEq] at H
         obtain ⟨rfl, rfl, rfl⟩ := H
         have p29 : 0 ≤ (x9_3 : Int) := oz
         have q29 : x9_3 < (a0.size : Int) := oz
         have hx29 := bt_at a0 x9_3
         replace p29 := eq_true p29
         replace q29 := eq_true q29
         go_wp2
         go_ret3
         exact ⟨_, fz, by first | exact Kd.R_nil _ _ _ _ _ | exact Kd.N_nil _ _ _ _ _ | exact Kd.V_nil _ _ _ _ _ | exact Kd.Q_nil _ _ _ _ _ | exact Kd.S_nil _ _ _ _ _, bz⟩
        rw [if_neg c31] at H
        have c31b0 := beq_eq_false_iff_ne.mpr c31
        have c31b1 := bne_iff_ne.mpr c31
        by_cases c32 : 3 ≤ x9_3
        rotate_left
        ·exact nomatch (if_neg c32).symm.trans H
        rw [if_pos c32] at H
        have c32b0 := eq_true c32
        have c32b1 := decide_eq_true c32
        clear c32
        by_cases c33 : x9_3 ≤ (a0.size : Int)
        rotate_left
        ·exact nomatch (if_neg c33).symm.trans H
        rw [if_pos c33] at H
        have c33b0 := eq_true c33
        have c33b1 := decide_eq_true c33
        clear c33
        have H' := Aside0.mk H
        clear H
        have p29 : 0 ≤ (x9_3 : Int) := oz
        have q29 : x9_3 < (a0.size : Int) := oz
        have hx29 := bt_at a0 x9_3
        replace p29 := eq_true p29
        replace q29 := eq_true q29
        go_wp2
        go_meet
        case rel => exact ⟨_, (a0.extract 3 (x9_3 : Int).toNat), (wrap64 (x9_3 + 1)), ez, ez, H', ⟨by have := HJ1.out; have := HJ7.out; have := HK3.out; first | omega | exact Nat.le_refl _⟩, ⟨bz⟩⟩
       rw [if_neg c30] at H
       have c30b0 := beq_eq_false_iff_ne.mpr c30
       have c30b1 := bne_iff_ne.mpr c30
       have H' := Aside0.mk H
       clear H
       have p29 : 0 ≤ (x9_3 : Int) := oz
       have q29 : x9_3 < (a0.size : Int) := oz
       have hx29 := bt_at a0 x9_3
       replace p29 := eq_true p29
       replace q29 := eq_true q29
       go_wp2
       go_roundg k3
       case measure => have := HJ1.out; have := HJ7.out; have := HK3.out; omega
       case rel => exact ⟨(wrap64 (x9_3 + 1)), ez, H', ⟨by have := HJ1.out; have := HJ7.out; have := HK3.out; omega⟩, ⟨bz⟩⟩
      rw [if_neg c27] at H
      have c27b0 := decide_eq_false c27
      clear c27
      by_cases c34 : x9_3 = (a0.size : Int)
      ·rw [if_pos c34] at H
       have c34b0 := beq_iff_eq.mpr c34
       have c34b1 := bne_eq_false_iff_eq.mpr c34
       clear c34
       simp only [Option.some.injEq, Prod.mk.injEq] at H
       obtain ⟨rfl, rfl, rfl⟩ := H
       go_wp2
       go_ret3
       exact ⟨_, fz, by first | exact Kd.R_nil _ _ _ _ _ | exact Kd.N_nil _ _ _ _ _ | exact Kd.V_nil _ _ _ _ _ | exact Kd.Q_nil _ _ _ _ _ | exact Kd.S_nil _ _ _ _ _, bz⟩
      rw [if_neg c34] at H
      have c34b0 := beq_eq_false_iff_ne.mpr c34
      have c34b1 := bne_iff_ne.mpr c34
      by_cases c35 : 3 ≤ x9_3
      rotate_left
      ·exact nomatch (if_neg c35).symm.trans H
      rw [if_pos c35] at H
      have c35b0 := eq_true c35
      have c35b1 := decide_eq_true c35
      clear c35
      by_cases c36 : x9_3 ≤ (a0.size : Int)
      rotate_left
      ·exact nomatch (if_neg c36).symm.trans H
      rw [if_pos c36] at H
      have c36b0 := eq_true c36
      have c36b1 := decide_eq_true c36
      clear c36
      have H' := Aside0.mk H
      clear H
      go_wp2
      go_meet
      case rel => exact ⟨_, (a0.extract 3 (x9_3 : Int).toNat), (wrap64 (x9_3 + 1)), ez, ez, H', ⟨by have := HJ1.out; have := HJ7.out; have := HK3.out; first | omega | exact Nat.le_refl _⟩, ⟨bz⟩⟩
    rw [if_neg c26] at H
    have c26b0 := beq_eq_false_iff_ne.mpr c26
    have c26b1 := bne_iff_ne.mpr c26
    (first | rw [c26b0] | (simp only [i64_w, i32_w]; rw [c26b0]) | skip)
    replace H := Option.bind_eq_some_iff.mp H
    obtain ⟨t415, A380, H⟩ := H
    try dsimp only at H
    have A38 := Aside0.mk A380
    clear A380
    by_cases c39 : t415 = true
    ·subst c39
     rw [if_pos rfl] at H
     have H' := Aside0.mk H
     clear H
     have q37 : 2 < a0.size := (by have : (2 : Int) < (a0.size : Int) := oz; omega)
     have hx37 : ∀ h : 2 < a0.size, ((a0[2]'h).toNat : Int) = bt a0 2 := bt_at a0 2
     have qi37 : (2 < (a0.size : Int)) = True := eq_true (oz)
     replace q37 := eq_true q37
     go_wp2_with (first | ((with_reducible refine gate_callee (f := 29) rfl ?_); refine goesL_ (some 71) rfl rfl Tryz.func29 kz rfl #[.int .u8 (bt a0 2)] rfl mz ?_; (with_reducible refine (burinref07_Letter.calls (bt a0 2) true _ A38.out).mono ?_); rintro e w' ⟨rfl, ⟨nd, rfl⟩⟩; refine ⟨_, rfl, ?_⟩))
     go_meet
     case rel => exact ⟨_, (a0.extract 2 3), (3), ez, ez, H', ⟨by have := HJ1.out; have := HJ7.out; first | omega | exact Nat.le_refl _⟩, ⟨bz⟩⟩
    replace c39 := Bool.eq_false_iff.mpr c39
    subst c39
    rw [if_neg (show ¬ (false = true) by decide)] at H
    simp only [Option.some.injEq, Prod.mk.injEq] at H
    obtain ⟨rfl, rfl, rfl⟩ := H
    have q37 : 2 < a0.size := (by have : (2 : Int) < (a0.size : Int) := oz; omega)
    have hx37 : ∀ h : 2 < a0.size, ((a0[2]'h).toNat : Int) = bt a0 2 := bt_at a0 2
    have qi37 : (2 < (a0.size : Int)) = True := eq_true (oz)
    replace q37 := eq_true q37
    go_wp2_with (first | ((with_reducible refine gate_callee (f := 29) rfl ?_); refine goesL_ (some 71) rfl rfl Tryz.func29 kz rfl #[.int .u8 (bt a0 2)] rfl mz ?_; (with_reducible refine (burinref07_Letter.calls (bt a0 2) false _ A38.out).mono ?_); rintro e w' ⟨rfl, ⟨nd, rfl⟩⟩; refine ⟨_, rfl, ?_⟩))
    go_ret3
    exact ⟨_, fz, by first | exact Kd.R_nil _ _ _ _ _ | exact Kd.N_nil _ _ _ _ _ | exact Kd.V_nil _ _ _ _ _ | exact Kd.Q_nil _ _ _ _ _ | exact Kd.S_nil _ _ _ _ _, bz⟩
   clear HC25
   try clear c1
   try clear p1
   try clear q1
   try clear hx1
   try clear qi1
   try clear c2
   try clear p2
   try clear q2
   try clear hx2
   try clear qi2
   try clear c3
   try clear c3b0 c3b1
   try clear p3
   try clear q3
   try clear hx3
   try clear qi3
   try clear c4
   try clear c4b0 c4b1
   try clear p5
   try clear q5
   try clear hx5
   try clear qi5
   try clear c6
   try clear p6
   try clear c7
   try clear c7b0 c7b1
   try clear c9
   try clear c9b0 c9b1
   try clear p10
   try clear q10
   try clear hx10
   try clear qi10
   try clear c11
   try clear c11b0 c11b1
   try clear c12
   try clear p12
   try clear q12
   try clear hx12
   try clear qi12
   try clear c13
   try clear c14
   try clear c14b0 c14b1
   try clear p15
   try clear q15
   try clear hx15
   try clear qi15
   try clear c17
   try clear c17b0 c17b1
   try clear c20
   try clear c20b0 c20b1
   try clear c21
   try clear c21b0 c21b1
   try clear c22
   try clear c22b0 c22b1
   try clear c23
   try clear c23b0 c23b1
   try clear p24
   try clear q24
   try clear hx24
   try clear qi24
   try clear c26
   try clear c26b0 c26b1
   try clear c27
   try clear c27b0
   try clear c28
   try clear c28b0
   try clear c29
   try clear p29
   try clear q29
   try clear hx29
   try clear c30
   try clear c30b0 c30b1
   try clear c31
   try clear c31b0 c31b1
   try clear c32
   try clear c32b0 c32b1
   try clear c33
   try clear c33b0 c33b1
   try clear c34
   try clear c34b0 c34b1
   try clear c35
   try clear c35b0 c35b1
   try clear c36
   try clear c36b0 c36b1
   try clear p37
   try clear q37
   try clear hx37
   try clear qi37
   try clear c39
   try clear p1
   try clear p10
   try clear p12
   try clear p15
   try clear p2
   try clear p24
   try clear p29
   try clear p37
   try clear p5
   try clear q1
   try clear q10
   try clear q12
   try clear q15
   try clear q2
   try clear q24
   try clear q29
   try clear q37
   try clear q5
   obtain ⟨kq, x7_24, x8_24, rfl, rfl, HA, HJ24, HB⟩ := hcut
   cases kq with
   | zero => exact absurd HA.out (by simp [burinref07_Set.j3])
   | succ kj24 =>
    have H := HA.out
    clear HA
    simp only [burinref07_Set.j3] at H
    replace H := Option.bind_eq_some_iff.mp H
    obtain ⟨⟨t416, t417⟩, A400, H⟩ := H
    try dsimp only at H
    have A40 := Aside0.mk A400
    clear A400
    by_cases c41 : t417 = 0
    ·rw [if_pos c41] at H
     have c41b0 := beq_iff_eq.mpr c41
     have c41b1 := bne_eq_false_iff_eq.mpr c41
     clear c41
     by_cases c42 : 1 < (a0.size : Int)
     rotate_left
     ·exact nomatch (if_neg c42).symm.trans H
     rw [if_pos c42] at H
     have c42b0 := decide_eq_true c42
     have c42b1 : decide (1 < a0.size) = true := decide_eq_true (by omega)
     clear c42
     by_cases c44 : (bt a0 1) = 80
     ·rw [if_pos c44] at H
      have c44b0 := beq_iff_eq.mpr c44
      have c44b1 := bne_eq_false_iff_eq.mpr c44
      clear c44
      replace H := Option.bind_eq_some_iff.mp H
      obtain ⟨t420, A450, H⟩ := H
      try dsimp only at H
      have A45 := Aside0.mk A450
      clear A450
      simp only [Option.some.injEq, Prod.mk.injEq] at H
      obtain ⟨rfl, rfl, rfl⟩ := H
      go_wp2_with (first | ((with_reducible refine gate_callee (f := 33) rfl ?_); refine goesL_ (some 75) rfl rfl Tryz.func33 kz rfl #[.string x7_24] rfl mz ?_; (with_reducible refine (burinref04_Property.calls kj24 x7_24 t416 t417 _ A40.out).mono ?_); rintro e w46 ⟨v418, rfl, ho0, hb⟩; refine ⟨_, rfl, ?_⟩; have HO419 := Aside0.mk (Kd.R_lower ho0 (below_size bz)); replace HB := hz hb; (try clear hb); (try clear ho0); have p43 : 0 ≤ (1 : Int) := (by omega); have q43 : 1 < a0.size := (by have : (1 : Int) < (a0.size : Int) := oz; omega); have hx43 : ∀ h : 1 < a0.size, ((a0[1]'h).toNat : Int) = bt a0 1 := bt_at a0 1; clear p43; have qi43 : (1 < (a0.size : Int)) = True := eq_true (oz); replace q43 := eq_true q43; obtain ⟨Ao47, co47, eo47⟩ := Kd.R_slice HO419.out; subst eo47) | ((with_reducible refine gate_callee (f := 34) rfl ?_); refine goesL_ (some 84) rfl rfl Tryz.func34 kz rfl #[.slice Ao47 t416.length co47] rfl mz ?_; (with_reducible refine (burinref02_Not.calls kj24 _ _ t416 t420 _ ?side1 ?side2 A45.out).mono ?_); (case side1 => exact cz (Kd.R_reads' HO419.out).2.2); (case side2 => exact (Kd.R_reads' HO419.out).2.1); rintro e w48 ⟨v421, rfl, ho0, hb⟩; refine ⟨_, rfl, ?_⟩; have HO422 := Aside0.mk (Kd.R_lower (Kd.R_new' ho0 (Kd.R_lt (rz HO419.out))) (below_size bz)); replace HO419 := Aside0.mk (Kd.R_elder' (rz HO419.out) (Kd.R_base ho0) hb); replace HB := hz hb; (try clear hb); (try clear ho0)))
      go_ret3
      exact ⟨_, fz, rz (R_all HO422.out), bz⟩
     rw [if_neg c44] at H
     have c44b0 := beq_eq_false_iff_ne.mpr c44
     have c44b1 := bne_iff_ne.mpr c44
     simp only [Option.some.injEq, Prod.mk.injEq] at H
     obtain ⟨rfl, rfl, rfl⟩ := H
     go_wp2_with (first | ((with_reducible refine gate_callee (f := 33) rfl ?_); refine goesL_ (some 75) rfl rfl Tryz.func33 kz rfl #[.string x7_24] rfl mz ?_; (with_reducible refine (burinref04_Property.calls kj24 x7_24 t416 t417 _ A40.out).mono ?_); rintro e w49 ⟨v418, rfl, ho0, hb⟩; refine ⟨_, rfl, ?_⟩; have HO419 := Aside0.mk (Kd.R_lower ho0 (below_size bz)); replace HB := hz hb; (try clear hb); (try clear ho0); have p43 : 0 ≤ (1 : Int) := (by omega); have q43 : 1 < a0.size := (by have : (1 : Int) < (a0.size : Int) := oz; omega); have hx43 : ∀ h : 1 < a0.size, ((a0[1]'h).toNat : Int) = bt a0 1 := bt_at a0 1; clear p43; have qi43 : (1 < (a0.size : Int)) = True := eq_true (oz); replace q43 := eq_true q43))
     go_ret3
     exact ⟨_, fz, rz HO419.out, bz⟩
    rw [if_neg c41] at H
    have c41b0 := beq_eq_false_iff_ne.mpr c41
    have c41b1 := bne_iff_ne.mpr c41
    simp only [Option.some.injEq, Prod.mk.injEq] at H
    obtain ⟨rfl, rfl, rfl⟩ := H
    go_wp2_with (first | ((with_reducible refine gate_callee (f := 33) rfl ?_); refine goesL_ (some 75) rfl rfl Tryz.func33 kz rfl #[.string x7_24] rfl mz ?_; (with_reducible refine (burinref04_Property.calls kj24 x7_24 t416 t417 _ A40.out).mono ?_); rintro e w50 ⟨v418, rfl, ho0, hb⟩; refine ⟨_, rfl, ?_⟩; have HO419 := Aside0.mk (Kd.R_lower ho0 (below_size bz)); replace HB := hz hb; (try clear hb); (try clear ho0)))
    go_ret3
    exact ⟨_, fz, by first | exact Kd.R_nil _ _ _ _ _ | exact Kd.N_nil _ _ _ _ _ | exact Kd.V_nil _ _ _ _ _ | exact Kd.Q_nil _ _ _ _ _ | exact Kd.S_nil _ _ _ _ _, bz⟩
def burinref04_colon.f (a0 : ByteArray) : Option (List Int × Bool) := if a0.toList = ([97, 108, 110, 117, 109] : List UInt8) then (some ((([48, 57, 65, 90, 97, 122] : List Int)), true)) else (if a0.toList = ([97, 108, 112, 104, 97] : List UInt8) then (some ((([65, 90, 97, 122] : List Int)), true)) else (if a0.toList = ([97, 115, 99, 105, 105] : List UInt8) then (some ((([0, 127] : List Int)), true)) else (if a0.toList = ([98, 108, 97, 110, 107] : List UInt8) then (some ((([9, 9, 32, 32] : List Int)), true)) else (if a0.toList = ([99, 110, 116, 114, 108] : List UInt8) then (some ((([0, 31, 127, 127] : List Int)), true)) else (if a0.toList = ([100, 105, 103, 105, 116] : List UInt8) then (some ((([48, 57] : List Int)), true)) else (if a0.toList = ([103, 114, 97, 112, 104] : List UInt8) then (some ((([33, 126] : List Int)), true)) else (if a0.toList = ([108, 111, 119, 101, 114] : List UInt8) then (some ((([97, 122] : List Int)), true)) else (if a0.toList = ([112, 114, 105, 110, 116] : List UInt8) then (some ((([32, 126] : List Int)), true)) else (if a0.toList = ([112, 117, 110, 99, 116] : List UInt8) then (some ((([33, 47, 58, 64, 91, 96, 123, 126] : List Int)), true)) else (if a0.toList = ([115, 112, 97, 99, 101] : List UInt8) then (some ((([9, 13, 32, 32] : List Int)), true)) else (if a0.toList = ([117, 112, 112, 101, 114] : List UInt8) then (some ((([65, 90] : List Int)), true)) else (if a0.toList = ([119, 111, 114, 100] : List UInt8) then ((burinref04_word.f).bind fun t459 => (some (t459, true))) else (if a0.toList = ([120, 100, 105, 103, 105, 116] : List UInt8) then (some ((([48, 57, 65, 70, 97, 102] : List Int)), true)) else (some (([] : List Int), false)))))))))))))))
set_option maxHeartbeats 8000000 in
set_option maxRecDepth 100000 in
theorem burinref04_colon.calls (a0 : ByteArray) (r1 : List Int) (r2 : Bool) (w : World) (h : burinref04_colon.f a0 = some (r1, r2)) :
  Calls Tryz.prog 100 #[.string a0] w fun e w' => ∃ v0_ : Value, e = .returned (.tuple #[v0_, .bool r2]) ∧ Kd.R (Kd.int .i64) 3 w' w.heap.size (fun _ => True) v0_ r1 ∧ Below w.heap.size w w' := by
 have HB := Aside0.mk (Below.refl w.heap.size w)
 have H : (if a0.toList = ([97, 108, 110, 117, 109] : List UInt8) then (some ((([48, 57, 65, 90, 97, 122] : List Int)), true)) else (if a0.toList = ([97, 108, 112, 104, 97] : List UInt8) then (some ((([65, 90, 97, 122] : List Int)), true)) else (if a0.toList = ([97, 115, 99, 105, 105] : List UInt8) then (some ((([0, 127] : List Int)), true)) else (if a0.toList = ([98, 108, 97, 110, 107] : List UInt8) then (some ((([9, 9, 32, 32] : List Int)), true)) else (if a0.toList = ([99, 110, 116, 114, 108] : List UInt8) then (some ((([0, 31, 127, 127] : List Int)), true)) else (if a0.toList = ([100, 105, 103, 105, 116] : List UInt8) then (some ((([48, 57] : List Int)), true)) else (if a0.toList = ([103, 114, 97, 112, 104] : List UInt8) then (some ((([33, 126] : List Int)), true)) else (if a0.toList = ([108, 111, 119, 101, 114] : List UInt8) then (some ((([97, 122] : List Int)), true)) else (if a0.toList = ([112, 114, 105, 110, 116] : List UInt8) then (some ((([32, 126] : List Int)), true)) else (if a0.toList = ([112, 117, 110, 99, 116] : List UInt8) then (some ((([33, 47, 58, 64, 91, 96, 123, 126] : List Int)), true)) else (if a0.toList = ([115, 112, 97, 99, 101] : List UInt8) then (some ((([9, 13, 32, 32] : List Int)), true)) else (if a0.toList = ([117, 112, 112, 101, 114] : List UInt8) then (some ((([65, 90] : List Int)), true)) else (if a0.toList = ([119, 111, 114, 100] : List UInt8) then ((burinref04_word.f).bind fun t459 => (some (t459, true))) else (if a0.toList = ([120, 100, 105, 103, 105, 116] : List UInt8) then (some ((([48, 57, 65, 70, 97, 102] : List Int)), true)) else (some (([] : List Int), false)))))))))))))))) = some (r1, r2) := h
 clear h
 by_cases c2 : a0.toList = ([97, 108, 110, 117, 109] : List UInt8)
 ·rw [if_pos c2] at H
  have c2b0 := beq_iff_eq.mpr c2
  have c2b1 := bne_eq_false_iff_eq.mpr c2
  clear c2
  obtain ⟨y423, hy423⟩ : ∃ y_ : List Int, y_ = (([48, 57, 65, 90, 97, 122] : List Int)) := ⟨_, rfl⟩
  rw [← hy423] at H
  try rw [Option.bind_some] at H
  have Ny423 := Aside0.mk hy423
  clear hy423
  simp only [Option.some.injEq, Prod.mk.injEq] at H
  obtain ⟨rfl, rfl⟩ := H
  go_enter Tryz.func100, Tryz.ntmps100
  go_wp2_with (first | ((with_reducible refine gate_dst (N := 7) rfl ?_); refine Kd.R_lit (Kd.int .i64) _ 3 ?hg (N := 7) ?hd (xs := ([48, 57, 65, 90, 97, 122] : List Int)) (inner := [.int .i64 48, .int .i64 57, .int .i64 65, .int .i64 90, .int .i64 97, .int .i64 122]) (ok := fun _ => True) (okp := fun _ => True) ?hr ?hp (fun _ hk => hk) trivial (Below.refl _ _) (Nat.le_refl _) (by simp) ?_; (case hd => rfl); (case hg => rfl); (case hr => first | (go_simp; done) | (go_simp; rfl)); (case hp => exact (Reps.one rfl (Reps.one rfl (Reps.one rfl (Reps.one rfl (Reps.one rfl (Reps.one rfl (Reps.none _ _)))))))); intro v424 w3 ho4 hb hg_ hnew_; clear hg_ hnew_; (first | rw [← Ny423.out] at ho4 | (simp only [Int.reduceToNat] at ho4; rw [← Ny423.out] at ho4)); have HO425 := Aside0.mk (Kd.R_lower ho4 (below_size bz)); replace HB := hz hb; clear hb ho4))
  go_ret2
  exact ⟨_, fz, rz HO425.out, bz⟩
 rw [if_neg c2] at H
 have c2b0 := beq_eq_false_iff_ne.mpr c2
 have c2b1 := bne_iff_ne.mpr c2
 by_cases c5 : a0.toList = ([97, 108, 112, 104, 97] : List UInt8)
 ·rw [if_pos c5] at H
  have c5b0 := beq_iff_eq.mpr c5
  have c5b1 := bne_eq_false_iff_eq.mpr c5
  clear c5
  obtain ⟨y426, hy426⟩ : ∃ y_ : List Int, y_ = (([65, 90, 97, 122] : List Int)) := ⟨_, rfl⟩
  rw [← hy426] at H
  try rw [Option.bind_some] at H
  have Ny426 := Aside0.mk hy426
  clear hy426
  simp only [Option.some.injEq, Prod.mk.injEq] at H
  obtain ⟨rfl, rfl⟩ := H
  go_enter Tryz.func100, Tryz.ntmps100
  go_wp2_with (first | ((with_reducible refine gate_dst (N := 10) rfl ?_); refine Kd.R_lit (Kd.int .i64) _ 3 ?hg (N := 10) ?hd (xs := ([65, 90, 97, 122] : List Int)) (inner := [.int .i64 65, .int .i64 90, .int .i64 97, .int .i64 122]) (ok := fun _ => True) (okp := fun _ => True) ?hr ?hp (fun _ hk => hk) trivial (Below.refl _ _) (Nat.le_refl _) (by simp) ?_; (case hd => rfl); (case hg => rfl); (case hr => first | (go_simp; done) | (go_simp; rfl)); (case hp => exact (Reps.one rfl (Reps.one rfl (Reps.one rfl (Reps.one rfl (Reps.none _ _)))))); intro v427 w6 ho7 hb hg_ hnew_; clear hg_ hnew_; (first | rw [← Ny426.out] at ho7 | (simp only [Int.reduceToNat] at ho7; rw [← Ny426.out] at ho7)); have HO428 := Aside0.mk (Kd.R_lower ho7 (below_size bz)); replace HB := hz hb; clear hb ho7))
  go_ret2
  exact ⟨_, fz, rz HO428.out, bz⟩
 rw [if_neg c5] at H
 have c5b0 := beq_eq_false_iff_ne.mpr c5
 have c5b1 := bne_iff_ne.mpr c5
 by_cases c8 : a0.toList = ([97, 115, 99, 105, 105] : List UInt8)
 ·rw [if_pos c8] at H
  have c8b0 := beq_iff_eq.mpr c8
  have c8b1 := bne_eq_false_iff_eq.mpr c8
  clear c8
  obtain ⟨y429, hy429⟩ : ∃ y_ : List Int, y_ = (([0, 127] : List Int)) := ⟨_, rfl⟩
  replace H : (some (y429, true)) = some (r1, r2) := by first | (rw [hy429]; with_reducible exact H) | (have H2_ := (Option.bind_some _ _).symm.trans H; rw [hy429]; with_reducible exact H2_) | exact H
  have Ny429 := Aside0.mk hy429
  clear hy429
  simp only [Option.some.injEq, Prod.mk.injEq] at H
  obtain ⟨rfl, rfl⟩ := H
  go_enter Tryz.func100, Tryz.ntmps100
  go_wp2_with (first | ((with_reducible refine gate_dst (N := 13) rfl ?_); refine Kd.R_lit (Kd.int .i64) _ 3 ?hg (N := 13) ?hd (xs := ([0, 127] : List Int)) (inner := [.int .i64 0, .int .i64 127]) (ok := fun _ => True) (okp := fun _ => True) ?hr ?hp (fun _ hk => hk) trivial (Below.refl _ _) (Nat.le_refl _) (by simp) ?_; (case hd => rfl); (case hg => rfl); (case hr => first | (go_simp; done) | (go_simp; rfl)); (case hp => exact (Reps.one rfl (Reps.one rfl (Reps.none _ _)))); intro v430 w9 ho10 hb hg_ hnew_; clear hg_ hnew_; (first | rw [← Ny429.out] at ho10 | (simp only [Int.reduceToNat] at ho10; rw [← Ny429.out] at ho10)); have HO431 := Aside0.mk (Kd.R_lower ho10 (below_size bz)); replace HB := hz hb; clear hb ho10))
  go_ret2
  exact ⟨_, fz, rz HO431.out, bz⟩
 rw [if_neg c8] at H
 have c8b0 := beq_eq_false_iff_ne.mpr c8
 have c8b1 := bne_iff_ne.mpr c8
 by_cases c11 : a0.toList = ([98, 108, 97, 110, 107] : List UInt8)
 ·rw [if_pos c11] at H
  have c11b0 := beq_iff_eq.mpr c11
  have c11b1 := bne_eq_false_iff_eq.mpr c11
  clear c11
  obtain ⟨y432, hy432⟩ : ∃ y_ : List Int, y_ = (([9, 9, 32, 32] : List Int)) := ⟨_, rfl⟩
  rw [← hy432] at H
  try rw [Option.bind_some] at H
  have Ny432 := Aside0.mk hy432
  clear hy432
  simp only [Option.some.injEq, Prod.mk.injEq] at H
  obtain ⟨rfl, rfl⟩ := H
  go_enter Tryz.func100, Tryz.ntmps100
  go_wp2_with (first | ((with_reducible refine gate_dst (N := 16) rfl ?_); refine Kd.R_lit (Kd.int .i64) _ 3 ?hg (N := 16) ?hd (xs := ([9, 9, 32, 32] : List Int)) (inner := [.int .i64 9, .int .i64 9, .int .i64 32, .int .i64 32]) (ok := fun _ => True) (okp := fun _ => True) ?hr ?hp (fun _ hk => hk) trivial (Below.refl _ _) (Nat.le_refl _) (by simp) ?_; (case hd => rfl); (case hg => rfl); (case hr => first | (go_simp; done) | (go_simp; rfl)); (case hp => exact (Reps.one rfl (Reps.one rfl (Reps.one rfl (Reps.one rfl (Reps.none _ _)))))); intro v433 w12 ho13 hb hg_ hnew_; clear hg_ hnew_; (first | rw [← Ny432.out] at ho13 | (simp only [Int.reduceToNat] at ho13; rw [← Ny432.out] at ho13)); have HO434 := Aside0.mk (Kd.R_lower ho13 (below_size bz)); replace HB := hz hb; clear hb ho13))
  go_ret2
  exact ⟨_, fz, rz HO434.out, bz⟩
 rw [if_neg c11] at H
 have c11b0 := beq_eq_false_iff_ne.mpr c11
 have c11b1 := bne_iff_ne.mpr c11
 by_cases c14 : a0.toList = ([99, 110, 116, 114, 108] : List UInt8)
 ·rw [if_pos c14] at H
  have c14b0 := beq_iff_eq.mpr c14
  have c14b1 := bne_eq_false_iff_eq.mpr c14
  clear c14
  obtain ⟨y435, hy435⟩ : ∃ y_ : List Int, y_ = (([0, 31, 127, 127] : List Int)) := ⟨_, rfl⟩
  rw [← hy435] at H
  try rw [Option.bind_some] at H
  have Ny435 := Aside0.mk hy435
  clear hy435
  simp only [Option.some.injEq, Prod.mk.injEq] at H
  obtain ⟨rfl, rfl⟩ := H
  go_enter Tryz.func100, Tryz.ntmps100
  go_wp2_with (first | ((with_reducible refine gate_dst (N := 19) rfl ?_); refine Kd.R_lit (Kd.int .i64) _ 3 ?hg (N := 19) ?hd (xs := ([0, 31, 127, 127] : List Int)) (inner := [.int .i64 0, .int .i64 31, .int .i64 127, .int .i64 127]) (ok := fun _ => True) (okp := fun _ => True) ?hr ?hp (fun _ hk => hk) trivial (Below.refl _ _) (Nat.le_refl _) (by simp) ?_; (case hd => rfl); (case hg => rfl); (case hr => first | (go_simp; done) | (go_simp; rfl)); (case hp => exact (Reps.one rfl (Reps.one rfl (Reps.one rfl (Reps.one rfl (Reps.none _ _)))))); intro v436 w15 ho16 hb hg_ hnew_; clear hg_ hnew_; (first | rw [← Ny435.out] at ho16 | (simp only [Int.reduceToNat] at ho16; rw [← Ny435.out] at ho16)); have HO437 := Aside0.mk (Kd.R_lower ho16 (below_size bz)); replace HB := hz hb; clear hb ho16))
  go_ret2
  exact ⟨_, fz, rz HO437.out, bz⟩
 rw [if_neg c14] at H
 have c14b0 := beq_eq_false_iff_ne.mpr c14
 have c14b1 := bne_iff_ne.mpr c14
 by_cases c17 : a0.toList = ([100, 105, 103, 105, 116] : List UInt8)
 ·rw [if_pos c17] at H
  have c17b0 := beq_iff_eq.mpr c17
  have c17b1 := bne_eq_false_iff_eq.mpr c17
  clear c17
  obtain ⟨y438, hy438⟩ : ∃ y_ : List Int, y_ = (([48, 57] : List Int)) := ⟨_, rfl⟩
  replace H : (some (y438, true)) = some (r1, r2) := by first | (rw [hy438]; with_reducible exact H) | (have H2_ := (Option.bind_some _ _).symm.trans H; rw [hy438]; with_reducible exact H2_) | exact H
  have Ny438 := Aside0.mk hy438
  clear hy438
  simp only [Option.some.injEq, Prod.mk.injEq] at H
  obtain ⟨rfl, rfl⟩ := H
  go_enter Tryz.func100, Tryz.ntmps100
  go_wp2_with (first | ((with_reducible refine gate_dst (N := 22) rfl ?_); refine Kd.R_lit (Kd.int .i64) _ 3 ?hg (N := 22) ?hd (xs := ([48, 57] : List Int)) (inner := [.int .i64 48, .int .i64 57]) (ok := fun _ => True) (okp := fun _ => True) ?hr ?hp (fun _ hk => hk) trivial (Below.refl _ _) (Nat.le_refl _) (by simp) ?_; (case hd => rfl); (case hg => rfl); (case hr => first | (go_simp; done) | (go_simp; rfl)); (case hp => exact (Reps.one rfl (Reps.one rfl (Reps.none _ _)))); intro v439 w18 ho19 hb hg_ hnew_; clear hg_ hnew_; (first | rw [← Ny438.out] at ho19 | (simp only [Int.reduceToNat] at ho19; rw [← Ny438.out] at ho19)); have HO440 := Aside0.mk (Kd.R_lower ho19 (below_size bz)); replace HB := hz hb; clear hb ho19))
  go_ret2
  exact ⟨_, fz, rz HO440.out, bz⟩
 rw [if_neg c17] at H
 have c17b0 := beq_eq_false_iff_ne.mpr c17
 have c17b1 := bne_iff_ne.mpr c17
 by_cases c20 : a0.toList = ([103, 114, 97, 112, 104] : List UInt8)
 ·rw [if_pos c20] at H
  have c20b0 := beq_iff_eq.mpr c20
  have c20b1 := bne_eq_false_iff_eq.mpr c20
  clear c20
  obtain ⟨y441, hy441⟩ : ∃ y_ : List Int, y_ = (([33, 126] : List Int)) := ⟨_, rfl⟩
  replace H : (some (y441, true)) = some (r1, r2) := by first | (rw [hy441]; with_reducible exact H) | (have H2_ := (Option.bind_some _ _).symm.trans H; rw [hy441]; with_reducible exact H2_) | exact H
  have Ny441 := Aside0.mk hy441
  clear hy441
  simp only [Option.some.injEq, Prod.mk.injEq] at H
  obtain ⟨rfl, rfl⟩ := H
  go_enter Tryz.func100, Tryz.ntmps100
  go_wp2_with (first | ((with_reducible refine gate_dst (N := 25) rfl ?_); refine Kd.R_lit (Kd.int .i64) _ 3 ?hg (N := 25) ?hd (xs := ([33, 126] : List Int)) (inner := [.int .i64 33, .int .i64 126]) (ok := fun _ => True) (okp := fun _ => True) ?hr ?hp (fun _ hk => hk) trivial (Below.refl _ _) (Nat.le_refl _) (by simp) ?_; (case hd => rfl); (case hg => rfl); (case hr => first | (go_simp; done) | (go_simp; rfl)); (case hp => exact (Reps.one rfl (Reps.one rfl (Reps.none _ _)))); intro v442 w21 ho22 hb hg_ hnew_; clear hg_ hnew_; (first | rw [← Ny441.out] at ho22 | (simp only [Int.reduceToNat] at ho22; rw [← Ny441.out] at ho22)); have HO443 := Aside0.mk (Kd.R_lower ho22 (below_size bz)); replace HB := hz hb; clear hb ho22))
  go_ret2
  exact ⟨_, fz, rz HO443.out, bz⟩
 rw [if_neg c20] at H
 have c20b0 := beq_eq_false_iff_ne.mpr c20
 have c20b1 := bne_iff_ne.mpr c20
 by_cases c23 : a0.toList = ([108, 111, 119, 101, 114] : List UInt8)
 ·rw [if_pos c23] at H
  have c23b0 := beq_iff_eq.mpr c23
  have c23b1 := bne_eq_false_iff_eq.mpr c23
  clear c23
  obtain ⟨y444, hy444⟩ : ∃ y_ : List Int, y_ = (([97, 122] : List Int)) := ⟨_, rfl⟩
  replace H : (some (y444, true)) = some (r1, r2) := by first | (rw [hy444]; with_reducible exact H) | (have H2_ := (Option.bind_some _ _).symm.trans H; rw [hy444]; with_reducible exact H2_) | exact H
  have Ny444 := Aside0.mk hy444
  clear hy444
  simp only [Option.some.injEq, Prod.mk.injEq] at H
  obtain ⟨rfl, rfl⟩ := H
  go_enter Tryz.func100, Tryz.ntmps100
  go_wp2_with (first | ((with_reducible refine gate_dst (N := 28) rfl ?_); refine Kd.R_lit (Kd.int .i64) _ 3 ?hg (N := 28) ?hd (xs := ([97, 122] : List Int)) (inner := [.int .i64 97, .int .i64 122]) (ok := fun _ => True) (okp := fun _ => True) ?hr ?hp (fun _ hk => hk) trivial (Below.refl _ _) (Nat.le_refl _) (by simp) ?_; (case hd => rfl); (case hg => rfl); (case hr => first | (go_simp; done) | (go_simp; rfl)); (case hp => exact (Reps.one rfl (Reps.one rfl (Reps.none _ _)))); intro v445 w24 ho25 hb hg_ hnew_; clear hg_ hnew_; (first | rw [← Ny444.out] at ho25 | (simp only [Int.reduceToNat] at ho25; rw [← Ny444.out] at ho25)); have HO446 := Aside0.mk (Kd.R_lower ho25 (below_size bz)); replace HB := hz hb; clear hb ho25))
  go_ret2
  exact ⟨_, fz, rz HO446.out, bz⟩
 rw [if_neg c23] at H
 have c23b0 := beq_eq_false_iff_ne.mpr c23
 have c23b1 := bne_iff_ne.mpr c23
 by_cases c26 : a0.toList = ([112, 114, 105, 110, 116] : List UInt8)
 ·rw [if_pos c26] at H
  have c26b0 := beq_iff_eq.mpr c26
  have c26b1 := bne_eq_false_iff_eq.mpr c26
  clear c26
  obtain ⟨y447, hy447⟩ : ∃ y_ : List Int, y_ = (([32, 126] : List Int)) := ⟨_, rfl⟩
  replace H : (some (y447, true)) = some (r1, r2) := by first | (rw [hy447]; with_reducible exact H) | (have H2_ := (Option.bind_some _ _).symm.trans H; rw [hy447]; with_reducible exact H2_) | exact H
  have Ny447 := Aside0.mk hy447
  clear hy447
  simp only [Option.some.injEq, Prod.mk.injEq] at H
  obtain ⟨rfl, rfl⟩ := H
  go_enter Tryz.func100, Tryz.ntmps100
  go_wp2_with (first | ((with_reducible refine gate_dst (N := 31) rfl ?_); refine Kd.R_lit (Kd.int .i64) _ 3 ?hg (N := 31) ?hd (xs := ([32, 126] : List Int)) (inner := [.int .i64 32, .int .i64 126]) (ok := fun _ => True) (okp := fun _ => True) ?hr ?hp (fun _ hk => hk) trivial (Below.refl _ _) (Nat.le_refl _) (by simp) ?_; (case hd => rfl); (case hg => rfl); (case hr => first | (go_simp; done) | (go_simp; rfl)); (case hp => exact (Reps.one rfl (Reps.one rfl (Reps.none _ _)))); intro v448 w27 ho28 hb hg_ hnew_; clear hg_ hnew_; (first | rw [← Ny447.out] at ho28 | (simp only [Int.reduceToNat] at ho28; rw [← Ny447.out] at ho28)); have HO449 := Aside0.mk (Kd.R_lower ho28 (below_size bz)); replace HB := hz hb; clear hb ho28))
  go_ret2
  exact ⟨_, fz, rz HO449.out, bz⟩
 rw [if_neg c26] at H
 have c26b0 := beq_eq_false_iff_ne.mpr c26
 have c26b1 := bne_iff_ne.mpr c26
 by_cases c29 : a0.toList = ([112, 117, 110, 99, 116] : List UInt8)
 ·rw [if_pos c29] at H
  have c29b0 := beq_iff_eq.mpr c29
  have c29b1 := bne_eq_false_iff_eq.mpr c29
  clear c29
  obtain ⟨y450, hy450⟩ : ∃ y_ : List Int, y_ = (([33, 47, 58, 64, 91, 96, 123, 126] : List Int)) := ⟨_, rfl⟩
  rw [← hy450] at H
  try rw [Option.bind_some] at H
  have Ny450 := Aside0.mk hy450
  clear hy450
  simp only [Option.some.injEq, Prod.mk.injEq] at H
  obtain ⟨rfl, rfl⟩ := H
  go_enter Tryz.func100, Tryz.ntmps100
  go_wp2_with (first | ((with_reducible refine gate_dst (N := 34) rfl ?_); refine Kd.R_lit (Kd.int .i64) _ 3 ?hg (N := 34) ?hd (xs := ([33, 47, 58, 64, 91, 96, 123, 126] : List Int)) (inner := [.int .i64 33, .int .i64 47, .int .i64 58, .int .i64 64, .int .i64 91, .int .i64 96, .int .i64 123, .int .i64 126]) (ok := fun _ => True) (okp := fun _ => True) ?hr ?hp (fun _ hk => hk) trivial (Below.refl _ _) (Nat.le_refl _) (by simp) ?_; (case hd => rfl); (case hg => rfl); (case hr => first | (go_simp; done) | (go_simp; rfl)); (case hp => exact (Reps.one rfl (Reps.one rfl (Reps.one rfl (Reps.one rfl (Reps.one rfl (Reps.one rfl (Reps.one rfl (Reps.one rfl (Reps.none _ _)))))))))); intro v451 w30 ho31 hb hg_ hnew_; clear hg_ hnew_; (first | rw [← Ny450.out] at ho31 | (simp only [Int.reduceToNat] at ho31; rw [← Ny450.out] at ho31)); have HO452 := Aside0.mk (Kd.R_lower ho31 (below_size bz)); replace HB := hz hb; clear hb ho31))
  go_ret2
  exact ⟨_, fz, rz HO452.out, bz⟩
 rw [if_neg c29] at H
 have c29b0 := beq_eq_false_iff_ne.mpr c29
 have c29b1 := bne_iff_ne.mpr c29
 by_cases c32 : a0.toList = ([115, 112, 97, 99, 101] : List UInt8)
 ·rw [if_pos c32] at H
  have c32b0 := beq_iff_eq.mpr c32
  have c32b1 := bne_eq_false_iff_eq.mpr c32
  clear c32
  obtain ⟨y453, hy453⟩ : ∃ y_ : List Int, y_ = (([9, 13, 32, 32] : List Int)) := ⟨_, rfl⟩
  rw [← hy453] at H
  try rw [Option.bind_some] at H
  have Ny453 := Aside0.mk hy453
  clear hy453
  simp only [Option.some.injEq, Prod.mk.injEq] at H
  obtain ⟨rfl, rfl⟩ := H
  go_enter Tryz.func100, Tryz.ntmps100
  go_wp2_with (first | ((with_reducible refine gate_dst (N := 37) rfl ?_); refine Kd.R_lit (Kd.int .i64) _ 3 ?hg (N := 37) ?hd (xs := ([9, 13, 32, 32] : List Int)) (inner := [.int .i64 9, .int .i64 13, .int .i64 32, .int .i64 32]) (ok := fun _ => True) (okp := fun _ => True) ?hr ?hp (fun _ hk => hk) trivial (Below.refl _ _) (Nat.le_refl _) (by simp) ?_; (case hd => rfl); (case hg => rfl); (case hr => first | (go_simp; done) | (go_simp; rfl)); (case hp => exact (Reps.one rfl (Reps.one rfl (Reps.one rfl (Reps.one rfl (Reps.none _ _)))))); intro v454 w33 ho34 hb hg_ hnew_; clear hg_ hnew_; (first | rw [← Ny453.out] at ho34 | (simp only [Int.reduceToNat] at ho34; rw [← Ny453.out] at ho34)); have HO455 := Aside0.mk (Kd.R_lower ho34 (below_size bz)); replace HB := hz hb; clear hb ho34))
  go_ret2
  exact ⟨_, fz, rz HO455.out, bz⟩
 rw [if_neg c32] at H
 have c32b0 := beq_eq_false_iff_ne.mpr c32
 have c32b1 := bne_iff_ne.mpr c32
 by_cases c35 : a0.toList = ([117, 112, 112, 101, 114] : List UInt8)
 ·rw [if_pos c35] at H
  have c35b0 := beq_iff_eq.mpr c35
  have c35b1 := bne_eq_false_iff_eq.mpr c35
  clear c35
  obtain ⟨y456, hy456⟩ : ∃ y_ : List Int, y_ = (([65, 90] : List Int)) := ⟨_, rfl⟩
  replace H : (some (y456, true)) = some (r1, r2) := by first | (rw [hy456]; with_reducible exact H) | (have H2_ := (Option.bind_some _ _).symm.trans H; rw [hy456]; with_reducible exact H2_) | exact H
  have Ny456 := Aside0.mk hy456
  clear hy456
  simp only [Option.some.injEq, Prod.mk.injEq] at H
  obtain ⟨rfl, rfl⟩ := H
  go_enter Tryz.func100, Tryz.ntmps100
  go_wp2_with (first | ((with_reducible refine gate_dst (N := 40) rfl ?_); refine Kd.R_lit (Kd.int .i64) _ 3 ?hg (N := 40) ?hd (xs := ([65, 90] : List Int)) (inner := [.int .i64 65, .int .i64 90]) (ok := fun _ => True) (okp := fun _ => True) ?hr ?hp (fun _ hk => hk) trivial (Below.refl _ _) (Nat.le_refl _) (by simp) ?_; (case hd => rfl); (case hg => rfl); (case hr => first | (go_simp; done) | (go_simp; rfl)); (case hp => exact (Reps.one rfl (Reps.one rfl (Reps.none _ _)))); intro v457 w36 ho37 hb hg_ hnew_; clear hg_ hnew_; (first | rw [← Ny456.out] at ho37 | (simp only [Int.reduceToNat] at ho37; rw [← Ny456.out] at ho37)); have HO458 := Aside0.mk (Kd.R_lower ho37 (below_size bz)); replace HB := hz hb; clear hb ho37))
  go_ret2
  exact ⟨_, fz, rz HO458.out, bz⟩
 rw [if_neg c35] at H
 have c35b0 := beq_eq_false_iff_ne.mpr c35
 have c35b1 := bne_iff_ne.mpr c35
 by_cases c38 : a0.toList = ([119, 111, 114, 100] : List UInt8)
 ·rw [if_pos c38] at H
  have c38b0 := beq_iff_eq.mpr c38
  have c38b1 := bne_eq_false_iff_eq.mpr c38
  clear c38
  replace H := Option.bind_eq_some_iff.mp H
  obtain ⟨t459, A390, H⟩ := H
  try dsimp only at H
  have A39 := Aside0.mk A390
  clear A390
  simp only [Option.some.injEq, Prod.mk.injEq] at H
  obtain ⟨rfl, rfl⟩ := H
  go_enter Tryz.func100, Tryz.ntmps100
  go_wp2_with (first | ((with_reducible refine gate_callee (f := 61) rfl ?_); refine goesL_ (some 43) rfl rfl Tryz.func61 kz rfl #[] rfl mz ?_; (with_reducible refine (burinref04_word.calls  t459 _ A39.out).mono ?_); rintro e w40 ⟨v460, rfl, ho0, hb⟩; refine ⟨_, rfl, ?_⟩; have HO461 := Aside0.mk (Kd.R_lower ho0 (below_size bz)); replace HB := hz hb; (try clear hb); (try clear ho0)))
  go_ret2
  exact ⟨_, fz, rz HO461.out, bz⟩
 rw [if_neg c38] at H
 have c38b0 := beq_eq_false_iff_ne.mpr c38
 have c38b1 := bne_iff_ne.mpr c38
 by_cases c41 : a0.toList = ([120, 100, 105, 103, 105, 116] : List UInt8)
 ·rw [if_pos c41] at H
  have c41b0 := beq_iff_eq.mpr c41
  have c41b1 := bne_eq_false_iff_eq.mpr c41
  clear c41
  obtain ⟨y462, hy462⟩ : ∃ y_ : List Int, y_ = (([48, 57, 65, 70, 97, 102] : List Int)) := ⟨_, rfl⟩
  rw [← hy462] at H
  try rw [Option.bind_some] at H
  have Ny462 := Aside0.mk hy462
  clear hy462
  simp only [Option.some.injEq, Prod.mk.injEq] at H
  obtain ⟨rfl, rfl⟩ := H
  go_enter Tryz.func100, Tryz.ntmps100
  go_wp2_with (first | ((with_reducible refine gate_dst (N := 46) rfl ?_); refine Kd.R_lit (Kd.int .i64) _ 3 ?hg (N := 46) ?hd (xs := ([48, 57, 65, 70, 97, 102] : List Int)) (inner := [.int .i64 48, .int .i64 57, .int .i64 65, .int .i64 70, .int .i64 97, .int .i64 102]) (ok := fun _ => True) (okp := fun _ => True) ?hr ?hp (fun _ hk => hk) trivial (Below.refl _ _) (Nat.le_refl _) (by simp) ?_; (case hd => rfl); (case hg => rfl); (case hr => first | (go_simp; done) | (go_simp; rfl)); (case hp => exact (Reps.one rfl (Reps.one rfl (Reps.one rfl (Reps.one rfl (Reps.one rfl (Reps.one rfl (Reps.none _ _)))))))); intro v463 w42 ho43 hb hg_ hnew_; clear hg_ hnew_; (first | rw [← Ny462.out] at ho43 | (simp only [Int.reduceToNat] at ho43; rw [← Ny462.out] at ho43)); have HO464 := Aside0.mk (Kd.R_lower ho43 (below_size bz)); replace HB := hz hb; clear hb ho43))
  go_ret2
  exact ⟨_, fz, rz HO464.out, bz⟩
 rw [if_neg c41] at H
 have c41b0 := beq_eq_false_iff_ne.mpr c41
 have c41b1 := bne_iff_ne.mpr c41
 simp only [Option.some.injEq, Prod.mk.injEq] at H
 obtain ⟨rfl, rfl⟩ := H
 go_enter Tryz.func100, Tryz.ntmps100
 go_wp2
 go_ret2
 exact ⟨_, fz, by first | exact Kd.R_nil _ _ _ _ _ | exact Kd.N_nil _ _ _ _ _ | exact Kd.V_nil _ _ _ _ _ | exact Kd.Q_nil _ _ _ _ _ | exact Kd.S_nil _ _ _ _ _, bz⟩
def burinref04_Colon.f (k : Nat) (a0 : ByteArray) : Option ((List (S36)) × Int) := (burinref04_bare.f a0).bind fun bt465 => ((burinref04_colon.f bt465.1).bind fun bt467 => (if bt467.2 = true then (if bt465.2 = true then ((burinref04_list.f k bt467.1).bind fun t471 => ((burinref02_Not.f k t471).bind fun t474 => (some (t474, 0)))) else ((burinref04_list.f k bt467.1).bind fun t477 => (some (t477, 0)))) else (some (([] : List (S36)), 70))))
set_option maxHeartbeats 8000000 in
set_option maxRecDepth 100000 in
theorem burinref04_Colon.calls (k : Nat) (a0 : ByteArray) (r1 : List (S36)) (r2 : Int) (w : World) (h : burinref04_Colon.f k a0 = some (r1, r2)) :
  Calls Tryz.prog 71 #[.string a0] w fun e w' => ∃ v0_ : Value, e = .returned (.tuple #[v0_, .int .i64 r2]) ∧ Kd.R k36 36 w' w.heap.size (fun _ => True) v0_ r1 ∧ Below w.heap.size w w' := by
 have HB := Aside0.mk (Below.refl w.heap.size w)
 have H : ((burinref04_bare.f a0).bind fun bt465 => ((burinref04_colon.f bt465.1).bind fun bt467 => (if bt467.2 = true then (if bt465.2 = true then ((burinref04_list.f k bt467.1).bind fun t471 => ((burinref02_Not.f k t471).bind fun t474 => (some (t474, 0)))) else ((burinref04_list.f k bt467.1).bind fun t477 => (some (t477, 0)))) else (some (([] : List (S36)), 70))))) = some (r1, r2) := h
 clear h
 replace H := Option.bind_eq_some_iff.mp H
 obtain ⟨⟨t465, t466⟩, A20, H⟩ := H
 try dsimp only at H
 have A2 := Aside0.mk A20
 clear A20
 replace H := Option.bind_eq_some_iff.mp H
 obtain ⟨⟨t467, t468⟩, A30, H⟩ := H
 try dsimp only at H
 have A3 := Aside0.mk A30
 clear A30
 by_cases c4 : t468 = true
 ·subst c4
  rw [if_pos rfl] at H
  by_cases c5 : t466 = true
  ·subst c5
   rw [if_pos rfl] at H
   replace H := Option.bind_eq_some_iff.mp H
   obtain ⟨t471, A60, H⟩ := H
   try dsimp only at H
   have A6 := Aside0.mk A60
   clear A60
   replace H := Option.bind_eq_some_iff.mp H
   obtain ⟨t474, A70, H⟩ := H
   try dsimp only at H
   have A7 := Aside0.mk A70
   clear A70
   simp only [Option.some.injEq, Prod.mk.injEq] at H
   obtain ⟨rfl, rfl⟩ := H
   go_enter Tryz.func71, Tryz.ntmps71
   go_wp2_with (first | ((with_reducible refine gate_callee (f := 62) rfl ?_); refine goesL_ (some 10) rfl rfl Tryz.func62 kz rfl #[.string a0] rfl mz ?_; (with_reducible refine (burinref04_bare.calls a0 t465 true _ A2.out).mono ?_); rintro e w' ⟨rfl, ⟨nd, rfl⟩⟩; refine ⟨_, rfl, ?_⟩) | ((with_reducible refine gate_callee (f := 100) rfl ?_); refine goesL_ (some 15) rfl rfl Tryz.func100 kz rfl #[.string t465] rfl mz ?_; (with_reducible refine (burinref04_colon.calls t465 t467 true _ A3.out).mono ?_); rintro e w8 ⟨v469, rfl, ho0, hb⟩; refine ⟨_, rfl, ?_⟩; have HO470 := Aside0.mk (Kd.R_lower ho0 (below_size bz)); replace HB := hz hb; (try clear hb); (try clear ho0); obtain ⟨Ao9, co9, eo9⟩ := Kd.R_slice HO470.out; subst eo9) | ((with_reducible refine gate_callee (f := 60) rfl ?_); refine goesL_ (some 22) rfl rfl Tryz.func60 kz rfl #[.slice Ao9 t467.length co9] rfl mz ?_; (with_reducible refine (burinref04_list.calls k _ _ t467 t471 _ ?side1 ?side2 A6.out).mono ?_); (case side1 => exact cz (Kd.R_reads' HO470.out).2.2); (case side2 => exact (Kd.R_reads' HO470.out).2.1); rintro e w10 ⟨v472, rfl, ho0, hb⟩; refine ⟨_, rfl, ?_⟩; have HO473 := Aside0.mk (Kd.R_lower ho0 (below_size bz)); replace HO470 := Aside0.mk (Kd.R_below (rz HO470.out) hb); replace HB := hz hb; (try clear hb); (try clear ho0); obtain ⟨Ao11, co11, eo11⟩ := Kd.R_slice HO473.out; subst eo11) | ((with_reducible refine gate_callee (f := 34) rfl ?_); refine goesL_ (some 23) rfl rfl Tryz.func34 kz rfl #[.slice Ao11 t471.length co11] rfl mz ?_; (with_reducible refine (burinref02_Not.calls k _ _ t471 t474 _ ?side1 ?side2 A7.out).mono ?_); (case side1 => exact cz (Kd.R_reads' HO473.out).2.2); (case side2 => exact (Kd.R_reads' HO473.out).2.1); rintro e w12 ⟨v475, rfl, ho0, hb⟩; refine ⟨_, rfl, ?_⟩; have HO476 := Aside0.mk (Kd.R_lower (Kd.R_new' ho0 (Kd.R_lt (rz HO473.out))) (below_size bz)); replace HO470 := Aside0.mk (Kd.R_below (rz HO470.out) hb); replace HO473 := Aside0.mk (Kd.R_elder' (rz HO473.out) (Kd.R_base ho0) hb); replace HB := hz hb; (try clear hb); (try clear ho0)))
   go_ret2
   exact ⟨_, fz, rz (R_all HO476.out), bz⟩
  replace c5 := Bool.eq_false_iff.mpr c5
  subst c5
  rw [if_neg (show ¬ (false = true) by decide)] at H
  replace H := Option.bind_eq_some_iff.mp H
  obtain ⟨t477, A130, H⟩ := H
  try dsimp only at H
  have A13 := Aside0.mk A130
  clear A130
  simp only [Option.some.injEq, Prod.mk.injEq] at H
  obtain ⟨rfl, rfl⟩ := H
  go_enter Tryz.func71, Tryz.ntmps71
  go_wp2_with (first | ((with_reducible refine gate_callee (f := 62) rfl ?_); refine goesL_ (some 10) rfl rfl Tryz.func62 kz rfl #[.string a0] rfl mz ?_; (with_reducible refine (burinref04_bare.calls a0 t465 false _ A2.out).mono ?_); rintro e w' ⟨rfl, ⟨nd, rfl⟩⟩; refine ⟨_, rfl, ?_⟩) | ((with_reducible refine gate_callee (f := 100) rfl ?_); refine goesL_ (some 15) rfl rfl Tryz.func100 kz rfl #[.string t465] rfl mz ?_; (with_reducible refine (burinref04_colon.calls t465 t467 true _ A3.out).mono ?_); rintro e w14 ⟨v469, rfl, ho0, hb⟩; refine ⟨_, rfl, ?_⟩; have HO470 := Aside0.mk (Kd.R_lower ho0 (below_size bz)); replace HB := hz hb; (try clear hb); (try clear ho0); obtain ⟨Ao15, co15, eo15⟩ := Kd.R_slice HO470.out; subst eo15) | ((with_reducible refine gate_callee (f := 60) rfl ?_); refine goesL_ (some 25) rfl rfl Tryz.func60 kz rfl #[.slice Ao15 t467.length co15] rfl mz ?_; (with_reducible refine (burinref04_list.calls k _ _ t467 t477 _ ?side1 ?side2 A13.out).mono ?_); (case side1 => exact cz (Kd.R_reads' HO470.out).2.2); (case side2 => exact (Kd.R_reads' HO470.out).2.1); rintro e w16 ⟨v478, rfl, ho0, hb⟩; refine ⟨_, rfl, ?_⟩; have HO479 := Aside0.mk (Kd.R_lower ho0 (below_size bz)); replace HO470 := Aside0.mk (Kd.R_below (rz HO470.out) hb); replace HB := hz hb; (try clear hb); (try clear ho0)))
  go_ret2
  exact ⟨_, fz, rz HO479.out, bz⟩
 replace c4 := Bool.eq_false_iff.mpr c4
 subst c4
 rw [if_neg (show ¬ (false = true) by decide)] at H
 simp only [Option.some.injEq, Prod.mk.injEq] at H
 obtain ⟨rfl, rfl⟩ := H
 go_enter Tryz.func71, Tryz.ntmps71
 go_wp2_with (first | ((with_reducible refine gate_callee (f := 62) rfl ?_); refine goesL_ (some 10) rfl rfl Tryz.func62 kz rfl #[.string a0] rfl mz ?_; (with_reducible refine (burinref04_bare.calls a0 t465 t466 _ A2.out).mono ?_); rintro e w' ⟨rfl, ⟨nd, rfl⟩⟩; refine ⟨_, rfl, ?_⟩) | ((with_reducible refine gate_callee (f := 100) rfl ?_); refine goesL_ (some 15) rfl rfl Tryz.func100 kz rfl #[.string t465] rfl mz ?_; (with_reducible refine (burinref04_colon.calls t465 t467 false _ A3.out).mono ?_); rintro e w17 ⟨v469, rfl, ho0, hb⟩; refine ⟨_, rfl, ?_⟩; have HO470 := Aside0.mk (Kd.R_lower ho0 (below_size bz)); replace HB := hz hb; (try clear hb); (try clear ho0)))
 go_ret2
 exact ⟨_, fz, by first | exact Kd.R_nil _ _ _ _ _ | exact Kd.N_nil _ _ _ _ _ | exact Kd.V_nil _ _ _ _ _ | exact Kd.Q_nil _ _ _ _ _ | exact Kd.S_nil _ _ _ _ _, bz⟩
mutual
def burinref07_Digit.j0 : Nat → Int → Bool → Option (Int)
 | 0, _, _ => none
 | k + 1, x0, x8 => if x8 = true then (some (wrap64 ((wrap64 (x0)) - 48))) else (if x0 ≥ 97 then (burinref07_Digit.j1 k x0 (decide (x0 ≤ 102))) else (burinref07_Digit.j1 k x0 false))
def burinref07_Digit.j1 : Nat → Int → Bool → Option (Int)
 | 0, _, _ => none
 | k + 1, x0, x17 => if x17 = true then (some (wrap64 ((wrap64 ((wrap64 (x0)) - 97)) + 10))) else (if x0 ≥ 65 then (if x0 ≤ 70 then (some (wrap64 ((wrap64 ((wrap64 (x0)) - 65)) + 10))) else (some (-1))) else (some (-1)))
end
def burinref07_Digit.f (k : Nat) (a0 : Int) : Option (Int) := if a0 ≥ 48 then (burinref07_Digit.j0 k a0 (decide (a0 ≤ 57))) else (burinref07_Digit.j0 k a0 false)
set_option maxHeartbeats 8000000 in
set_option maxRecDepth 100000 in
theorem burinref07_Digit.calls (k : Nat) (a0 : Int) (r : Int) (w : World) (h : burinref07_Digit.f k a0 = some r) :
  Calls Tryz.prog 55 #[.int .u8 a0] w fun e w' => e = .returned (.int .i64 r) ∧ Drawn0 w w' := by
 have H : (if a0 ≥ 48 then (burinref07_Digit.j0 k a0 (decide (a0 ≤ 57))) else (burinref07_Digit.j0 k a0 false)) = some r := h
 clear h
 have HC2 := Aside0.mk H
 clear H
 go_enter Tryz.func55, Tryz.ntmps55
 go_upto_region 1 with (fail)
 go_cut [8] (fun v8 wc => ∃ (kq : Nat) (x8_1 : Bool), v8 = .bool x8_1 ∧ Aside0 (burinref07_Digit.j0 kq a0 x8_1 = some r) ∧ Aside0 (kq ≤ k) ∧ Drawn0 w wc)
 case first =>
  have H := HC2.out
  clear HC2
  by_cases c3 : a0 ≥ 48
  ·rw [if_pos c3] at H
   have c3b0 : decide (48 ≤ a0) = true := decide_eq_true c3
   clear c3
   (first | rw [c3b0] | (simp only [i64_w, i32_w]; rw [c3b0]) | skip)
   have H' := Aside0.mk H
   clear H
   go_wp2
   go_meet
   case rel => exact ⟨_, (decide (a0 ≤ 57)), ez, H', ⟨by first | omega | exact Nat.le_refl _⟩, dz⟩
  rw [if_neg c3] at H
  have c3b0 : decide (48 ≤ a0) = false := decide_eq_false c3
  clear c3
  (first | rw [c3b0] | (simp only [i64_w, i32_w]; rw [c3b0]) | skip)
  have H' := Aside0.mk H
  clear H
  go_wp2
  go_meet
  case rel => exact ⟨_, (false), ez, H', ⟨by first | omega | exact Nat.le_refl _⟩, dz⟩
 clear HC2
 try clear p2
 try clear c3
 try clear c3b0
 obtain ⟨kq, x8_1, rfl, HA, HJ1, ⟨mc1, rfl⟩⟩ := hcut
 cases kq with
 | zero => exact absurd HA.out (by simp [burinref07_Digit.j0])
 | succ kj1 =>
  have H := HA.out
  clear HA
  simp only [burinref07_Digit.j0] at H
  by_cases c4 : x8_1 = true
  ·subst c4
   rw [if_pos rfl] at H
   obtain rfl := Option.some.inj H
   go_wp2
   go_ret
   exact ⟨ez, dz⟩
  replace c4 := Bool.eq_false_iff.mpr c4
  subst c4
  rw [if_neg (show ¬ (false = true) by decide)] at H
  have HC5 := Aside0.mk H
  clear H
  go_upto_region 3 with (fail)
  go_cut [17] (fun v17 wc => ∃ (kq : Nat) (x17_4 : Bool), v17 = .bool x17_4 ∧ Aside0 (burinref07_Digit.j1 kq a0 x17_4 = some r) ∧ Aside0 (kq ≤ kj1) ∧ Drawn0 w wc)
  case first =>
   have H := HC5.out
   clear HC5
   by_cases c6 : a0 ≥ 97
   ·rw [if_pos c6] at H
    have c6b0 : decide (97 ≤ a0) = true := decide_eq_true c6
    clear c6
    (first | rw [c6b0] | (simp only [i64_w, i32_w]; rw [c6b0]) | skip)
    have H' := Aside0.mk H
    clear H
    go_wp2
    go_meet
    case rel => exact ⟨_, (decide (a0 ≤ 102)), ez, H', ⟨by have := HJ1.out; first | omega | exact Nat.le_refl _⟩, dz⟩
   rw [if_neg c6] at H
   have c6b0 : decide (97 ≤ a0) = false := decide_eq_false c6
   clear c6
   (first | rw [c6b0] | (simp only [i64_w, i32_w]; rw [c6b0]) | skip)
   have H' := Aside0.mk H
   clear H
   go_wp2
   go_meet
   case rel => exact ⟨_, (false), ez, H', ⟨by have := HJ1.out; first | omega | exact Nat.le_refl _⟩, dz⟩
  clear HC5
  try clear c1
  try clear p2
  try clear c3
  try clear c3b0
  try clear c4
  try clear c5
  try clear c6
  try clear c6b0
  try clear p6
  try clear p2
  obtain ⟨kq, x17_4, rfl, HA, HJ4, ⟨mc4, rfl⟩⟩ := hcut
  cases kq with
  | zero => exact absurd HA.out (by simp [burinref07_Digit.j1])
  | succ kj4 =>
   have H := HA.out
   clear HA
   simp only [burinref07_Digit.j1] at H
   by_cases c7 : x17_4 = true
   ·subst c7
    rw [if_pos rfl] at H
    obtain rfl := Option.some.inj H
    go_wp2
    go_ret
    exact ⟨ez, dz⟩
   replace c7 := Bool.eq_false_iff.mpr c7
   subst c7
   rw [if_neg (show ¬ (false = true) by decide)] at H
   by_cases c8 : a0 ≥ 65
   ·rw [if_pos c8] at H
    have c8b0 : decide (65 ≤ a0) = true := decide_eq_true c8
    clear c8
    by_cases c9 : a0 ≤ 70
    ·rw [if_pos c9] at H
     have c9b0 := decide_eq_true c9
     clear c9
     obtain rfl := Option.some.inj H
     go_wp2
     go_ret
     exact ⟨ez, dz⟩
    rw [if_neg c9] at H
    have c9b0 := decide_eq_false c9
    clear c9
    obtain rfl := Option.some.inj H
    go_wp2
    go_ret
    exact ⟨ez, dz⟩
   rw [if_neg c8] at H
   have c8b0 : decide (65 ≤ a0) = false := decide_eq_false c8
   clear c8
   obtain rfl := Option.some.inj H
   go_wp2
   go_ret
   exact ⟨ez, dz⟩
mutual
def burinref07_hex.j0 : Nat → ByteArray → Bool → Option (Int × Int × Int)
 | 0, _, _ => none
 | k + 1, x0, x5 => if x5 = true then (burinref07_hex.j1 k x0 x5 3 6) else (burinref07_hex.j1 k x0 x5 2 2)
def burinref07_hex.j1 : Nat → ByteArray → Bool → Int → Int → Option (Int × Int × Int)
 | 0, _, _, _, _ => none
 | k + 1, x0, x5, x6, x7 => burinref07_hex.l0 k x0 x5 x6 x7 0 0
def burinref07_hex.l0 : Nat → ByteArray → Bool → Int → Int → Int → Int → Option (Int × Int × Int)
 | 0, _, _, _, _, _, _ => none
 | k + 1, x0, x5, x6, x7, x8, x9 => if x9 = x7 then (burinref07_hex.j3 k x0 x5 x6 x7 x8 x9 (!x5)) else (burinref07_hex.j3 k x0 x5 x6 x7 x8 x9 false)
def burinref07_hex.j3 : Nat → ByteArray → Bool → Int → Int → Int → Int → Bool → Option (Int × Int × Int)
 | 0, _, _, _, _, _, _, _ => none
 | k + 1, x0, x5, x6, x7, x8, x9, x26 => if x26 = true then (some (x8, x6, 0)) else (if x6 ≥ (x0.size : Int) then (some (0, 0, 82)) else (if x5 = true then (if 0 ≤ x6 then (if x6 < (x0.size : Int) then (if (bt x0 x6) = 125 then (if x9 > 0 then (burinref07_hex.j4 k x0 x5 x6 x7 x8 x9 (decide (x8 ≤ 1114111))) else (burinref07_hex.j4 k x0 x5 x6 x7 x8 x9 false)) else (burinref07_hex.j4 k x0 x5 x6 x7 x8 x9 false)) else (none)) else (none)) else (burinref07_hex.j4 k x0 x5 x6 x7 x8 x9 false)))
def burinref07_hex.j4 : Nat → ByteArray → Bool → Int → Int → Int → Int → Bool → Option (Int × Int × Int)
 | 0, _, _, _, _, _, _, _ => none
 | k + 1, x0, x5, x6, x7, x8, x9, x47 => if x47 = true then (some (x8, wrap64 (x6 + 1), 0)) else (if 0 ≤ x6 then (if x6 < (x0.size : Int) then ((burinref07_Digit.f k (bt x0 x6)).bind fun t480 => (if t480 < 0 then (some (0, 0, 80)) else (if x9 = x7 then (some (0, 0, 80)) else (burinref07_hex.l0 k x0 x5 (wrap64 (x6 + 1)) x7 (wrap64 ((wrap64 (x8 * 16)) + t480)) (wrap64 (x9 + 1)))))) else (none)) else (none))
end
def burinref07_hex.f (k : Nat) (a0 : ByteArray) : Option (Int × Int × Int) := if (a0.size : Int) > 2 then (if 2 < (a0.size : Int) then (burinref07_hex.j0 k a0 ((bt a0 2) == 123)) else (none)) else (burinref07_hex.j0 k a0 false)
set_option maxHeartbeats 8000000 in
set_option maxRecDepth 100000 in
theorem burinref07_hex.calls (k : Nat) (a0 : ByteArray) (r1 : Int) (r2 : Int) (r3 : Int) (w : World) (h : burinref07_hex.f k a0 = some (r1, r2, r3)) :
  Calls Tryz.prog 28 #[.string a0] w fun e w' => e = .returned (.tuple #[.int .i64 r1, .int .i64 r2, .int .i64 r3]) ∧ Drawn0 w w' := by
 have H : (if (a0.size : Int) > 2 then (if 2 < (a0.size : Int) then (burinref07_hex.j0 k a0 ((bt a0 2) == 123)) else (none)) else (burinref07_hex.j0 k a0 false)) = some (r1, r2, r3) := h
 clear h
 have HC2 := Aside0.mk H
 clear H
 go_enter Tryz.func28, Tryz.ntmps28
 go_upto_region 1 with (fail)
 go_cut [5] (fun v5 wc => ∃ (kq : Nat) (x5_1 : Bool), v5 = .bool x5_1 ∧ Aside0 (burinref07_hex.j0 kq a0 x5_1 = some (r1, r2, r3)) ∧ Aside0 (kq ≤ k) ∧ Drawn0 w wc)
 case first =>
  have H := HC2.out
  clear HC2
  by_cases c3 : (a0.size : Int) > 2
  ·rw [if_pos c3] at H
   have c3b0 : decide (2 < (a0.size : Int)) = true := decide_eq_true c3
   have c3b1 : decide (2 < a0.size) = true := decide_eq_true (by omega)
   clear c3
   (first | rw [c3b0] | (simp only [i64_w, i32_w]; rw [c3b0]) | skip)
   by_cases c4 : 2 < (a0.size : Int)
   rotate_left
   ·exact nomatch (if_neg c4).symm.trans H
   rw [if_pos c4] at H
   have c4b0 := decide_eq_true c4
   have c4b1 : decide (2 < a0.size) = true := decide_eq_true (by omega)
   clear c4
   have H' := Aside0.mk H
   clear H
   have q5 : 2 < a0.size := (by have : (2 : Int) < (a0.size : Int) := oz; omega)
   have hx5 : ∀ h : 2 < a0.size, ((a0[2]'h).toNat : Int) = bt a0 2 := bt_at a0 2
   have qi5 : (2 < (a0.size : Int)) = True := eq_true (oz)
   replace q5 := eq_true q5
   go_wp2
   go_meet
   case rel => exact ⟨_, (((bt a0 2) == 123)), ez, H', ⟨by first | omega | exact Nat.le_refl _⟩, dz⟩
  rw [if_neg c3] at H
  have c3b0 : decide (2 < (a0.size : Int)) = false := decide_eq_false c3
  have c3b1 : decide (2 < a0.size) = false := decide_eq_false (by omega)
  clear c3
  (first | rw [c3b0] | (simp only [i64_w, i32_w]; rw [c3b0]) | skip)
  have H' := Aside0.mk H
  clear H
  go_wp2
  go_meet
  case rel => exact ⟨_, (false), ez, H', ⟨by first | omega | exact Nat.le_refl _⟩, dz⟩
 clear HC2
 try clear c2
 try clear p2
 try clear c3
 try clear c3b0 c3b1
 try clear c4
 try clear c4b0 c4b1
 try clear p5
 try clear q5
 try clear hx5
 try clear qi5
 try clear p5
 try clear q5
 obtain ⟨kq, x5_1, rfl, HA, HJ1, ⟨mc1, rfl⟩⟩ := hcut
 cases kq with
 | zero => exact absurd HA.out (by simp [burinref07_hex.j0])
 | succ kj1 =>
  have H := HA.out
  clear HA
  simp only [burinref07_hex.j0] at H
  have HC6 := Aside0.mk H
  clear H
  go_upto_if 19 with (fail)
  go_cut [6, 7] (fun v6 v7 wc => ∃ (kq : Nat) (x6_5 : Int) (x7_5 : Int), v6 = .int .i64 x6_5 ∧ v7 = .int .i64 x7_5 ∧ Aside0 (burinref07_hex.j1 kq a0 x5_1 x6_5 x7_5 = some (r1, r2, r3)) ∧ Aside0 (kq ≤ kj1) ∧ Drawn0 w wc)
  case first =>
   have H := HC6.out
   clear HC6
   by_cases c7 : x5_1 = true
   ·subst c7
    rw [if_pos rfl] at H
    have H' := Aside0.mk H
    clear H
    go_wp2
    go_meet
    case rel => exact ⟨_, (3), (6), ez, ez, H', ⟨by have := HJ1.out; first | omega | exact Nat.le_refl _⟩, dz⟩
   replace c7 := Bool.eq_false_iff.mpr c7
   subst c7
   rw [if_neg (show ¬ (false = true) by decide)] at H
   have H' := Aside0.mk H
   clear H
   go_wp2
   go_meet
   case rel => exact ⟨_, (2), (2), ez, ez, H', ⟨by have := HJ1.out; first | omega | exact Nat.le_refl _⟩, dz⟩
  clear HC6
  try clear c1
  try clear c2
  try clear p2
  try clear c3
  try clear c3b0 c3b1
  try clear c4
  try clear c4b0 c4b1
  try clear p5
  try clear q5
  try clear hx5
  try clear qi5
  try clear c7
  try clear p2
  try clear p5
  try clear q5
  obtain ⟨kq, x6_5, x7_5, rfl, rfl, HA, HJ5, ⟨mc5, rfl⟩⟩ := hcut
  cases kq with
  | zero => exact absurd HA.out (by simp [burinref07_hex.j1])
  | succ kj5 =>
   have H := HA.out
   clear HA
   simp only [burinref07_hex.j1] at H
   have H' := Aside0.mk H
   clear H
   go_wp2
   go_loopg [6, 8, 9] kj5 (fun kq v6 v8 v9 w' => ∃ (x6_3 : Int) (x8_3 : Int) (x9_3 : Int), v6 = .int .i64 x6_3 ∧ v8 = .int .i64 x8_3 ∧ v9 = .int .i64 x9_3 ∧ Aside0 (burinref07_hex.l0 kq a0 x5_1 x6_3 x7_5 x8_3 x9_3 = some (r1, r2, r3)) ∧ Aside0 (kq ≤ kj5) ∧ Drawn0 w w')
   case atStart => exact ⟨(x6_5), (0), (0), ez, ez, ez, H', ⟨Nat.le_refl _⟩, dz⟩
   clear H'
   try clear c1
   try clear c2
   try clear p2
   try clear c3
   try clear c3b0 c3b1
   try clear c4
   try clear c4b0 c4b1
   try clear c5
   try clear p5
   try clear q5
   try clear hx5
   try clear qi5
   try clear c7
   try clear p2
   try clear p5
   try clear q5
   obtain ⟨x6_3, x8_3, x9_3, rfl, rfl, rfl, HA, HK3, ⟨m3, rfl⟩⟩ := hrel
   cases gk with
   | zero => exact absurd HA.out (by simp [burinref07_hex.l0])
   | succ k3 =>
    have H := HA.out
    clear HA
    simp only [burinref07_hex.l0] at H
    have HC8 := Aside0.mk H
    clear H
    go_upto_region 6 with (fail)
    go_cut [26] (fun v26 wc => ∃ (kq : Nat) (x26_7 : Bool), v26 = .bool x26_7 ∧ Aside0 (burinref07_hex.j3 kq a0 x5_1 x6_3 x7_5 x8_3 x9_3 x26_7 = some (r1, r2, r3)) ∧ Aside0 (kq ≤ k3) ∧ Drawn0 w wc)
    case first =>
     have H := HC8.out
     clear HC8
     by_cases c9 : x9_3 = x7_5
     ·rw [if_pos c9] at H
      have c9b0 := beq_iff_eq.mpr c9
      have c9b1 := bne_eq_false_iff_eq.mpr c9
      clear c9
      (first | rw [c9b0] | (simp only [i64_w, i32_w]; rw [c9b0]) | skip)
      have H' := Aside0.mk H
      clear H
      go_wp2
      go_meet
      case rel => exact ⟨_, (!x5_1), ez, H', ⟨by have := HJ1.out; have := HJ5.out; have := HK3.out; first | omega | exact Nat.le_refl _⟩, dz⟩
     rw [if_neg c9] at H
     have c9b0 := beq_eq_false_iff_ne.mpr c9
     have c9b1 := bne_iff_ne.mpr c9
     (first | rw [c9b0] | (simp only [i64_w, i32_w]; rw [c9b0]) | skip)
     have H' := Aside0.mk H
     clear H
     go_wp2
     go_meet
     case rel => exact ⟨_, (false), ez, H', ⟨by have := HJ1.out; have := HJ5.out; have := HK3.out; first | omega | exact Nat.le_refl _⟩, dz⟩
    clear HC8
    try clear c1
    try clear c2
    try clear p2
    try clear c3
    try clear c3b0 c3b1
    try clear c4
    try clear c4b0 c4b1
    try clear c5
    try clear p5
    try clear q5
    try clear hx5
    try clear qi5
    try clear c7
    try clear c9
    try clear c9b0 c9b1
    try clear p2
    try clear p5
    try clear q5
    obtain ⟨kq, x26_7, rfl, HA, HJ7, ⟨mc7, rfl⟩⟩ := hcut
    cases kq with
    | zero => exact absurd HA.out (by simp [burinref07_hex.j3])
    | succ kj7 =>
     have H := HA.out
     clear HA
     simp only [burinref07_hex.j3] at H
     by_cases c10 : x26_7 = true
     ·subst c10
      rw [if_pos rfl] at H
      simp only [Option.some.injEq, Prod.mk.injEq] at H
      obtain ⟨rfl, rfl, rfl⟩ := H
      go_wp2
      go_ret3
      exact ⟨ez, dz⟩
     replace c10 := Bool.eq_false_iff.mpr c10
     subst c10
     rw [if_neg (show ¬ (false = true) by decide)] at H
     by_cases c11 : x6_3 ≥ (a0.size : Int)
     ·rw [if_pos c11] at H
      have c11b0 : decide ((a0.size : Int) ≤ x6_3) = true := decide_eq_true c11
      clear c11
      simp only [Option.some.injEq, Prod.mk.injEq] at H
      obtain ⟨rfl, rfl, rfl⟩ := H
      go_wp2
      go_ret3
      exact ⟨ez, dz⟩
     rw [if_neg c11] at H
     have c11b0 : decide ((a0.size : Int) ≤ x6_3) = false := decide_eq_false c11
     clear c11
     have HC12 := Aside0.mk H
     clear H
     go_upto_region 10 with (fail)
     go_cut [47] (fun v47 wc => ∃ (kq : Nat) (x47_11 : Bool), v47 = .bool x47_11 ∧ Aside0 (burinref07_hex.j4 kq a0 x5_1 x6_3 x7_5 x8_3 x9_3 x47_11 = some (r1, r2, r3)) ∧ Aside0 (kq ≤ kj7) ∧ Drawn0 w wc)
     case first =>
      have H := HC12.out
      clear HC12
      by_cases c13 : x5_1 = true
      ·subst c13
       rw [if_pos rfl] at H
       by_cases c14 : 0 ≤ x6_3
       rotate_left
       ·exact nomatch (if_neg c14).symm.trans H
       rw [if_pos c14] at H
       have c14b0 := decide_eq_true c14
       clear c14
       (first | rw [c14b0] | (simp only [i64_w, i32_w]; rw [c14b0]) | skip)
       by_cases c15 : x6_3 < (a0.size : Int)
       rotate_left
       ·exact nomatch (if_neg c15).symm.trans H
       rw [if_pos c15] at H
       have c15b0 := decide_eq_true c15
       clear c15
       by_cases c17 : (bt a0 x6_3) = 125
       ·rw [if_pos c17] at H
        have c17b0 := beq_iff_eq.mpr c17
        have c17b1 := bne_eq_false_iff_eq.mpr c17
        clear c17
        by_cases c18 : x9_3 > 0
        ·rw [if_pos c18] at H
         have c18b0 : decide (0 < x9_3) = true := decide_eq_true c18
         clear c18
         have H' := Aside0.mk H
         clear H
         have p16 : 0 ≤ (x6_3 : Int) := oz
         have q16 : x6_3 < (a0.size : Int) := oz
         have hx16 := bt_at a0 x6_3
         replace p16 := eq_true p16
         replace q16 := eq_true q16
         go_wp2
         go_meet
         case rel => exact ⟨_, (decide (x8_3 ≤ 1114111)), ez, H', ⟨by have := HJ1.out; have := HJ5.out; have := HK3.out; have := HJ7.out; first | omega | exact Nat.le_refl _⟩, dz⟩
        rw [if_neg c18] at H
        have c18b0 : decide (0 < x9_3) = false := decide_eq_false c18
        clear c18
        have H' := Aside0.mk H
        clear H
        have p16 : 0 ≤ (x6_3 : Int) := oz
        have q16 : x6_3 < (a0.size : Int) := oz
        have hx16 := bt_at a0 x6_3
        replace p16 := eq_true p16
        replace q16 := eq_true q16
        go_wp2
        go_meet
        case rel => exact ⟨_, (false), ez, H', ⟨by have := HJ1.out; have := HJ5.out; have := HK3.out; have := HJ7.out; first | omega | exact Nat.le_refl _⟩, dz⟩
       rw [if_neg c17] at H
       have c17b0 := beq_eq_false_iff_ne.mpr c17
       have c17b1 := bne_iff_ne.mpr c17
       have H' := Aside0.mk H
       clear H
       have p16 : 0 ≤ (x6_3 : Int) := oz
       have q16 : x6_3 < (a0.size : Int) := oz
       have hx16 := bt_at a0 x6_3
       replace p16 := eq_true p16
       replace q16 := eq_true q16
       go_wp2
       go_meet
       case rel => exact ⟨_, (false), ez, H', ⟨by have := HJ1.out; have := HJ5.out; have := HK3.out; have := HJ7.out; first | omega | exact Nat.le_refl _⟩, dz⟩
      replace c13 := Bool.eq_false_iff.mpr c13
      subst c13
      rw [if_neg (show ¬ (false = true) by decide)] at H
      have H' := Aside0.mk H
      clear H
      go_wp2
      go_meet
      case rel => exact ⟨_, (false), ez, H', ⟨by have := HJ1.out; have := HJ5.out; have := HK3.out; have := HJ7.out; first | omega | exact Nat.le_refl _⟩, dz⟩
     clear HC12
     try clear c1
     try clear p1
     try clear q1
     try clear hx1
     try clear c2
     try clear p2
     try clear c3
     try clear c3b0 c3b1
     try clear c4
     try clear c4b0 c4b1
     try clear c5
     try clear p5
     try clear q5
     try clear hx5
     try clear qi5
     try clear c7
     try clear c9
     try clear c9b0 c9b1
     try clear c10
     try clear c11
     try clear c11b0
     try clear c13
     try clear c14
     try clear c14b0
     try clear c15
     try clear c15b0
     try clear p16
     try clear q16
     try clear hx16
     try clear c17
     try clear c17b0 c17b1
     try clear c18
     try clear c18b0
     try clear p16
     try clear p2
     try clear p5
     try clear q16
     try clear q5
     obtain ⟨kq, x47_11, rfl, HA, HJ11, ⟨mc11, rfl⟩⟩ := hcut
     cases kq with
     | zero => exact absurd HA.out (by simp [burinref07_hex.j4])
     | succ kj11 =>
      have H := HA.out
      clear HA
      simp only [burinref07_hex.j4] at H
      by_cases c19 : x47_11 = true
      ·subst c19
       rw [if_pos rfl] at H
       simp only [Option.some.injEq, Prod.mk.injEq] at H
       obtain ⟨rfl, rfl, rfl⟩ := H
       go_wp2
       go_ret3
       exact ⟨ez, dz⟩
      replace c19 := Bool.eq_false_iff.mpr c19
      subst c19
      rw [if_neg (show ¬ (false = true) by decide)] at H
      by_cases c20 : 0 ≤ x6_3
      rotate_left
      ·exact nomatch (if_neg c20).symm.trans H
      rw [if_pos c20] at H
      have c20b0 := decide_eq_true c20
      clear c20
      by_cases c21 : x6_3 < (a0.size : Int)
      rotate_left
      ·exact nomatch (if_neg c21).symm.trans H
      rw [if_pos c21] at H
      have c21b0 := decide_eq_true c21
      clear c21
      replace H := Option.bind_eq_some_iff.mp H
      obtain ⟨t480, A230, H⟩ := H
      try dsimp only at H
      have A23 := Aside0.mk A230
      clear A230
      by_cases c24 : t480 < 0
      ·rw [if_pos c24] at H
       have c24b0 := decide_eq_true c24
       clear c24
       simp only [Option.some.injEq, Prod.mk.injEq] at H
       obtain ⟨rfl, rfl, rfl⟩ := H
       have p22 : 0 ≤ (x6_3 : Int) := oz
       have q22 : x6_3 < (a0.size : Int) := oz
       have hx22 := bt_at a0 x6_3
       replace p22 := eq_true p22
       replace q22 := eq_true q22
       go_wp2_with (first | ((with_reducible refine gate_callee (f := 55) rfl ?_); refine goesL_ (some 54) rfl rfl Tryz.func55 kz rfl #[.int .u8 (bt a0 x6_3)] rfl mz ?_; (with_reducible refine (burinref07_Digit.calls kj11 (bt a0 x6_3) t480 _ A23.out).mono ?_); rintro e w' ⟨rfl, ⟨nd, rfl⟩⟩; refine ⟨_, rfl, ?_⟩))
       go_ret3
       exact ⟨ez, dz⟩
      rw [if_neg c24] at H
      have c24b0 := decide_eq_false c24
      clear c24
      by_cases c25 : x9_3 = x7_5
      ·rw [if_pos c25] at H
       have c25b0 := beq_iff_eq.mpr c25
       have c25b1 := bne_eq_false_iff_eq.mpr c25
       clear c25
       simp only [Option.some.injEq, Prod.mk.injEq] at H
       obtain ⟨rfl, rfl, rfl⟩ := H
       have p22 : 0 ≤ (x6_3 : Int) := oz
       have q22 : x6_3 < (a0.size : Int) := oz
       have hx22 := bt_at a0 x6_3
       replace p22 := eq_true p22
       replace q22 := eq_true q22
       go_wp2_with (first | ((with_reducible refine gate_callee (f := 55) rfl ?_); refine goesL_ (some 54) rfl rfl Tryz.func55 kz rfl #[.int .u8 (bt a0 x6_3)] rfl mz ?_; (with_reducible refine (burinref07_Digit.calls kj11 (bt a0 x6_3) t480 _ A23.out).mono ?_); rintro e w' ⟨rfl, ⟨nd, rfl⟩⟩; refine ⟨_, rfl, ?_⟩))
       go_ret3
       exact ⟨ez, dz⟩
      rw [if_neg c25] at H
      have c25b0 := beq_eq_false_iff_ne.mpr c25
      have c25b1 := bne_iff_ne.mpr c25
      have H' := Aside0.mk H
      clear H
      have p22 : 0 ≤ (x6_3 : Int) := oz
      have q22 : x6_3 < (a0.size : Int) := oz
      have hx22 := bt_at a0 x6_3
      replace p22 := eq_true p22
      replace q22 := eq_true q22
      go_wp2_with (first | ((with_reducible refine gate_callee (f := 55) rfl ?_); refine goesL_ (some 54) rfl rfl Tryz.func55 kz rfl #[.int .u8 (bt a0 x6_3)] rfl mz ?_; (with_reducible refine (burinref07_Digit.calls kj11 (bt a0 x6_3) t480 _ A23.out).mono ?_); rintro e w' ⟨rfl, ⟨nd, rfl⟩⟩; refine ⟨_, rfl, ?_⟩))
      go_roundg kj11
      case measure => have := HJ1.out; have := HJ5.out; have := HK3.out; have := HJ7.out; have := HJ11.out; omega
      case rel => exact ⟨(wrap64 (x6_3 + 1)), (wrap64 ((wrap64 (x8_3 * 16)) + t480)), (wrap64 (x9_3 + 1)), ez, ez, ez, H', ⟨by have := HJ1.out; have := HJ5.out; have := HK3.out; have := HJ7.out; have := HJ11.out; omega⟩, dz⟩
def burinref07_Number.j0 : Nat → ByteArray → Bool → Option (Int × Int × Int)
 | 0, _, _ => none
 | k + 1, x0, x12 => if x12 = true then (some (0, 0, 3)) else (if (x0.size : Int) = 1 then (some (0, 0, 82)) else (if 1 < (x0.size : Int) then (if (bt x0 1) = 97 then (some (7, 2, 0)) else (if (bt x0 1) = 102 then (some (12, 2, 0)) else (if (bt x0 1) = 116 then (some (9, 2, 0)) else (if (bt x0 1) = 110 then (some (10, 2, 0)) else (if (bt x0 1) = 114 then (some (13, 2, 0)) else (if (bt x0 1) = 118 then (some (11, 2, 0)) else (if (bt x0 1) = 120 then ((burinref07_hex.f k x0).bind fun bt481 => (some (bt481.1, bt481.2.1, bt481.2.2))) else (if (bt x0 1) < 33 then (some (0, 0, 80)) else (if (bt x0 1) > 126 then (some (0, 0, 80)) else ((burinref07_Letter.f (bt x0 1)).bind fun t484 => (if t484 = true then (some (0, 0, 80)) else (if (bt x0 1) ≥ 48 then (if (bt x0 1) ≤ 57 then (some (0, 0, 80)) else (some (wrap64 (bt x0 1), 2, 0))) else (some (wrap64 (bt x0 1), 2, 0)))))))))))))) else (none)))
def burinref07_Number.f (k : Nat) (a0 : ByteArray) : Option (Int × Int × Int) := if (a0.size : Int) = 0 then (burinref07_Number.j0 k a0 true) else (if 0 < (a0.size : Int) then (burinref07_Number.j0 k a0 ((bt a0 0) != 92)) else (none))
set_option maxHeartbeats 8000000 in
set_option maxRecDepth 100000 in
theorem burinref07_Number.calls (k : Nat) (a0 : ByteArray) (r1 : Int) (r2 : Int) (r3 : Int) (w : World) (h : burinref07_Number.f k a0 = some (r1, r2, r3)) :
  Calls Tryz.prog 10 #[.string a0] w fun e w' => e = .returned (.tuple #[.int .i64 r1, .int .i64 r2, .int .i64 r3]) ∧ Drawn0 w w' := by
 have H : (if (a0.size : Int) = 0 then (burinref07_Number.j0 k a0 true) else (if 0 < (a0.size : Int) then (burinref07_Number.j0 k a0 ((bt a0 0) != 92)) else (none))) = some (r1, r2, r3) := h
 clear h
 have HC2 := Aside0.mk H
 clear H
 go_enter Tryz.func10, Tryz.ntmps10
 go_upto_region 1 with (fail)
 go_cut [12] (fun v12 wc => ∃ (kq : Nat) (x12_1 : Bool), v12 = .bool x12_1 ∧ Aside0 (burinref07_Number.j0 kq a0 x12_1 = some (r1, r2, r3)) ∧ Aside0 (kq ≤ k) ∧ Drawn0 w wc)
 case first =>
  have H := HC2.out
  clear HC2
  by_cases c3 : (a0.size : Int) = 0
  ·rw [if_pos c3] at H
   have c3b0 := beq_iff_eq.mpr c3
   have c3b1 := bne_eq_false_iff_eq.mpr c3
   clear c3
   (first | rw [c3b0] | (simp only [i64_w, i32_w]; rw [c3b0]) | skip)
   have H' := Aside0.mk H
   clear H
   go_wp2
   go_meet
   case rel => exact ⟨_, (true), ez, H', ⟨by first | omega | exact Nat.le_refl _⟩, dz⟩
  rw [if_neg c3] at H
  have c3b0 := beq_eq_false_iff_ne.mpr c3
  have c3b1 := bne_iff_ne.mpr c3
  (first | rw [c3b0] | (simp only [i64_w, i32_w]; rw [c3b0]) | skip)
  by_cases c4 : 0 < (a0.size : Int)
  rotate_left
  ·exact nomatch (if_neg c4).symm.trans H
  rw [if_pos c4] at H
  have c4b0 := decide_eq_true c4
  have c4b1 : decide (0 < a0.size) = true := decide_eq_true (by omega)
  clear c4
  have H' := Aside0.mk H
  clear H
  have q5 : 0 < a0.size := (by have : (0 : Int) < (a0.size : Int) := oz; omega)
  have hx5 : ∀ h : 0 < a0.size, ((a0[0]'h).toNat : Int) = bt a0 0 := bt_at a0 0
  have qi5 : (0 < (a0.size : Int)) = True := eq_true (oz)
  replace q5 := eq_true q5
  go_wp2
  go_meet
  case rel => exact ⟨_, (((bt a0 0) != 92)), ez, H', ⟨by first | omega | exact Nat.le_refl _⟩, dz⟩
 clear HC2
 try clear c1
 try clear p2
 try clear c3
 try clear c3b0 c3b1
 try clear c4
 try clear c4b0 c4b1
 try clear p5
 try clear q5
 try clear hx5
 try clear qi5
 try clear p5
 try clear q5
 obtain ⟨kq, x12_1, rfl, HA, HJ1, ⟨mc1, rfl⟩⟩ := hcut
 cases kq with
 | zero => exact absurd HA.out (by simp [burinref07_Number.j0])
 | succ kj1 =>
  have H := HA.out
  clear HA
  simp only [burinref07_Number.j0] at H
  by_cases c6 : x12_1 = true
  ·subst c6
   rw [if_pos rfl] at H
   simp only [Option.some.injEq, Prod.mk.injEq] at H
   obtain ⟨rfl, rfl, rfl⟩ := H
   go_wp2
   go_ret3
   exact ⟨ez, dz⟩
  replace c6 := Bool.eq_false_iff.mpr c6
  subst c6
  rw [if_neg (show ¬ (false = true) by decide)] at H
  by_cases c7 : (a0.size : Int) = 1
  ·rw [if_pos c7] at H
   have c7b0 := beq_iff_eq.mpr c7
   have c7b1 := bne_eq_false_iff_eq.mpr c7
   clear c7
   simp only [Option.some.injEq, Prod.mk.injEq] at H
   obtain ⟨rfl, rfl, rfl⟩ := H
   go_wp2
   go_ret3
   exact ⟨ez, dz⟩
  rw [if_neg c7] at H
  have c7b0 := beq_eq_false_iff_ne.mpr c7
  have c7b1 := bne_iff_ne.mpr c7
  by_cases c8 : 1 < (a0.size : Int)
  rotate_left
  ·exact nomatch (if_neg c8).symm.trans H
  rw [if_pos c8] at H
  have c8b0 := decide_eq_true c8
  have c8b1 : decide (1 < a0.size) = true := decide_eq_true (by omega)
  clear c8
  by_cases c10 : (bt a0 1) = 97
  ·rw [if_pos c10] at H
   have c10b0 := beq_iff_eq.mpr c10
   have c10b1 := bne_eq_false_iff_eq.mpr c10
   clear c10
   simp only [Option.some.injEq, Prod.mk.injEq] at H
   obtain ⟨rfl, rfl, rfl⟩ := H
   have q9 : 1 < a0.size := (by have : (1 : Int) < (a0.size : Int) := oz; omega)
   have hx9 : ∀ h : 1 < a0.size, ((a0[1]'h).toNat : Int) = bt a0 1 := bt_at a0 1
   have qi9 : (1 < (a0.size : Int)) = True := eq_true (oz)
   replace q9 := eq_true q9
   go_wp2
   go_ret3
   exact ⟨ez, dz⟩
  rw [if_neg c10] at H
  have c10b0 := beq_eq_false_iff_ne.mpr c10
  have c10b1 := bne_iff_ne.mpr c10
  by_cases c11 : (bt a0 1) = 102
  ·rw [if_pos c11] at H
   have c11b0 := beq_iff_eq.mpr c11
   have c11b1 := bne_eq_false_iff_eq.mpr c11
   clear c11
   simp only [Option.some.injEq, Prod.mk.injEq] at H
   obtain ⟨rfl, rfl, rfl⟩ := H
   have q9 : 1 < a0.size := (by have : (1 : Int) < (a0.size : Int) := oz; omega)
   have hx9 : ∀ h : 1 < a0.size, ((a0[1]'h).toNat : Int) = bt a0 1 := bt_at a0 1
   have qi9 : (1 < (a0.size : Int)) = True := eq_true (oz)
   replace q9 := eq_true q9
   go_wp2
   go_ret3
   exact ⟨ez, dz⟩
  rw [if_neg c11] at H
  have c11b0 := beq_eq_false_iff_ne.mpr c11
  have c11b1 := bne_iff_ne.mpr c11
  by_cases c12 : (bt a0 1) = 116
  ·rw [if_pos c12] at H
   have c12b0 := beq_iff_eq.mpr c12
   have c12b1 := bne_eq_false_iff_eq.mpr c12
   clear c12
   simp only [Option.some.injEq, Prod.mk.injEq] at H
   obtain ⟨rfl, rfl, rfl⟩ := H
   have q9 : 1 < a0.size := (by have : (1 : Int) < (a0.size : Int) := oz; omega)
   have hx9 : ∀ h : 1 < a0.size, ((a0[1]'h).toNat : Int) = bt a0 1 := bt_at a0 1
   have qi9 : (1 < (a0.size : Int)) = True := eq_true (oz)
   replace q9 := eq_true q9
   go_wp2
   go_ret3
   exact ⟨ez, dz⟩
  rw [if_neg c12] at H
  have c12b0 := beq_eq_false_iff_ne.mpr c12
  have c12b1 := bne_iff_ne.mpr c12
  by_cases c13 : (bt a0 1) = 110
  ·rw [if_pos c13] at H
   have c13b0 := beq_iff_eq.mpr c13
   have c13b1 := bne_eq_false_iff_eq.mpr c13
   clear c13
   simp only [Option.some.injEq, Prod.mk.injEq] at H
   obtain ⟨rfl, rfl, rfl⟩ := H
   have q9 : 1 < a0.size := (by have : (1 : Int) < (a0.size : Int) := oz; omega)
   have hx9 : ∀ h : 1 < a0.size, ((a0[1]'h).toNat : Int) = bt a0 1 := bt_at a0 1
   have qi9 : (1 < (a0.size : Int)) = True := eq_true (oz)
   replace q9 := eq_true q9
   go_wp2
   go_ret3
   exact ⟨ez, dz⟩
  rw [if_neg c13] at H
  have c13b0 := beq_eq_false_iff_ne.mpr c13
  have c13b1 := bne_iff_ne.mpr c13
  by_cases c14 : (bt a0 1) = 114
  ·rw [if_pos c14] at H
   have c14b0 := beq_iff_eq.mpr c14
   have c14b1 := bne_eq_false_iff_eq.mpr c14
   clear c14
   simp only [Option.some.injEq, Prod.mk.injEq] at H
   obtain ⟨rfl, rfl, rfl⟩ := H
   have q9 : 1 < a0.size := (by have : (1 : Int) < (a0.size : Int) := oz; omega)
   have hx9 : ∀ h : 1 < a0.size, ((a0[1]'h).toNat : Int) = bt a0 1 := bt_at a0 1
   have qi9 : (1 < (a0.size : Int)) = True := eq_true (oz)
   replace q9 := eq_true q9
   go_wp2
   go_ret3
   exact ⟨ez, dz⟩
  rw [if_neg c14] at H
  have c14b0 := beq_eq_false_iff_ne.mpr c14
  have c14b1 := bne_iff_ne.mpr c14
  by_cases c15 : (bt a0 1) = 118
  ·rw [if_pos c15] at H
   have c15b0 := beq_iff_eq.mpr c15
   have c15b1 := bne_eq_false_iff_eq.mpr c15
   clear c15
   simp only [Option.some.injEq, Prod.mk.injEq] at H
   obtain ⟨rfl, rfl, rfl⟩ := H
   have q9 : 1 < a0.size := (by have : (1 : Int) < (a0.size : Int) := oz; omega)
   have hx9 : ∀ h : 1 < a0.size, ((a0[1]'h).toNat : Int) = bt a0 1 := bt_at a0 1
   have qi9 : (1 < (a0.size : Int)) = True := eq_true (oz)
   replace q9 := eq_true q9
   go_wp2
   go_ret3
   exact ⟨ez, dz⟩
  rw [if_neg c15] at H
  have c15b0 := beq_eq_false_iff_ne.mpr c15
  have c15b1 := bne_iff_ne.mpr c15
  by_cases c16 : (bt a0 1) = 120
  ·rw [if_pos c16] at H
   have c16b0 := beq_iff_eq.mpr c16
   have c16b1 := bne_eq_false_iff_eq.mpr c16
   clear c16
   replace H := Option.bind_eq_some_iff.mp H
   obtain ⟨⟨t481, t482, t483⟩, A170, H⟩ := H
   try dsimp only at H
   have A17 := Aside0.mk A170
   clear A170
   simp only [Option.some.injEq, Prod.mk.injEq] at H
   obtain ⟨rfl, rfl, rfl⟩ := H
   have q9 : 1 < a0.size := (by have : (1 : Int) < (a0.size : Int) := oz; omega)
   have hx9 : ∀ h : 1 < a0.size, ((a0[1]'h).toNat : Int) = bt a0 1 := bt_at a0 1
   have qi9 : (1 < (a0.size : Int)) = True := eq_true (oz)
   replace q9 := eq_true q9
   go_wp2_with (first | ((with_reducible refine gate_callee (f := 28) rfl ?_); refine goesL_ (some 33) rfl rfl Tryz.func28 kz rfl #[.string a0] rfl mz ?_; (with_reducible refine (burinref07_hex.calls kj1 a0 t481 t482 t483 _ A17.out).mono ?_); rintro e w' ⟨rfl, ⟨nd, rfl⟩⟩; refine ⟨_, rfl, ?_⟩))
   go_ret3
   exact ⟨ez, dz⟩
  rw [if_neg c16] at H
  have c16b0 := beq_eq_false_iff_ne.mpr c16
  have c16b1 := bne_iff_ne.mpr c16
  by_cases c19 : (bt a0 1) < 33
  ·rw [if_pos c19] at H
   have c19b0 := decide_eq_true c19
   clear c19
   simp only [Option.some.injEq, Prod.mk.injEq] at H
   obtain ⟨rfl, rfl, rfl⟩ := H
   have q9 : 1 < a0.size := (by have : (1 : Int) < (a0.size : Int) := oz; omega)
   have hx9 : ∀ h : 1 < a0.size, ((a0[1]'h).toNat : Int) = bt a0 1 := bt_at a0 1
   have qi9 : (1 < (a0.size : Int)) = True := eq_true (oz)
   replace q9 := eq_true q9
   have q18 : 1 < a0.size := (by have : (1 : Int) < (a0.size : Int) := oz; omega)
   have hx18 : ∀ h : 1 < a0.size, ((a0[1]'h).toNat : Int) = bt a0 1 := bt_at a0 1
   have qi18 : (1 < (a0.size : Int)) = True := eq_true (oz)
   replace q18 := eq_true q18
   go_wp2
   go_ret3
   exact ⟨ez, dz⟩
  rw [if_neg c19] at H
  have c19b0 := decide_eq_false c19
  clear c19
  by_cases c21 : (bt a0 1) > 126
  ·rw [if_pos c21] at H
   have c21b0 : decide (126 < (bt a0 1)) = true := decide_eq_true c21
   clear c21
   simp only [Option.some.injEq, Prod.mk.injEq] at H
   obtain ⟨rfl, rfl, rfl⟩ := H
   have q9 : 1 < a0.size := (by have : (1 : Int) < (a0.size : Int) := oz; omega)
   have hx9 : ∀ h : 1 < a0.size, ((a0[1]'h).toNat : Int) = bt a0 1 := bt_at a0 1
   have qi9 : (1 < (a0.size : Int)) = True := eq_true (oz)
   replace q9 := eq_true q9
   have q18 : 1 < a0.size := (by have : (1 : Int) < (a0.size : Int) := oz; omega)
   have hx18 : ∀ h : 1 < a0.size, ((a0[1]'h).toNat : Int) = bt a0 1 := bt_at a0 1
   have qi18 : (1 < (a0.size : Int)) = True := eq_true (oz)
   replace q18 := eq_true q18
   have q20 : 1 < a0.size := (by have : (1 : Int) < (a0.size : Int) := oz; omega)
   have hx20 : ∀ h : 1 < a0.size, ((a0[1]'h).toNat : Int) = bt a0 1 := bt_at a0 1
   have qi20 : (1 < (a0.size : Int)) = True := eq_true (oz)
   replace q20 := eq_true q20
   go_wp2
   go_ret3
   exact ⟨ez, dz⟩
  rw [if_neg c21] at H
  have c21b0 : decide (126 < (bt a0 1)) = false := decide_eq_false c21
  clear c21
  replace H := Option.bind_eq_some_iff.mp H
  obtain ⟨t484, A230, H⟩ := H
  try dsimp only at H
  have A23 := Aside0.mk A230
  clear A230
  by_cases c24 : t484 = true
  ·subst c24
   rw [if_pos rfl] at H
   simp only [Option.some.injEq, Prod.mk.injEq] at H
   obtain ⟨rfl, rfl, rfl⟩ := H
   have q9 : 1 < a0.size := (by have : (1 : Int) < (a0.size : Int) := oz; omega)
   have hx9 : ∀ h : 1 < a0.size, ((a0[1]'h).toNat : Int) = bt a0 1 := bt_at a0 1
   have qi9 : (1 < (a0.size : Int)) = True := eq_true (oz)
   replace q9 := eq_true q9
   have q18 : 1 < a0.size := (by have : (1 : Int) < (a0.size : Int) := oz; omega)
   have hx18 : ∀ h : 1 < a0.size, ((a0[1]'h).toNat : Int) = bt a0 1 := bt_at a0 1
   have qi18 : (1 < (a0.size : Int)) = True := eq_true (oz)
   replace q18 := eq_true q18
   have q20 : 1 < a0.size := (by have : (1 : Int) < (a0.size : Int) := oz; omega)
   have hx20 : ∀ h : 1 < a0.size, ((a0[1]'h).toNat : Int) = bt a0 1 := bt_at a0 1
   have qi20 : (1 < (a0.size : Int)) = True := eq_true (oz)
   replace q20 := eq_true q20
   have q22 : 1 < a0.size := (by have : (1 : Int) < (a0.size : Int) := oz; omega)
   have hx22 : ∀ h : 1 < a0.size, ((a0[1]'h).toNat : Int) = bt a0 1 := bt_at a0 1
   have qi22 : (1 < (a0.size : Int)) = True := eq_true (oz)
   replace q22 := eq_true q22
   go_wp2_with (first | (go_at_call 29; (with_reducible refine (burinref07_Letter.calls (bt a0 1) true _ A23.out).mono ?_); rintro e w' ⟨rfl, ⟨nd, rfl⟩⟩))
   go_ret3
   exact ⟨ez, dz⟩
  replace c24 := Bool.eq_false_iff.mpr c24
  subst c24
  rw [if_neg (show ¬ (false = true) by decide)] at H
  by_cases c26 : (bt a0 1) ≥ 48
  ·rw [if_pos c26] at H
   have c26b0 : decide (48 ≤ (bt a0 1)) = true := decide_eq_true c26
   clear c26
   by_cases c28 : (bt a0 1) ≤ 57
   ·rw [if_pos c28] at H
    have c28b0 := decide_eq_true c28
    clear c28
    simp only [Option.some.injEq, Prod.mk.injEq] at H
    obtain ⟨rfl, rfl, rfl⟩ := H
    have q9 : 1 < a0.size := (by have : (1 : Int) < (a0.size : Int) := oz; omega)
    have hx9 : ∀ h : 1 < a0.size, ((a0[1]'h).toNat : Int) = bt a0 1 := bt_at a0 1
    have qi9 : (1 < (a0.size : Int)) = True := eq_true (oz)
    replace q9 := eq_true q9
    have q18 : 1 < a0.size := (by have : (1 : Int) < (a0.size : Int) := oz; omega)
    have hx18 : ∀ h : 1 < a0.size, ((a0[1]'h).toNat : Int) = bt a0 1 := bt_at a0 1
    have qi18 : (1 < (a0.size : Int)) = True := eq_true (oz)
    replace q18 := eq_true q18
    have q20 : 1 < a0.size := (by have : (1 : Int) < (a0.size : Int) := oz; omega)
    have hx20 : ∀ h : 1 < a0.size, ((a0[1]'h).toNat : Int) = bt a0 1 := bt_at a0 1
    have qi20 : (1 < (a0.size : Int)) = True := eq_true (oz)
    replace q20 := eq_true q20
    have q22 : 1 < a0.size := (by have : (1 : Int) < (a0.size : Int) := oz; omega)
    have hx22 : ∀ h : 1 < a0.size, ((a0[1]'h).toNat : Int) = bt a0 1 := bt_at a0 1
    have qi22 : (1 < (a0.size : Int)) = True := eq_true (oz)
    replace q22 := eq_true q22
    go_wp2_with (first | (go_at_call 29; (with_reducible refine (burinref07_Letter.calls (bt a0 1) false _ A23.out).mono ?_); rintro e w' ⟨rfl, ⟨nd, rfl⟩⟩; have p25 : 0 ≤ (1 : Int) := (by omega); have q25 : 1 < a0.size := (by have : (1 : Int) < (a0.size : Int) := oz; omega); have hx25 : ∀ h : 1 < a0.size, ((a0[1]'h).toNat : Int) = bt a0 1 := bt_at a0 1; clear p25; have qi25 : (1 < (a0.size : Int)) = True := eq_true (oz); replace q25 := eq_true q25; have p27 : 0 ≤ (1 : Int) := (by omega); have q27 : 1 < a0.size := (by have : (1 : Int) < (a0.size : Int) := oz; omega); have hx27 : ∀ h : 1 < a0.size, ((a0[1]'h).toNat : Int) = bt a0 1 := bt_at a0 1; clear p27; have qi27 : (1 < (a0.size : Int)) = True := eq_true (oz); replace q27 := eq_true q27))
    go_ret3
    exact ⟨ez, dz⟩
   rw [if_neg c28] at H
   have c28b0 := decide_eq_false c28
   clear c28
   simp only [Option.some.injEq, Prod.mk.injEq] at H
   obtain ⟨rfl, rfl, rfl⟩ := H
   have q9 : 1 < a0.size := (by have : (1 : Int) < (a0.size : Int) := oz; omega)
   have hx9 : ∀ h : 1 < a0.size, ((a0[1]'h).toNat : Int) = bt a0 1 := bt_at a0 1
   have qi9 : (1 < (a0.size : Int)) = True := eq_true (oz)
   replace q9 := eq_true q9
   have q18 : 1 < a0.size := (by have : (1 : Int) < (a0.size : Int) := oz; omega)
   have hx18 : ∀ h : 1 < a0.size, ((a0[1]'h).toNat : Int) = bt a0 1 := bt_at a0 1
   have qi18 : (1 < (a0.size : Int)) = True := eq_true (oz)
   replace q18 := eq_true q18
   have q20 : 1 < a0.size := (by have : (1 : Int) < (a0.size : Int) := oz; omega)
   have hx20 : ∀ h : 1 < a0.size, ((a0[1]'h).toNat : Int) = bt a0 1 := bt_at a0 1
   have qi20 : (1 < (a0.size : Int)) = True := eq_true (oz)
   replace q20 := eq_true q20
   have q22 : 1 < a0.size := (by have : (1 : Int) < (a0.size : Int) := oz; omega)
   have hx22 : ∀ h : 1 < a0.size, ((a0[1]'h).toNat : Int) = bt a0 1 := bt_at a0 1
   have qi22 : (1 < (a0.size : Int)) = True := eq_true (oz)
   replace q22 := eq_true q22
   go_wp2_with (first | (go_at_call 29; (with_reducible refine (burinref07_Letter.calls (bt a0 1) false _ A23.out).mono ?_); rintro e w' ⟨rfl, ⟨nd, rfl⟩⟩; have p25 : 0 ≤ (1 : Int) := (by omega); have q25 : 1 < a0.size := (by have : (1 : Int) < (a0.size : Int) := oz; omega); have hx25 : ∀ h : 1 < a0.size, ((a0[1]'h).toNat : Int) = bt a0 1 := bt_at a0 1; clear p25; have qi25 : (1 < (a0.size : Int)) = True := eq_true (oz); replace q25 := eq_true q25; have p27 : 0 ≤ (1 : Int) := (by omega); have q27 : 1 < a0.size := (by have : (1 : Int) < (a0.size : Int) := oz; omega); have hx27 : ∀ h : 1 < a0.size, ((a0[1]'h).toNat : Int) = bt a0 1 := bt_at a0 1; clear p27; have qi27 : (1 < (a0.size : Int)) = True := eq_true (oz); replace q27 := eq_true q27; have p29 : 0 ≤ (1 : Int) := (by omega); have q29 : 1 < a0.size := (by have : (1 : Int) < (a0.size : Int) := oz; omega); have hx29 : ∀ h : 1 < a0.size, ((a0[1]'h).toNat : Int) = bt a0 1 := bt_at a0 1; clear p29; have qi29 : (1 < (a0.size : Int)) = True := eq_true (oz); replace q29 := eq_true q29))
   go_ret3
   exact ⟨ez, dz⟩
  rw [if_neg c26] at H
  have c26b0 : decide (48 ≤ (bt a0 1)) = false := decide_eq_false c26
  clear c26
  simp only [Option.some.injEq, Prod.mk.injEq] at H
  obtain ⟨rfl, rfl, rfl⟩ := H
  have q9 : 1 < a0.size := (by have : (1 : Int) < (a0.size : Int) := oz; omega)
  have hx9 : ∀ h : 1 < a0.size, ((a0[1]'h).toNat : Int) = bt a0 1 := bt_at a0 1
  have qi9 : (1 < (a0.size : Int)) = True := eq_true (oz)
  replace q9 := eq_true q9
  have q18 : 1 < a0.size := (by have : (1 : Int) < (a0.size : Int) := oz; omega)
  have hx18 : ∀ h : 1 < a0.size, ((a0[1]'h).toNat : Int) = bt a0 1 := bt_at a0 1
  have qi18 : (1 < (a0.size : Int)) = True := eq_true (oz)
  replace q18 := eq_true q18
  have q20 : 1 < a0.size := (by have : (1 : Int) < (a0.size : Int) := oz; omega)
  have hx20 : ∀ h : 1 < a0.size, ((a0[1]'h).toNat : Int) = bt a0 1 := bt_at a0 1
  have qi20 : (1 < (a0.size : Int)) = True := eq_true (oz)
  replace q20 := eq_true q20
  have q22 : 1 < a0.size := (by have : (1 : Int) < (a0.size : Int) := oz; omega)
  have hx22 : ∀ h : 1 < a0.size, ((a0[1]'h).toNat : Int) = bt a0 1 := bt_at a0 1
  have qi22 : (1 < (a0.size : Int)) = True := eq_true (oz)
  replace q22 := eq_true q22
  go_wp2_with (first | (go_at_call 29; (with_reducible refine (burinref07_Letter.calls (bt a0 1) false _ A23.out).mono ?_); rintro e w' ⟨rfl, ⟨nd, rfl⟩⟩; have p25 : 0 ≤ (1 : Int) := (by omega); have q25 : 1 < a0.size := (by have : (1 : Int) < (a0.size : Int) := oz; omega); have hx25 : ∀ h : 1 < a0.size, ((a0[1]'h).toNat : Int) = bt a0 1 := bt_at a0 1; clear p25; have qi25 : (1 < (a0.size : Int)) = True := eq_true (oz); replace q25 := eq_true q25; have p30 : 0 ≤ (1 : Int) := (by omega); have q30 : 1 < a0.size := (by have : (1 : Int) < (a0.size : Int) := oz; omega); have hx30 : ∀ h : 1 < a0.size, ((a0[1]'h).toNat : Int) = bt a0 1 := bt_at a0 1; clear p30; have qi30 : (1 < (a0.size : Int)) = True := eq_true (oz); replace q30 := eq_true q30))
  go_ret3
  exact ⟨ez, dz⟩
def burinref01_said.f (a0 : ByteArray) (a1 : Int) : Option (Int) := if a1 = 1 then (if 0 < (a0.size : Int) then (some (wrap64 (bt a0 0))) else (none)) else (if a1 = 2 then (if 0 < (a0.size : Int) then (if 1 < (a0.size : Int) then (some (wrap64 ((wrap64 ((Int.tmod (wrap64 (bt a0 0)) 32) * 64)) + (Int.tmod (wrap64 (bt a0 1)) 64)))) else (none)) else (none)) else (if a1 = 3 then (if 0 < (a0.size : Int) then (if 1 < (a0.size : Int) then (if 2 < (a0.size : Int) then (some (wrap64 ((wrap64 ((wrap64 ((Int.tmod (wrap64 (bt a0 0)) 16) * 4096)) + (wrap64 ((Int.tmod (wrap64 (bt a0 1)) 64) * 64)))) + (Int.tmod (wrap64 (bt a0 2)) 64)))) else (none)) else (none)) else (none)) else (if 0 < (a0.size : Int) then (if 1 < (a0.size : Int) then (if 2 < (a0.size : Int) then (if 3 < (a0.size : Int) then (some (wrap64 ((wrap64 ((wrap64 ((wrap64 ((Int.tmod (wrap64 (bt a0 0)) 8) * 262144)) + (wrap64 ((Int.tmod (wrap64 (bt a0 1)) 64) * 4096)))) + (wrap64 ((Int.tmod (wrap64 (bt a0 2)) 64) * 64)))) + (Int.tmod (wrap64 (bt a0 3)) 64)))) else (none)) else (none)) else (none)) else (none))))
set_option maxHeartbeats 8000000 in
set_option maxRecDepth 100000 in
theorem burinref01_said.calls (a0 : ByteArray) (a1 : Int) (r : Int) (w : World) (h : burinref01_said.f a0 a1 = some r) :
  Calls Tryz.prog 123 #[.string a0, .int .i64 a1] w fun e w' => e = .returned (.int .i64 r) ∧ Drawn0 w w' := by
 have H : (if a1 = 1 then (if 0 < (a0.size : Int) then (some (wrap64 (bt a0 0))) else (none)) else (if a1 = 2 then (if 0 < (a0.size : Int) then (if 1 < (a0.size : Int) then (some (wrap64 ((wrap64 ((Int.tmod (wrap64 (bt a0 0)) 32) * 64)) + (Int.tmod (wrap64 (bt a0 1)) 64)))) else (none)) else (none)) else (if a1 = 3 then (if 0 < (a0.size : Int) then (if 1 < (a0.size : Int) then (if 2 < (a0.size : Int) then (some (wrap64 ((wrap64 ((wrap64 ((Int.tmod (wrap64 (bt a0 0)) 16) * 4096)) + (wrap64 ((Int.tmod (wrap64 (bt a0 1)) 64) * 64)))) + (Int.tmod (wrap64 (bt a0 2)) 64)))) else (none)) else (none)) else (none)) else (if 0 < (a0.size : Int) then (if 1 < (a0.size : Int) then (if 2 < (a0.size : Int) then (if 3 < (a0.size : Int) then (some (wrap64 ((wrap64 ((wrap64 ((wrap64 ((Int.tmod (wrap64 (bt a0 0)) 8) * 262144)) + (wrap64 ((Int.tmod (wrap64 (bt a0 1)) 64) * 4096)))) + (wrap64 ((Int.tmod (wrap64 (bt a0 2)) 64) * 64)))) + (Int.tmod (wrap64 (bt a0 3)) 64)))) else (none)) else (none)) else (none)) else (none))))) = some r := h
 clear h
 by_cases c3 : a1 = 1
 ·rw [if_pos c3] at H
  have c3b0 := beq_iff_eq.mpr c3
  have c3b1 := bne_eq_false_iff_eq.mpr c3
  clear c3
  by_cases c4 : 0 < (a0.size : Int)
  rotate_left
  ·exact nomatch (if_neg c4).symm.trans H
  rw [if_pos c4] at H
  have c4b0 := decide_eq_true c4
  have c4b1 : decide (0 < a0.size) = true := decide_eq_true (by omega)
  clear c4
  obtain rfl := Option.some.inj H
  have q5 : 0 < a0.size := (by have : (0 : Int) < (a0.size : Int) := oz; omega)
  have hx5 : ∀ h : 0 < a0.size, ((a0[0]'h).toNat : Int) = bt a0 0 := bt_at a0 0
  have qi5 : (0 < (a0.size : Int)) = True := eq_true (oz)
  replace q5 := eq_true q5
  go_enter Tryz.func123, Tryz.ntmps123
  go_wp2
  repeat (go_quiet (fail); try go_wp2)
  go_ret
  exact ⟨ez, dz⟩
 rw [if_neg c3] at H
 have c3b0 := beq_eq_false_iff_ne.mpr c3
 have c3b1 := bne_iff_ne.mpr c3
 by_cases c6 : a1 = 2
 ·rw [if_pos c6] at H
  have c6b0 := beq_iff_eq.mpr c6
  have c6b1 := bne_eq_false_iff_eq.mpr c6
  clear c6
  by_cases c7 : 0 < (a0.size : Int)
  rotate_left
  ·exact nomatch (if_neg c7).symm.trans H
  rw [if_pos c7] at H
  have c7b0 := decide_eq_true c7
  have c7b1 : decide (0 < a0.size) = true := decide_eq_true (by omega)
  clear c7
  by_cases c9 : 1 < (a0.size : Int)
  rotate_left
  ·exact nomatch (if_neg c9).symm.trans H
  rw [if_pos c9] at H
  have c9b0 := decide_eq_true c9
  have c9b1 : decide (1 < a0.size) = true := decide_eq_true (by omega)
  clear c9
  obtain rfl := Option.some.inj H
  have q8 : 0 < a0.size := (by have : (0 : Int) < (a0.size : Int) := oz; omega)
  have hx8 : ∀ h : 0 < a0.size, ((a0[0]'h).toNat : Int) = bt a0 0 := bt_at a0 0
  have qi8 : (0 < (a0.size : Int)) = True := eq_true (oz)
  replace q8 := eq_true q8
  have q10 : 1 < a0.size := (by have : (1 : Int) < (a0.size : Int) := oz; omega)
  have hx10 : ∀ h : 1 < a0.size, ((a0[1]'h).toNat : Int) = bt a0 1 := bt_at a0 1
  have qi10 : (1 < (a0.size : Int)) = True := eq_true (oz)
  replace q10 := eq_true q10
  go_enter Tryz.func123, Tryz.ntmps123
  go_wp2
  repeat (go_quiet (fail); try go_wp2)
  go_ret
  exact ⟨ez, dz⟩
 rw [if_neg c6] at H
 have c6b0 := beq_eq_false_iff_ne.mpr c6
 have c6b1 := bne_iff_ne.mpr c6
 by_cases c11 : a1 = 3
 ·rw [if_pos c11] at H
  have c11b0 := beq_iff_eq.mpr c11
  have c11b1 := bne_eq_false_iff_eq.mpr c11
  clear c11
  by_cases c12 : 0 < (a0.size : Int)
  rotate_left
  ·exact nomatch (if_neg c12).symm.trans H
  rw [if_pos c12] at H
  have c12b0 := decide_eq_true c12
  have c12b1 : decide (0 < a0.size) = true := decide_eq_true (by omega)
  clear c12
  by_cases c14 : 1 < (a0.size : Int)
  rotate_left
  ·exact nomatch (if_neg c14).symm.trans H
  rw [if_pos c14] at H
  have c14b0 := decide_eq_true c14
  have c14b1 : decide (1 < a0.size) = true := decide_eq_true (by omega)
  clear c14
  by_cases c16 : 2 < (a0.size : Int)
  rotate_left
  ·exact nomatch (if_neg c16).symm.trans H
  rw [if_pos c16] at H
  have c16b0 := decide_eq_true c16
  have c16b1 : decide (2 < a0.size) = true := decide_eq_true (by omega)
  clear c16
  obtain rfl := Option.some.inj H
  have q13 : 0 < a0.size := (by have : (0 : Int) < (a0.size : Int) := oz; omega)
  have hx13 : ∀ h : 0 < a0.size, ((a0[0]'h).toNat : Int) = bt a0 0 := bt_at a0 0
  have qi13 : (0 < (a0.size : Int)) = True := eq_true (oz)
  replace q13 := eq_true q13
  have q15 : 1 < a0.size := (by have : (1 : Int) < (a0.size : Int) := oz; omega)
  have hx15 : ∀ h : 1 < a0.size, ((a0[1]'h).toNat : Int) = bt a0 1 := bt_at a0 1
  have qi15 : (1 < (a0.size : Int)) = True := eq_true (oz)
  replace q15 := eq_true q15
  have q17 : 2 < a0.size := (by have : (2 : Int) < (a0.size : Int) := oz; omega)
  have hx17 : ∀ h : 2 < a0.size, ((a0[2]'h).toNat : Int) = bt a0 2 := bt_at a0 2
  have qi17 : (2 < (a0.size : Int)) = True := eq_true (oz)
  replace q17 := eq_true q17
  go_enter Tryz.func123, Tryz.ntmps123
  go_wp2
  repeat (go_quiet (fail); try go_wp2)
  go_ret
  exact ⟨ez, dz⟩
 rw [if_neg c11] at H
 have c11b0 := beq_eq_false_iff_ne.mpr c11
 have c11b1 := bne_iff_ne.mpr c11
 by_cases c18 : 0 < (a0.size : Int)
 rotate_left
 ·exact nomatch (if_neg c18).symm.trans H
 rw [if_pos c18] at H
 have c18b0 := decide_eq_true c18
 have c18b1 : decide (0 < a0.size) = true := decide_eq_true (by omega)
 clear c18
 by_cases c20 : 1 < (a0.size : Int)
 rotate_left
 ·exact nomatch (if_neg c20).symm.trans H
 rw [if_pos c20] at H
 have c20b0 := decide_eq_true c20
 have c20b1 : decide (1 < a0.size) = true := decide_eq_true (by omega)
 clear c20
 by_cases c22 : 2 < (a0.size : Int)
 rotate_left
 ·exact nomatch (if_neg c22).symm.trans H
 rw [if_pos c22] at H
 have c22b0 := decide_eq_true c22
 have c22b1 : decide (2 < a0.size) = true := decide_eq_true (by omega)
 clear c22
 by_cases c24 : 3 < (a0.size : Int)
 rotate_left
 ·exact nomatch (if_neg c24).symm.trans H
 rw [if_pos c24] at H
 have c24b0 := decide_eq_true c24
 have c24b1 : decide (3 < a0.size) = true := decide_eq_true (by omega)
 clear c24
 obtain rfl := Option.some.inj H
 have q19 : 0 < a0.size := (by have : (0 : Int) < (a0.size : Int) := oz; omega)
 have hx19 : ∀ h : 0 < a0.size, ((a0[0]'h).toNat : Int) = bt a0 0 := bt_at a0 0
 have qi19 : (0 < (a0.size : Int)) = True := eq_true (oz)
 replace q19 := eq_true q19
 have q21 : 1 < a0.size := (by have : (1 : Int) < (a0.size : Int) := oz; omega)
 have hx21 : ∀ h : 1 < a0.size, ((a0[1]'h).toNat : Int) = bt a0 1 := bt_at a0 1
 have qi21 : (1 < (a0.size : Int)) = True := eq_true (oz)
 replace q21 := eq_true q21
 have q23 : 2 < a0.size := (by have : (2 : Int) < (a0.size : Int) := oz; omega)
 have hx23 : ∀ h : 2 < a0.size, ((a0[2]'h).toNat : Int) = bt a0 2 := bt_at a0 2
 have qi23 : (2 < (a0.size : Int)) = True := eq_true (oz)
 replace q23 := eq_true q23
 have q25 : 3 < a0.size := (by have : (3 : Int) < (a0.size : Int) := oz; omega)
 have hx25 : ∀ h : 3 < a0.size, ((a0[3]'h).toNat : Int) = bt a0 3 := bt_at a0 3
 have qi25 : (3 < (a0.size : Int)) = True := eq_true (oz)
 replace q25 := eq_true q25
 go_enter Tryz.func123, Tryz.ntmps123
 go_wp2
 repeat (go_quiet (fail); try go_wp2)
 go_ret
 exact ⟨ez, dz⟩
def burinref01_Width.j0 : Nat → Int → Bool → Option (Int)
 | 0, _, _ => none
 | k + 1, x0, x16 => if x16 = true then (some 0) else (if x0 < 128 then (some 1) else (if x0 < 2048 then (some 2) else (if x0 < 65536 then (some 3) else (some 4))))
def burinref01_Width.f (k : Nat) (a0 : Int) : Option (Int) := if a0 < 0 then (burinref01_Width.j0 k a0 true) else (if a0 > 1114111 then (burinref01_Width.j0 k a0 true) else (if a0 ≥ 55296 then (burinref01_Width.j0 k a0 (decide (a0 ≤ 57343))) else (burinref01_Width.j0 k a0 false)))
set_option maxHeartbeats 8000000 in
set_option maxRecDepth 100000 in
theorem burinref01_Width.calls (k : Nat) (a0 : Int) (r : Int) (w : World) (h : burinref01_Width.f k a0 = some r) :
  Calls Tryz.prog 143 #[.int .i64 a0] w fun e w' => e = .returned (.int .i64 r) ∧ Drawn0 w w' := by
 have H : (if a0 < 0 then (burinref01_Width.j0 k a0 true) else (if a0 > 1114111 then (burinref01_Width.j0 k a0 true) else (if a0 ≥ 55296 then (burinref01_Width.j0 k a0 (decide (a0 ≤ 57343))) else (burinref01_Width.j0 k a0 false)))) = some r := h
 clear h
 have HC2 := Aside0.mk H
 clear H
 go_enter Tryz.func143, Tryz.ntmps143
 go_upto_region 1 with (fail)
 go_cut [16] (fun v16 wc => ∃ (kq : Nat) (x16_1 : Bool), v16 = .bool x16_1 ∧ Aside0 (burinref01_Width.j0 kq a0 x16_1 = some r) ∧ Aside0 (kq ≤ k) ∧ Drawn0 w wc)
 case first =>
  have H := HC2.out
  clear HC2
  by_cases c3 : a0 < 0
  ·rw [if_pos c3] at H
   have c3b0 := decide_eq_true c3
   clear c3
   (first | rw [c3b0] | (simp only [i64_w, i32_w]; rw [c3b0]) | skip)
   have H' := Aside0.mk H
   clear H
   go_wp2
   go_meet
   case rel => exact ⟨_, (true), ez, H', ⟨by first | omega | exact Nat.le_refl _⟩, dz⟩
  rw [if_neg c3] at H
  have c3b0 := decide_eq_false c3
  clear c3
  (first | rw [c3b0] | (simp only [i64_w, i32_w]; rw [c3b0]) | skip)
  by_cases c4 : a0 > 1114111
  ·rw [if_pos c4] at H
   have c4b0 : decide (1114111 < a0) = true := decide_eq_true c4
   clear c4
   have H' := Aside0.mk H
   clear H
   go_wp2
   go_meet
   case rel => exact ⟨_, (true), ez, H', ⟨by first | omega | exact Nat.le_refl _⟩, dz⟩
  rw [if_neg c4] at H
  have c4b0 : decide (1114111 < a0) = false := decide_eq_false c4
  clear c4
  by_cases c5 : a0 ≥ 55296
  ·rw [if_pos c5] at H
   have c5b0 : decide (55296 ≤ a0) = true := decide_eq_true c5
   clear c5
   have H' := Aside0.mk H
   clear H
   go_wp2
   go_meet
   case rel => exact ⟨_, (decide (a0 ≤ 57343)), ez, H', ⟨by first | omega | exact Nat.le_refl _⟩, dz⟩
  rw [if_neg c5] at H
  have c5b0 : decide (55296 ≤ a0) = false := decide_eq_false c5
  clear c5
  have H' := Aside0.mk H
  clear H
  go_wp2
  go_meet
  case rel => exact ⟨_, (false), ez, H', ⟨by first | omega | exact Nat.le_refl _⟩, dz⟩
 clear HC2
 try clear c1
 try clear p2
 try clear c3
 try clear c3b0
 try clear c4
 try clear c4b0
 try clear c5
 try clear c5b0
 obtain ⟨kq, x16_1, rfl, HA, HJ1, ⟨mc1, rfl⟩⟩ := hcut
 cases kq with
 | zero => exact absurd HA.out (by simp [burinref01_Width.j0])
 | succ kj1 =>
  have H := HA.out
  clear HA
  simp only [burinref01_Width.j0] at H
  by_cases c6 : x16_1 = true
  ·subst c6
   rw [if_pos rfl] at H
   obtain rfl := Option.some.inj H
   go_wp2
   go_ret
   exact ⟨ez, dz⟩
  replace c6 := Bool.eq_false_iff.mpr c6
  subst c6
  rw [if_neg (show ¬ (false = true) by decide)] at H
  by_cases c7 : a0 < 128
  ·rw [if_pos c7] at H
   have c7b0 := decide_eq_true c7
   clear c7
   obtain rfl := Option.some.inj H
   go_wp2
   go_ret
   exact ⟨ez, dz⟩
  rw [if_neg c7] at H
  have c7b0 := decide_eq_false c7
  clear c7
  by_cases c8 : a0 < 2048
  ·rw [if_pos c8] at H
   have c8b0 := decide_eq_true c8
   clear c8
   obtain rfl := Option.some.inj H
   go_wp2
   go_ret
   exact ⟨ez, dz⟩
  rw [if_neg c8] at H
  have c8b0 := decide_eq_false c8
  clear c8
  by_cases c9 : a0 < 65536
  ·rw [if_pos c9] at H
   have c9b0 := decide_eq_true c9
   clear c9
   obtain rfl := Option.some.inj H
   go_wp2
   go_ret
   exact ⟨ez, dz⟩
  rw [if_neg c9] at H
  have c9b0 := decide_eq_false c9
  clear c9
  obtain rfl := Option.some.inj H
  go_wp2
  go_ret
  exact ⟨ez, dz⟩
def burinref01_Encode.f (k : Nat) (a0 : Int) : Option (ByteArray × Int) := (burinref01_Width.f k a0).bind fun t485 => (if t485 = 0 then (some ((⟨#[]⟩ : ByteArray), 1)) else (if t485 = 1 then (some (strOfNums (([(a0) % 256] : List Int)), 0)) else (if t485 = 2 then (some (strOfNums (([(wrap64 (192 + (wrap64 (Int.tdiv a0 64)))) % 256, (wrap64 (128 + (Int.tmod a0 64))) % 256] : List Int)), 0)) else (if t485 = 3 then (some (strOfNums (([(wrap64 (224 + (wrap64 (Int.tdiv a0 4096)))) % 256, (wrap64 (128 + (Int.tmod (wrap64 (Int.tdiv a0 64)) 64))) % 256, (wrap64 (128 + (Int.tmod a0 64))) % 256] : List Int)), 0)) else (some (strOfNums (([(wrap64 (240 + (wrap64 (Int.tdiv a0 262144)))) % 256, (wrap64 (128 + (Int.tmod (wrap64 (Int.tdiv a0 4096)) 64))) % 256, (wrap64 (128 + (Int.tmod (wrap64 (Int.tdiv a0 64)) 64))) % 256, (wrap64 (128 + (Int.tmod a0 64))) % 256] : List Int)), 0))))))
set_option maxHeartbeats 8000000 in
set_option maxRecDepth 100000 in
theorem burinref01_Encode.calls (k : Nat) (a0 : Int) (r1 : ByteArray) (r2 : Int) (w : World) (h : burinref01_Encode.f k a0 = some (r1, r2)) :
  Calls Tryz.prog 124 #[.int .i64 a0] w fun e w' => e = .returned (.tuple #[.string r1, .int .i64 r2]) ∧ Below w.heap.size w w' := by
 have HB := Aside0.mk (Below.refl w.heap.size w)
 have H : ((burinref01_Width.f k a0).bind fun t485 => (if t485 = 0 then (some ((⟨#[]⟩ : ByteArray), 1)) else (if t485 = 1 then (some (strOfNums (([(a0) % 256] : List Int)), 0)) else (if t485 = 2 then (some (strOfNums (([(wrap64 (192 + (wrap64 (Int.tdiv a0 64)))) % 256, (wrap64 (128 + (Int.tmod a0 64))) % 256] : List Int)), 0)) else (if t485 = 3 then (some (strOfNums (([(wrap64 (224 + (wrap64 (Int.tdiv a0 4096)))) % 256, (wrap64 (128 + (Int.tmod (wrap64 (Int.tdiv a0 64)) 64))) % 256, (wrap64 (128 + (Int.tmod a0 64))) % 256] : List Int)), 0)) else (some (strOfNums (([(wrap64 (240 + (wrap64 (Int.tdiv a0 262144)))) % 256, (wrap64 (128 + (Int.tmod (wrap64 (Int.tdiv a0 4096)) 64))) % 256, (wrap64 (128 + (Int.tmod (wrap64 (Int.tdiv a0 64)) 64))) % 256, (wrap64 (128 + (Int.tmod a0 64))) % 256] : List Int)), 0))))))) = some (r1, r2) := h
 clear h
 replace H := Option.bind_eq_some_iff.mp H
 obtain ⟨t485, A20, H⟩ := H
 try dsimp only at H
 have A2 := Aside0.mk A20
 clear A20
 by_cases c3 : t485 = 0
 ·rw [if_pos c3] at H
  have c3b0 := beq_iff_eq.mpr c3
  have c3b1 := bne_eq_false_iff_eq.mpr c3
  clear c3
  simp only [Option.some.injEq, Prod.mk.injEq] at H
  obtain ⟨rfl, rfl⟩ := H
  go_enter Tryz.func124, Tryz.ntmps124
  go_wp2_with (first | ((with_reducible refine gate_callee (f := 143) rfl ?_); refine goesL_ (some 6) rfl rfl Tryz.func143 kz rfl #[.int .i64 a0] rfl mz ?_; (with_reducible refine (burinref01_Width.calls k a0 t485 _ A2.out).mono ?_); rintro e w' ⟨rfl, ⟨nd, rfl⟩⟩; refine ⟨_, rfl, ?_⟩))
  go_ret2
  exact ⟨fz, bz⟩
 rw [if_neg c3] at H
 have c3b0 := beq_eq_false_iff_ne.mpr c3
 have c3b1 := bne_iff_ne.mpr c3
 by_cases c4 : t485 = 1
 ·rw [if_pos c4] at H
  have c4b0 := beq_iff_eq.mpr c4
  have c4b1 := bne_eq_false_iff_eq.mpr c4
  clear c4
  obtain ⟨y486, hy486⟩ : ∃ y_ : List Int, y_ = (([(a0) % 256] : List Int)) := ⟨_, rfl⟩
  rw [← hy486] at H
  try rw [Option.bind_some] at H
  have Ny486 := Aside0.mk hy486
  clear hy486
  simp only [Option.some.injEq, Prod.mk.injEq] at H
  obtain ⟨rfl, rfl⟩ := H
  go_enter Tryz.func124, Tryz.ntmps124
  go_wp2_with (first | ((with_reducible refine gate_callee (f := 143) rfl ?_); refine goesL_ (some 6) rfl rfl Tryz.func143 kz rfl #[.int .i64 a0] rfl mz ?_; (with_reducible refine (burinref01_Width.calls k a0 t485 _ A2.out).mono ?_); rintro e w' ⟨rfl, ⟨nd, rfl⟩⟩; refine ⟨_, rfl, ?_⟩) | ((with_reducible refine gate_dst (N := 34) rfl ?_); refine Kd.R_lit (Kd.int .u8) _ 5 ?hg (N := 34) ?hd (xs := ([(a0) % 256] : List Int)) (inner := [.int .u8 ((a0) % 256)]) (ok := fun _ => True) (okp := fun _ => True) ?hr ?hp (fun _ hk => hk) trivial (Below.refl _ _) (Nat.le_refl _) (by simp) ?_; (case hd => rfl); (case hg => rfl); (case hr => first | (go_simp; done) | (go_simp; rfl)); (case hp => exact (Reps.one rfl (Reps.none _ _))); intro v487 w5 ho6 hb hg_ hnew_; clear hg_ hnew_; (first | rw [← Ny486.out] at ho6 | (simp only [Int.reduceToNat] at ho6; rw [← Ny486.out] at ho6)); have HO488 := Aside0.mk (Kd.R_lower ho6 (below_size bz)); replace HB := hz hb; clear hb ho6; have hcv7 := own_string (P := Tryz.prog) Tryz.underlying75 Tryz.underlying5 Tryz.underlying9 (Kd.own_of_R HO488.out)))
  go_ret2
  exact ⟨fz, bz⟩
 rw [if_neg c4] at H
 have c4b0 := beq_eq_false_iff_ne.mpr c4
 have c4b1 := bne_iff_ne.mpr c4
 by_cases c8 : t485 = 2
 ·rw [if_pos c8] at H
  have c8b0 := beq_iff_eq.mpr c8
  have c8b1 := bne_eq_false_iff_eq.mpr c8
  clear c8
  obtain ⟨y489, hy489⟩ : ∃ y_ : List Int, y_ = (([(wrap64 (192 + (wrap64 (Int.tdiv a0 64)))) % 256, (wrap64 (128 + (Int.tmod a0 64))) % 256] : List Int)) := ⟨_, rfl⟩
  rw [← hy489] at H
  try rw [Option.bind_some] at H
  have Ny489 := Aside0.mk hy489
  clear hy489
  simp only [Option.some.injEq, Prod.mk.injEq] at H
  obtain ⟨rfl, rfl⟩ := H
  go_enter Tryz.func124, Tryz.ntmps124
  go_wp2_with (first | ((with_reducible refine gate_callee (f := 143) rfl ?_); refine goesL_ (some 6) rfl rfl Tryz.func143 kz rfl #[.int .i64 a0] rfl mz ?_; (with_reducible refine (burinref01_Width.calls k a0 t485 _ A2.out).mono ?_); rintro e w' ⟨rfl, ⟨nd, rfl⟩⟩; refine ⟨_, rfl, ?_⟩) | ((with_reducible refine gate_dst (N := 46) rfl ?_); refine Kd.R_lit (Kd.int .u8) _ 5 ?hg (N := 46) ?hd (xs := ([(wrap64 (192 + (wrap64 (Int.tdiv a0 64)))) % 256, (wrap64 (128 + (Int.tmod a0 64))) % 256] : List Int)) (inner := [.int .u8 ((wrap64 (192 + (wrap64 (Int.tdiv a0 64)))) % 256), .int .u8 ((wrap64 (128 + (Int.tmod a0 64))) % 256)]) (ok := fun _ => True) (okp := fun _ => True) ?hr ?hp (fun _ hk => hk) trivial (Below.refl _ _) (Nat.le_refl _) (by simp) ?_; (case hd => rfl); (case hg => rfl); (case hr => first | (go_simp; done) | (go_simp; rfl)); (case hp => exact (Reps.one rfl (Reps.one rfl (Reps.none _ _)))); intro v490 w9 ho10 hb hg_ hnew_; clear hg_ hnew_; (first | rw [← Ny489.out] at ho10 | (simp only [Int.reduceToNat] at ho10; rw [← Ny489.out] at ho10)); have HO491 := Aside0.mk (Kd.R_lower ho10 (below_size bz)); replace HB := hz hb; clear hb ho10; have hcv11 := own_string (P := Tryz.prog) Tryz.underlying75 Tryz.underlying5 Tryz.underlying9 (Kd.own_of_R HO491.out)))
  go_ret2
  exact ⟨fz, bz⟩
 rw [if_neg c8] at H
 have c8b0 := beq_eq_false_iff_ne.mpr c8
 have c8b1 := bne_iff_ne.mpr c8
 by_cases c12 : t485 = 3
 ·rw [if_pos c12] at H
  have c12b0 := beq_iff_eq.mpr c12
  have c12b1 := bne_eq_false_iff_eq.mpr c12
  clear c12
  obtain ⟨y492, hy492⟩ : ∃ y_ : List Int, y_ = (([(wrap64 (224 + (wrap64 (Int.tdiv a0 4096)))) % 256, (wrap64 (128 + (Int.tmod (wrap64 (Int.tdiv a0 64)) 64))) % 256, (wrap64 (128 + (Int.tmod a0 64))) % 256] : List Int)) := ⟨_, rfl⟩
  rw [← hy492] at H
  try rw [Option.bind_some] at H
  have Ny492 := Aside0.mk hy492
  clear hy492
  simp only [Option.some.injEq, Prod.mk.injEq] at H
  obtain ⟨rfl, rfl⟩ := H
  go_enter Tryz.func124, Tryz.ntmps124
  go_wp2_with (first | ((with_reducible refine gate_callee (f := 143) rfl ?_); refine goesL_ (some 6) rfl rfl Tryz.func143 kz rfl #[.int .i64 a0] rfl mz ?_; (with_reducible refine (burinref01_Width.calls k a0 t485 _ A2.out).mono ?_); rintro e w' ⟨rfl, ⟨nd, rfl⟩⟩; refine ⟨_, rfl, ?_⟩) | ((with_reducible refine gate_dst (N := 63) rfl ?_); refine Kd.R_lit (Kd.int .u8) _ 5 ?hg (N := 63) ?hd (xs := ([(wrap64 (224 + (wrap64 (Int.tdiv a0 4096)))) % 256, (wrap64 (128 + (Int.tmod (wrap64 (Int.tdiv a0 64)) 64))) % 256, (wrap64 (128 + (Int.tmod a0 64))) % 256] : List Int)) (inner := [.int .u8 ((wrap64 (224 + (wrap64 (Int.tdiv a0 4096)))) % 256), .int .u8 ((wrap64 (128 + (Int.tmod (wrap64 (Int.tdiv a0 64)) 64))) % 256), .int .u8 ((wrap64 (128 + (Int.tmod a0 64))) % 256)]) (ok := fun _ => True) (okp := fun _ => True) ?hr ?hp (fun _ hk => hk) trivial (Below.refl _ _) (Nat.le_refl _) (by simp) ?_; (case hd => rfl); (case hg => rfl); (case hr => first | (go_simp; done) | (go_simp; rfl)); (case hp => exact (Reps.one rfl (Reps.one rfl (Reps.one rfl (Reps.none _ _))))); intro v493 w13 ho14 hb hg_ hnew_; clear hg_ hnew_; (first | rw [← Ny492.out] at ho14 | (simp only [Int.reduceToNat] at ho14; rw [← Ny492.out] at ho14)); have HO494 := Aside0.mk (Kd.R_lower ho14 (below_size bz)); replace HB := hz hb; clear hb ho14; have hcv15 := own_string (P := Tryz.prog) Tryz.underlying75 Tryz.underlying5 Tryz.underlying9 (Kd.own_of_R HO494.out)))
  go_ret2
  exact ⟨fz, bz⟩
 rw [if_neg c12] at H
 have c12b0 := beq_eq_false_iff_ne.mpr c12
 have c12b1 := bne_iff_ne.mpr c12
 obtain ⟨y495, hy495⟩ : ∃ y_ : List Int, y_ = (([(wrap64 (240 + (wrap64 (Int.tdiv a0 262144)))) % 256, (wrap64 (128 + (Int.tmod (wrap64 (Int.tdiv a0 4096)) 64))) % 256, (wrap64 (128 + (Int.tmod (wrap64 (Int.tdiv a0 64)) 64))) % 256, (wrap64 (128 + (Int.tmod a0 64))) % 256] : List Int)) := ⟨_, rfl⟩
 rw [← hy495] at H
 try rw [Option.bind_some] at H
 have Ny495 := Aside0.mk hy495
 clear hy495
 simp only [Option.some.injEq, Prod.mk.injEq] at H
 obtain ⟨rfl, rfl⟩ := H
 go_enter Tryz.func124, Tryz.ntmps124
 go_wp2_with (first | ((with_reducible refine gate_callee (f := 143) rfl ?_); refine goesL_ (some 6) rfl rfl Tryz.func143 kz rfl #[.int .i64 a0] rfl mz ?_; (with_reducible refine (burinref01_Width.calls k a0 t485 _ A2.out).mono ?_); rintro e w' ⟨rfl, ⟨nd, rfl⟩⟩; refine ⟨_, rfl, ?_⟩) | ((with_reducible refine gate_dst (N := 26) rfl ?_); refine Kd.R_lit (Kd.int .u8) _ 5 ?hg (N := 26) ?hd (xs := ([(wrap64 (240 + (wrap64 (Int.tdiv a0 262144)))) % 256, (wrap64 (128 + (Int.tmod (wrap64 (Int.tdiv a0 4096)) 64))) % 256, (wrap64 (128 + (Int.tmod (wrap64 (Int.tdiv a0 64)) 64))) % 256, (wrap64 (128 + (Int.tmod a0 64))) % 256] : List Int)) (inner := [.int .u8 ((wrap64 (240 + (wrap64 (Int.tdiv a0 262144)))) % 256), .int .u8 ((wrap64 (128 + (Int.tmod (wrap64 (Int.tdiv a0 4096)) 64))) % 256), .int .u8 ((wrap64 (128 + (Int.tmod (wrap64 (Int.tdiv a0 64)) 64))) % 256), .int .u8 ((wrap64 (128 + (Int.tmod a0 64))) % 256)]) (ok := fun _ => True) (okp := fun _ => True) ?hr ?hp (fun _ hk => hk) trivial (Below.refl _ _) (Nat.le_refl _) (by simp) ?_; (case hd => rfl); (case hg => rfl); (case hr => first | (go_simp; done) | (go_simp; rfl)); (case hp => exact (Reps.one rfl (Reps.one rfl (Reps.one rfl (Reps.one rfl (Reps.none _ _)))))); intro v496 w16 ho17 hb hg_ hnew_; clear hg_ hnew_; (first | rw [← Ny495.out] at ho17 | (simp only [Int.reduceToNat] at ho17; rw [← Ny495.out] at ho17)); have HO497 := Aside0.mk (Kd.R_lower ho17 (below_size bz)); replace HB := hz hb; clear hb ho17; have hcv18 := own_string (P := Tryz.prog) Tryz.underlying75 Tryz.underlying5 Tryz.underlying9 (Kd.own_of_R HO497.out)))
 go_ret2
 exact ⟨fz, bz⟩
mutual
def burinref01_Decode.l0 : Nat → ByteArray → Int → Option (Int × Int)
 | 0, _, _ => none
 | k + 1, x0, x4 => if x4 ≤ 4 then (burinref01_Decode.j1 k x0 x4 (decide (x4 ≤ (x0.size : Int)))) else (burinref01_Decode.j1 k x0 x4 false)
def burinref01_Decode.j1 : Nat → ByteArray → Int → Bool → Option (Int × Int)
 | 0, _, _, _ => none
 | k + 1, x0, x4, x17 => if x17 = true then ((burinref01_said.f x0 x4).bind fun t498 => ((burinref01_Encode.f k t498).bind fun bt499 => (if bt499.2 = 0 then (if 0 ≤ x4 then (if x4 ≤ (x0.size : Int) then (if bt499.1.toList = (x0.extract 0 (x4 : Int).toNat).toList then (some (t498, x4)) else (burinref01_Decode.l0 k x0 (wrap64 (x4 + 1)))) else (none)) else (none)) else (burinref01_Decode.l0 k x0 (wrap64 (x4 + 1)))))) else (some ((-1), 1))
end
def burinref01_Decode.f (k : Nat) (a0 : ByteArray) : Option (Int × Int) := if a0.toList = ([] : List UInt8) then (some ((-1), 0)) else (burinref01_Decode.l0 k a0 1)
set_option maxHeartbeats 8000000 in
set_option maxRecDepth 100000 in
theorem burinref01_Decode.calls (k : Nat) (a0 : ByteArray) (r1 : Int) (r2 : Int) (w : World) (h : burinref01_Decode.f k a0 = some (r1, r2)) :
  Calls Tryz.prog 101 #[.string a0] w fun e w' => e = .returned (.tuple #[.int .i64 r1, .int .i64 r2]) ∧ Below w.heap.size w w' := by
 have HB := Aside0.mk (Below.refl w.heap.size w)
 have H : (if a0.toList = ([] : List UInt8) then (some ((-1), 0)) else (burinref01_Decode.l0 k a0 1)) = some (r1, r2) := h
 clear h
 by_cases c2 : a0.toList = ([] : List UInt8)
 ·rw [if_pos c2] at H
  have c2b0 := beq_iff_eq.mpr c2
  have c2b1 := bne_eq_false_iff_eq.mpr c2
  clear c2
  simp only [Option.some.injEq, Prod.mk.injEq] at H
  obtain ⟨rfl, rfl⟩ := H
  go_enter Tryz.func101, Tryz.ntmps101
  go_wp2
  go_ret2
  exact ⟨fz, bz⟩
 rw [if_neg c2] at H
 have c2b0 := beq_eq_false_iff_ne.mpr c2
 have c2b1 := bne_iff_ne.mpr c2
 have H' := Aside0.mk H
 clear H
 go_enter Tryz.func101, Tryz.ntmps101
 go_wp2
 go_loopg [4] k (fun kq v4 w' => ∃ (x4_1 : Int), v4 = .int .i64 x4_1 ∧ Aside0 (burinref01_Decode.l0 kq a0 x4_1 = some (r1, r2)) ∧ Aside0 (kq ≤ k) ∧ Aside0 (Below w.heap.size w w'))
 case atStart => exact ⟨(1), ez, H', ⟨Nat.le_refl _⟩, ⟨bz⟩⟩
 clear H'
 try clear c1
 try clear c2
 try clear c2b0 c2b1
 try clear p2
 obtain ⟨x4_1, rfl, HA, HK1, HB⟩ := hrel
 cases gk with
 | zero => exact absurd HA.out (by simp [burinref01_Decode.l0])
 | succ k1 =>
  have H := HA.out
  clear HA
  simp only [burinref01_Decode.l0] at H
  have HC3 := Aside0.mk H
  clear H
  go_upto_region 4 with (fail)
  go_cut [17] (fun v17 wc => ∃ (kq : Nat) (x17_2 : Bool), v17 = .bool x17_2 ∧ Aside0 (burinref01_Decode.j1 kq a0 x4_1 x17_2 = some (r1, r2)) ∧ Aside0 (kq ≤ k1) ∧ Aside0 (Below w.heap.size w wc))
  case first =>
   have H := HC3.out
   clear HC3
   by_cases c4 : x4_1 ≤ 4
   ·rw [if_pos c4] at H
    have c4b0 := decide_eq_true c4
    clear c4
    (first | rw [c4b0] | (simp only [i64_w, i32_w]; rw [c4b0]) | skip)
    have H' := Aside0.mk H
    clear H
    go_wp2
    go_meet
    case rel => exact ⟨_, (decide (x4_1 ≤ (a0.size : Int))), ez, H', ⟨by have := HK1.out; first | omega | exact Nat.le_refl _⟩, ⟨bz⟩⟩
   rw [if_neg c4] at H
   have c4b0 := decide_eq_false c4
   clear c4
   (first | rw [c4b0] | (simp only [i64_w, i32_w]; rw [c4b0]) | skip)
   have H' := Aside0.mk H
   clear H
   go_wp2
   go_meet
   case rel => exact ⟨_, (false), ez, H', ⟨by have := HK1.out; first | omega | exact Nat.le_refl _⟩, ⟨bz⟩⟩
  clear HC3
  try clear c1
  try clear c2
  try clear c2b0 c2b1
  try clear p2
  try clear c4
  try clear c4b0
  try clear p2
  obtain ⟨kq, x17_2, rfl, HA, HJ2, HB⟩ := hcut
  cases kq with
  | zero => exact absurd HA.out (by simp [burinref01_Decode.j1])
  | succ kj2 =>
   have H := HA.out
   clear HA
   simp only [burinref01_Decode.j1] at H
   by_cases c5 : x17_2 = true
   ·subst c5
    rw [if_pos rfl] at H
    replace H := Option.bind_eq_some_iff.mp H
    obtain ⟨t498, A60, H⟩ := H
    try dsimp only at H
    have A6 := Aside0.mk A60
    clear A60
    replace H := Option.bind_eq_some_iff.mp H
    obtain ⟨⟨t499, t500⟩, A70, H⟩ := H
    try dsimp only at H
    have A7 := Aside0.mk A70
    clear A70
    by_cases c8 : t500 = 0
    ·rw [if_pos c8] at H
     have c8b0 := beq_iff_eq.mpr c8
     have c8b1 := bne_eq_false_iff_eq.mpr c8
     clear c8
     by_cases c9 : 0 ≤ x4_1
     rotate_left
     ·exact nomatch (if_neg c9).symm.trans H
     rw [if_pos c9] at H
     have c9b0 := eq_true c9
     have c9b1 := decide_eq_true c9
     clear c9
     by_cases c10 : x4_1 ≤ (a0.size : Int)
     rotate_left
     ·exact nomatch (if_neg c10).symm.trans H
     rw [if_pos c10] at H
     have c10b0 := eq_true c10
     have c10b1 := decide_eq_true c10
     clear c10
     by_cases c11 : t499.toList = (a0.extract 0 (x4_1 : Int).toNat).toList
     ·rw [if_pos c11] at H
      have c11b0 := beq_iff_eq.mpr c11
      have c11b1 := bne_eq_false_iff_eq.mpr c11
      clear c11
      simp only [Option.some.injEq, Prod.mk.injEq] at H
      obtain ⟨rfl, rfl⟩ := H
      go_wp2_with (first | ((with_reducible refine gate_callee (f := 123) rfl ?_); refine goesL_ (some 22) rfl rfl Tryz.func123 kz rfl #[.string a0, .int .i64 x4_1] rfl mz ?_; (with_reducible refine (burinref01_said.calls a0 x4_1 t498 _ A6.out).mono ?_); rintro e w' ⟨rfl, ⟨nd, rfl⟩⟩; refine ⟨_, rfl, ?_⟩) | ((with_reducible refine gate_callee (f := 124) rfl ?_); refine goesL_ (some 25) rfl rfl Tryz.func124 kz rfl #[.int .i64 t498] rfl mz ?_; (with_reducible refine (burinref01_Encode.calls kj2 t498 t499 t500 _ A7.out).mono ?_); rintro e w12 ⟨rfl, hb⟩; refine ⟨_, rfl, ?_⟩; replace HB := hz hb; (try clear hb); (try clear hb2); (try clear hk); (try clear hi)))
      go_ret2
      exact ⟨fz, bz⟩
     rw [if_neg c11] at H
     have c11b0 := beq_eq_false_iff_ne.mpr c11
     have c11b1 := bne_iff_ne.mpr c11
     have H' := Aside0.mk H
     clear H
     go_wp2_with (first | ((with_reducible refine gate_callee (f := 123) rfl ?_); refine goesL_ (some 22) rfl rfl Tryz.func123 kz rfl #[.string a0, .int .i64 x4_1] rfl mz ?_; (with_reducible refine (burinref01_said.calls a0 x4_1 t498 _ A6.out).mono ?_); rintro e w' ⟨rfl, ⟨nd, rfl⟩⟩; refine ⟨_, rfl, ?_⟩) | ((with_reducible refine gate_callee (f := 124) rfl ?_); refine goesL_ (some 25) rfl rfl Tryz.func124 kz rfl #[.int .i64 t498] rfl mz ?_; (with_reducible refine (burinref01_Encode.calls kj2 t498 t499 t500 _ A7.out).mono ?_); rintro e w13 ⟨rfl, hb⟩; refine ⟨_, rfl, ?_⟩; replace HB := hz hb; (try clear hb); (try clear hb2); (try clear hk); (try clear hi)))
     go_roundg kj2
     case measure => have := HK1.out; have := HJ2.out; omega
     case rel => exact ⟨(wrap64 (x4_1 + 1)), ez, H', ⟨by have := HK1.out; have := HJ2.out; omega⟩, ⟨bz⟩⟩
    rw [if_neg c8] at H
    have c8b0 := beq_eq_false_iff_ne.mpr c8
    have c8b1 := bne_iff_ne.mpr c8
    have H' := Aside0.mk H
    clear H
    go_wp2_with (first | ((with_reducible refine gate_callee (f := 123) rfl ?_); refine goesL_ (some 22) rfl rfl Tryz.func123 kz rfl #[.string a0, .int .i64 x4_1] rfl mz ?_; (with_reducible refine (burinref01_said.calls a0 x4_1 t498 _ A6.out).mono ?_); rintro e w' ⟨rfl, ⟨nd, rfl⟩⟩; refine ⟨_, rfl, ?_⟩) | ((with_reducible refine gate_callee (f := 124) rfl ?_); refine goesL_ (some 25) rfl rfl Tryz.func124 kz rfl #[.int .i64 t498] rfl mz ?_; (with_reducible refine (burinref01_Encode.calls kj2 t498 t499 t500 _ A7.out).mono ?_); rintro e w14 ⟨rfl, hb⟩; refine ⟨_, rfl, ?_⟩; replace HB := hz hb; (try clear hb); (try clear hb2); (try clear hk); (try clear hi)))
    go_roundg kj2
    case measure => have := HK1.out; have := HJ2.out; omega
    case rel => exact ⟨(wrap64 (x4_1 + 1)), ez, H', ⟨by have := HK1.out; have := HJ2.out; omega⟩, ⟨bz⟩⟩
   replace c5 := Bool.eq_false_iff.mpr c5
   subst c5
   rw [if_neg (show ¬ (false = true) by decide)] at H
   simp only [Option.some.injEq, Prod.mk.injEq] at H
   obtain ⟨rfl, rfl⟩ := H
   go_wp2
   go_ret2
   exact ⟨fz, bz⟩
def burinref07_one.f (k : Nat) (a0 : ByteArray) : Option (Int × Int × Int) := if a0.toList = ([] : List UInt8) then (some (0, 0, 82)) else (if 0 < (a0.size : Int) then (if (bt a0 0) = 92 then ((burinref07_Number.f k a0).bind fun bt501 => (some (bt501.1, bt501.2.1, bt501.2.2))) else ((burinref01_Decode.f k a0).bind fun bt504 => (if bt504.1 < 0 then (some (0, 0, 3)) else (some (bt504.1, bt504.2, 0))))) else (none))
set_option maxHeartbeats 8000000 in
set_option maxRecDepth 100000 in
theorem burinref07_one.calls (k : Nat) (a0 : ByteArray) (r1 : Int) (r2 : Int) (r3 : Int) (w : World) (h : burinref07_one.f k a0 = some (r1, r2, r3)) :
  Calls Tryz.prog 72 #[.string a0] w fun e w' => e = .returned (.tuple #[.int .i64 r1, .int .i64 r2, .int .i64 r3]) ∧ Below w.heap.size w w' := by
 have HB := Aside0.mk (Below.refl w.heap.size w)
 have H : (if a0.toList = ([] : List UInt8) then (some (0, 0, 82)) else (if 0 < (a0.size : Int) then (if (bt a0 0) = 92 then ((burinref07_Number.f k a0).bind fun bt501 => (some (bt501.1, bt501.2.1, bt501.2.2))) else ((burinref01_Decode.f k a0).bind fun bt504 => (if bt504.1 < 0 then (some (0, 0, 3)) else (some (bt504.1, bt504.2, 0))))) else (none))) = some (r1, r2, r3) := h
 clear h
 by_cases c2 : a0.toList = ([] : List UInt8)
 ·rw [if_pos c2] at H
  have c2b0 := beq_iff_eq.mpr c2
  have c2b1 := bne_eq_false_iff_eq.mpr c2
  clear c2
  simp only [Option.some.injEq, Prod.mk.injEq] at H
  obtain ⟨rfl, rfl, rfl⟩ := H
  go_enter Tryz.func72, Tryz.ntmps72
  go_wp2
  go_ret3
  exact ⟨fz, bz⟩
 rw [if_neg c2] at H
 have c2b0 := beq_eq_false_iff_ne.mpr c2
 have c2b1 := bne_iff_ne.mpr c2
 by_cases c3 : 0 < (a0.size : Int)
 rotate_left
 ·exact nomatch (if_neg c3).symm.trans H
 rw [if_pos c3] at H
 have c3b0 := decide_eq_true c3
 have c3b1 : decide (0 < a0.size) = true := decide_eq_true (by omega)
 clear c3
 by_cases c5 : (bt a0 0) = 92
 ·rw [if_pos c5] at H
  have c5b0 := beq_iff_eq.mpr c5
  have c5b1 := bne_eq_false_iff_eq.mpr c5
  clear c5
  replace H := Option.bind_eq_some_iff.mp H
  obtain ⟨⟨t501, t502, t503⟩, A60, H⟩ := H
  try dsimp only at H
  have A6 := Aside0.mk A60
  clear A60
  simp only [Option.some.injEq, Prod.mk.injEq] at H
  obtain ⟨rfl, rfl, rfl⟩ := H
  have q4 : 0 < a0.size := (by have : (0 : Int) < (a0.size : Int) := oz; omega)
  have hx4 : ∀ h : 0 < a0.size, ((a0[0]'h).toNat : Int) = bt a0 0 := bt_at a0 0
  have qi4 : (0 < (a0.size : Int)) = True := eq_true (oz)
  replace q4 := eq_true q4
  go_enter Tryz.func72, Tryz.ntmps72
  go_wp2_with (first | ((with_reducible refine gate_callee (f := 10) rfl ?_); refine goesL_ (some 13) rfl rfl Tryz.func10 kz rfl #[.string a0] rfl mz ?_; (with_reducible refine (burinref07_Number.calls k a0 t501 t502 t503 _ A6.out).mono ?_); rintro e w' ⟨rfl, ⟨nd, rfl⟩⟩; refine ⟨_, rfl, ?_⟩))
  go_ret3
  exact ⟨fz, bz⟩
 rw [if_neg c5] at H
 have c5b0 := beq_eq_false_iff_ne.mpr c5
 have c5b1 := bne_iff_ne.mpr c5
 replace H := Option.bind_eq_some_iff.mp H
 obtain ⟨⟨t504, t505⟩, A70, H⟩ := H
 try dsimp only at H
 have A7 := Aside0.mk A70
 clear A70
 by_cases c8 : t504 < 0
 ·rw [if_pos c8] at H
  have c8b0 := decide_eq_true c8
  clear c8
  simp only [Option.some.injEq, Prod.mk.injEq] at H
  obtain ⟨rfl, rfl, rfl⟩ := H
  have q4 : 0 < a0.size := (by have : (0 : Int) < (a0.size : Int) := oz; omega)
  have hx4 : ∀ h : 0 < a0.size, ((a0[0]'h).toNat : Int) = bt a0 0 := bt_at a0 0
  have qi4 : (0 < (a0.size : Int)) = True := eq_true (oz)
  replace q4 := eq_true q4
  go_enter Tryz.func72, Tryz.ntmps72
  go_wp2_with (first | ((with_reducible refine gate_callee (f := 101) rfl ?_); refine goesL_ (some 19) rfl rfl Tryz.func101 kz rfl #[.string a0] rfl mz ?_; (with_reducible refine (burinref01_Decode.calls k a0 t504 t505 _ A7.out).mono ?_); rintro e w9 ⟨rfl, hb⟩; refine ⟨_, rfl, ?_⟩; replace HB := hz hb; (try clear hb); (try clear hb2); (try clear hk); (try clear hi)))
  go_ret3
  exact ⟨fz, bz⟩
 rw [if_neg c8] at H
 have c8b0 := decide_eq_false c8
 clear c8
 simp only [Option.some.injEq, Prod.mk.injEq] at H
 obtain ⟨rfl, rfl, rfl⟩ := H
 have q4 : 0 < a0.size := (by have : (0 : Int) < (a0.size : Int) := oz; omega)
 have hx4 : ∀ h : 0 < a0.size, ((a0[0]'h).toNat : Int) = bt a0 0 := bt_at a0 0
 have qi4 : (0 < (a0.size : Int)) = True := eq_true (oz)
 replace q4 := eq_true q4
 go_enter Tryz.func72, Tryz.ntmps72
 go_wp2_with (first | ((with_reducible refine gate_callee (f := 101) rfl ?_); refine goesL_ (some 19) rfl rfl Tryz.func101 kz rfl #[.string a0] rfl mz ?_; (with_reducible refine (burinref01_Decode.calls k a0 t504 t505 _ A7.out).mono ?_); rintro e w10 ⟨rfl, hb⟩; refine ⟨_, rfl, ?_⟩; replace HB := hz hb; (try clear hb); (try clear hb2); (try clear hk); (try clear hi)))
 go_ret3
 exact ⟨fz, bz⟩
end Go.Proofs.YtheheijhijeljaaGreatDoor.HBracketReads
