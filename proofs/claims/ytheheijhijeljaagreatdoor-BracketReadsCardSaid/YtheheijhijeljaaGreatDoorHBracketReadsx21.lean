-- Made by wip/hyb (a program of this session over the kit's print); its parts marked 'own text' are typed by hand.
import Derived.Test.YtheheijhijeljaaGreatDoorHBracketReadsx3
import Derived.Test.YtheheijhijeljaaGreatDoorHBracketReadsx20
namespace Go.Proofs.YtheheijhijeljaaGreatDoor.HBracketReads
open Go.RowKit Go.Proofs.YtheheijhijeljaaGreatDoorW.PrintWords Go.Proofs.YtheheijhijeljaaGreatDoorW.PrintLast Go.Proofs.YtheheijhijeljaaGreatDoorW.PrintMore
attribute [local go_sem] max2_int min2_int max_two min_two max_three min_three max_four min_four   -- for this text's walks alone
set_option linter.unusedVariables false
set_option linter.unusedSimpArgs false
mutual
def burinref07_item.j0 : Nat → ByteArray → Int → ByteArray → Bool → Option ((List (S36)) × Int × Int)
 | 0, _, _, _, _ => none
 | k + 1, x0, x1, x7, x39 => if x39 = true then (burinref07_item.l0 k x1 x7 2) else ((burinref07_Set.f k x7).bind fun bt510 => (if bt510.2.2 = 0 then (some (bt510.1, wrap64 (x1 + bt510.2.1), 0)) else (if bt510.2.2 = 5 then (burinref07_item.j3 k x0 x1 x7 bt510.2.2 false) else (burinref07_item.j3 k x0 x1 x7 bt510.2.2 (bt510.2.2 != 3)))))
def burinref07_item.l0 : Nat → Int → ByteArray → Int → Option ((List (S36)) × Int × Int)
 | 0, _, _, _ => none
 | k + 1, x1, x7, x8 => if (wrap64 (x8 + 1)) < (x7.size : Int) then (if 0 ≤ x8 then (if x8 < (x7.size : Int) then (if (bt x7 x8) = 58 then (if 0 ≤ (wrap64 (x8 + 1)) then (burinref07_item.j2 k x1 x7 x8 ((bt x7 (wrap64 (x8 + 1))) == 93)) else (none)) else (burinref07_item.j2 k x1 x7 x8 false)) else (none)) else (none)) else (some (([] : List (S36)), x1, 82))
def burinref07_item.j2 : Nat → Int → ByteArray → Int → Bool → Option ((List (S36)) × Int × Int)
 | 0, _, _, _, _ => none
 | k + 1, x1, x7, x8, x57 => if x57 = true then (if 2 ≤ x8 then (if x8 ≤ (x7.size : Int) then ((burinref04_Colon.f k (x7.extract 2 (x8 : Int).toNat)).bind fun bt506 => (if bt506.2 = 0 then (some (bt506.1, wrap64 ((wrap64 (x1 + x8)) + 2), 0)) else (some (([] : List (S36)), x1, 70)))) else (none)) else (none)) else (burinref07_item.l0 k x1 x7 (wrap64 (x8 + 1)))
def burinref07_item.j3 : Nat → ByteArray → Int → ByteArray → Int → Bool → Option ((List (S36)) × Int × Int)
 | 0, _, _, _, _, _ => none
 | k + 1, x0, x1, x7, x13, x91 => if x91 = true then (some (([] : List (S36)), x1, x13)) else ((burinref07_one.f k x7).bind fun bt515 => (if bt515.2.2 = 0 then (if (wrap64 ((wrap64 (x1 + bt515.2.1)) + 1)) ≥ (x0.size : Int) then (burinref07_item.j4 k x0 x1 bt515.1 (wrap64 (x1 + bt515.2.1)) true) else (if 0 ≤ (wrap64 (x1 + bt515.2.1)) then (if (wrap64 (x1 + bt515.2.1)) < (x0.size : Int) then (if (bt x0 (wrap64 (x1 + bt515.2.1))) = 45 then (if 0 ≤ (wrap64 ((wrap64 (x1 + bt515.2.1)) + 1)) then (if (wrap64 ((wrap64 (x1 + bt515.2.1)) + 1)) < (x0.size : Int) then (burinref07_item.j4 k x0 x1 bt515.1 (wrap64 (x1 + bt515.2.1)) ((bt x0 (wrap64 ((wrap64 (x1 + bt515.2.1)) + 1))) == 93)) else (none)) else (none)) else (burinref07_item.j4 k x0 x1 bt515.1 (wrap64 (x1 + bt515.2.1)) true)) else (none)) else (none))) else (some (([] : List (S36)), x1, bt515.2.2))))
def burinref07_item.j4 : Nat → ByteArray → Int → Int → Int → Bool → Option ((List (S36)) × Int × Int)
 | 0, _, _, _, _, _ => none
 | k + 1, x0, x1, x14, x17, x124 => if x124 = true then (some ((([(⟨x14, x14⟩ : S36)] : List (S36))), x17, 0)) else (if 0 ≤ (wrap64 (x17 + 1)) then (if (wrap64 (x17 + 1)) ≤ (x0.size : Int) then ((burinref07_Set.f k (x0.extract ((wrap64 (x17 + 1)) : Int).toNat x0.size)).bind fun bt521 => (if bt521.2.2 = 5 then (burinref07_item.j5 k x0 x1 x14 (wrap64 (x17 + 1)) false) else (burinref07_item.j5 k x0 x1 x14 (wrap64 (x17 + 1)) (bt521.2.2 != 3)))) else (none)) else (none))
def burinref07_item.j5 : Nat → ByteArray → Int → Int → Int → Bool → Option ((List (S36)) × Int × Int)
 | 0, _, _, _, _, _ => none
 | k + 1, x0, x1, x14, x17, x145 => if x145 = true then (some (([] : List (S36)), x17, 70)) else (if 0 ≤ x17 then (if x17 ≤ (x0.size : Int) then ((burinref07_one.f k (x0.extract (x17 : Int).toNat x0.size)).bind fun bt526 => (if bt526.2.2 = 0 then (if bt526.1 < x14 then (some (([] : List (S36)), x1, 70)) else (some ((([(⟨x14, bt526.1⟩ : S36)] : List (S36))), wrap64 (x17 + bt526.2.1), 0))) else (some (([] : List (S36)), x17, bt526.2.2)))) else (none)) else (none))
end
def burinref07_item.f (k : Nat) (a0 : ByteArray) (a1 : Int) : Option ((List (S36)) × Int × Int) := if 0 ≤ a1 then (if a1 ≤ (a0.size : Int) then (if ((a0.extract (a1 : Int).toNat a0.size).size : Int) > 1 then (if 0 < ((a0.extract (a1 : Int).toNat a0.size).size : Int) then (if (bt (a0.extract (a1 : Int).toNat a0.size) 0) = 91 then (if 1 < ((a0.extract (a1 : Int).toNat a0.size).size : Int) then (burinref07_item.j0 k a0 a1 (a0.extract (a1 : Int).toNat a0.size) ((bt (a0.extract (a1 : Int).toNat a0.size) 1) == 58)) else (none)) else (burinref07_item.j0 k a0 a1 (a0.extract (a1 : Int).toNat a0.size) false)) else (none)) else (burinref07_item.j0 k a0 a1 (a0.extract (a1 : Int).toNat a0.size) false)) else (none)) else (none)
set_option maxHeartbeats 8000000 in
set_option maxRecDepth 100000 in
theorem burinref07_item.calls (k : Nat) (a0 : ByteArray) (a1 : Int) (r1 : List (S36)) (r2 : Int) (r3 : Int) (w : World) (h : burinref07_item.f k a0 a1 = some (r1, r2, r3)) :
  Calls Tryz.prog 37 #[.string a0, .int .i64 a1] w fun e w' => ∃ v0_ : Value, e = .returned (.tuple #[v0_, .int .i64 r2, .int .i64 r3]) ∧ Kd.R k36 36 w' w.heap.size (fun _ => True) v0_ r1 ∧ Below w.heap.size w w' := by
 have hu36 := Tryz.underlying36
 have HB := Aside0.mk (Below.refl w.heap.size w)
 have H : (if 0 ≤ a1 then (if a1 ≤ (a0.size : Int) then (if ((a0.extract (a1 : Int).toNat a0.size).size : Int) > 1 then (if 0 < ((a0.extract (a1 : Int).toNat a0.size).size : Int) then (if (bt (a0.extract (a1 : Int).toNat a0.size) 0) = 91 then (if 1 < ((a0.extract (a1 : Int).toNat a0.size).size : Int) then (burinref07_item.j0 k a0 a1 (a0.extract (a1 : Int).toNat a0.size) ((bt (a0.extract (a1 : Int).toNat a0.size) 1) == 58)) else (none)) else (burinref07_item.j0 k a0 a1 (a0.extract (a1 : Int).toNat a0.size) false)) else (none)) else (burinref07_item.j0 k a0 a1 (a0.extract (a1 : Int).toNat a0.size) false)) else (none)) else (none)) = some (r1, r2, r3) := h
 clear h
 by_cases c3 : 0 ≤ a1
 rotate_left
 ·exact nomatch (if_neg c3).symm.trans H
 rw [if_pos c3] at H
 have c3b0 := eq_true c3
 have c3b1 := decide_eq_true c3
 clear c3
 by_cases c4 : a1 ≤ (a0.size : Int)
 rotate_left
 ·exact nomatch (if_neg c4).symm.trans H
 rw [if_pos c4] at H
 have c4b0 := eq_true c4
 have c4b1 := decide_eq_true c4
 clear c4
 have HC5 := Aside0.mk H
 clear H
 go_enter Tryz.func37, Tryz.ntmps37
 go_upto_region 2 with (fail)
 generalize hrest : a0.extract (a1 : Int).toNat a0.size = rest at HC5 ⊢
 go_cut [39] (fun v39 wc => ∃ (kq : Nat) (x39_4 : Bool), v39 = .bool x39_4 ∧ Aside0 (burinref07_item.j0 kq a0 a1 rest x39_4 = some (r1, r2, r3)) ∧ Aside0 (kq ≤ k) ∧ Aside0 (Below w.heap.size w wc))
 case first =>
  have H := HC5.out
  clear HC5
  by_cases c6 : (rest.size : Int) > 1
  ·rw [if_pos c6] at H
   have c6b0 : decide (1 < (rest.size : Int)) = true := decide_eq_true c6
   have c6b1 : decide (1 < rest.size) = true := decide_eq_true (by omega)
   clear c6
   (first | rw [c6b0] | (simp only [i64_w, i32_w]; rw [c6b0]) | skip)
   by_cases c7 : 0 < (rest.size : Int)
   rotate_left
   ·exact nomatch (if_neg c7).symm.trans H
   rw [if_pos c7] at H
   have c7b0 := decide_eq_true c7
   have c7b1 : decide (0 < rest.size) = true := decide_eq_true (by omega)
   clear c7
   by_cases c9 : (bt rest 0) = 91
   ·rw [if_pos c9] at H
    have c9b0 := beq_iff_eq.mpr c9
    have c9b1 := bne_eq_false_iff_eq.mpr c9
    clear c9
    by_cases c10 : 1 < (rest.size : Int)
    rotate_left
    ·exact nomatch (if_neg c10).symm.trans H
    rw [if_pos c10] at H
    have c10b0 := decide_eq_true c10
    have c10b1 : decide (1 < rest.size) = true := decide_eq_true (by omega)
    clear c10
    have H' := Aside0.mk H
    clear H
    have q8 : 0 < rest.size := (by have : (0 : Int) < (rest.size : Int) := oz; omega)
    have hx8 : ∀ h : 0 < rest.size, ((rest[0]'h).toNat : Int) = bt rest 0 := bt_at rest 0
    have qi8 : (0 < (rest.size : Int)) = True := eq_true (oz)
    replace q8 := eq_true q8
    have q11 : 1 < rest.size := (by have : (1 : Int) < (rest.size : Int) := oz; omega)
    have hx11 : ∀ h : 1 < rest.size, ((rest[1]'h).toNat : Int) = bt rest 1 := bt_at rest 1
    have qi11 : (1 < (rest.size : Int)) = True := eq_true (oz)
    replace q11 := eq_true q11
    go_wp2
    go_meet
    case rel => exact ⟨_, (((bt rest 1) == 58)), ez, H', ⟨by first | omega | exact Nat.le_refl _⟩, ⟨bz⟩⟩
   rw [if_neg c9] at H
   have c9b0 := beq_eq_false_iff_ne.mpr c9
   have c9b1 := bne_iff_ne.mpr c9
   have H' := Aside0.mk H
   clear H
   have q8 : 0 < rest.size := (by have : (0 : Int) < (rest.size : Int) := oz; omega)
   have hx8 : ∀ h : 0 < rest.size, ((rest[0]'h).toNat : Int) = bt rest 0 := bt_at rest 0
   have qi8 : (0 < (rest.size : Int)) = True := eq_true (oz)
   replace q8 := eq_true q8
   go_wp2
   go_meet
   case rel => exact ⟨_, (false), ez, H', ⟨by first | omega | exact Nat.le_refl _⟩, ⟨bz⟩⟩
  rw [if_neg c6] at H
  have c6b0 : decide (1 < (rest.size : Int)) = false := decide_eq_false c6
  have c6b1 : decide (1 < rest.size) = false := decide_eq_false (by omega)
  clear c6
  (first | rw [c6b0] | (simp only [i64_w, i32_w]; rw [c6b0]) | skip)
  have H' := Aside0.mk H
  clear H
  go_wp2
  go_meet
  case rel => exact ⟨_, (false), ez, H', ⟨by first | omega | exact Nat.le_refl _⟩, ⟨bz⟩⟩
 clear HC5
 try clear c1
 try clear p1
 try clear q1
 try clear hx1
 try clear qi1
 try clear p2
 try clear c3
 try clear c3b0 c3b1
 try clear c4
 try clear c4b0 c4b1
 try clear c6
 try clear c6b0 c6b1
 try clear c7
 try clear c7b0 c7b1
 try clear p8
 try clear q8
 try clear hx8
 try clear qi8
 try clear c9
 try clear c9b0 c9b1
 try clear c10
 try clear c10b0 c10b1
 try clear p11
 try clear q11
 try clear hx11
 try clear qi11
 try clear p11
 try clear p8
 try clear q11
 try clear q8
 obtain ⟨kq, x39_4, rfl, HA, HJ4, HB⟩ := hcut
 cases kq with
 | zero => exact absurd HA.out (by simp [burinref07_item.j0])
 | succ kj4 =>
  have H := HA.out
  clear HA
  simp only [burinref07_item.j0] at H
  by_cases c12 : x39_4 = true
  ·subst c12
   rw [if_pos rfl] at H
   have H' := Aside0.mk H
   clear H
   go_wp2
   go_loopg [8] kj4 (fun kq v8 w' => ∃ (x8_2 : Int), v8 = .int .i64 x8_2 ∧ Aside0 (burinref07_item.l0 kq a1 rest x8_2 = some (r1, r2, r3)) ∧ Aside0 (kq ≤ kj4) ∧ Aside0 (Below w.heap.size w w'))
   case atStart => exact ⟨(2), ez, H', ⟨Nat.le_refl _⟩, ⟨bz⟩⟩
   clear H'
   try clear c1
   try clear p1
   try clear q1
   try clear hx1
   try clear qi1
   try clear p2
   try clear c3
   try clear c3b0 c3b1
   try clear c4
   try clear c4b0 c4b1
   try clear c6
   try clear c6b0 c6b1
   try clear c7
   try clear c7b0 c7b1
   try clear p8
   try clear q8
   try clear hx8
   try clear qi8
   try clear c9
   try clear c9b0 c9b1
   try clear c10
   try clear c10b0 c10b1
   try clear p11
   try clear q11
   try clear hx11
   try clear qi11
   try clear c12
   try clear p1
   try clear p11
   try clear p2
   try clear p8
   try clear q1
   try clear q11
   try clear q8
   obtain ⟨x8_2, rfl, HA, HK2, HB⟩ := hrel
   cases gk with
   | zero => exact absurd HA.out (by simp [burinref07_item.l0])
   | succ k2 =>
    have H := HA.out
    clear HA
    simp only [burinref07_item.l0] at H
    by_cases c13 : (wrap64 (x8_2 + 1)) < (rest.size : Int)
    ·rw [if_pos c13] at H
     have c13b0 := decide_eq_true c13
     clear c13
     have HC14 := Aside0.mk H
     clear H
     go_upto_region 6 with (fail)
     go_cut [57] (fun v57 wc => ∃ (kq : Nat) (x57_13 : Bool), v57 = .bool x57_13 ∧ Aside0 (burinref07_item.j2 kq a1 rest x8_2 x57_13 = some (r1, r2, r3)) ∧ Aside0 (kq ≤ k2) ∧ Aside0 (Below w.heap.size w wc))
     case first =>
      have H := HC14.out
      clear HC14
      by_cases c15 : 0 ≤ x8_2
      rotate_left
      ·exact nomatch (if_neg c15).symm.trans H
      rw [if_pos c15] at H
      have c15b0 := decide_eq_true c15
      clear c15
      (first | rw [c15b0] | (simp only [i64_w, i32_w]; rw [c15b0]) | skip)
      by_cases c16 : x8_2 < (rest.size : Int)
      rotate_left
      ·exact nomatch (if_neg c16).symm.trans H
      rw [if_pos c16] at H
      have c16b0 := decide_eq_true c16
      clear c16
      by_cases c18 : (bt rest x8_2) = 58
      ·rw [if_pos c18] at H
       have c18b0 := beq_iff_eq.mpr c18
       have c18b1 := bne_eq_false_iff_eq.mpr c18
       clear c18
       obtain ⟨ji19, hji19⟩ : ∃ j_ : Int, (wrap64 (x8_2 + 1)) = j_ := ⟨_, rfl⟩
       replace H : (if 0 ≤ (ji19) then (burinref07_item.j2 k2 a1 rest x8_2 ((bt rest (ji19)) == 93)) else (none)) = some (r1, r2, r3) := by first | (rw [hji19] at H; exact H) | (simp only [hji19] at H ⊢; exact H)
       (try rw [hji19] at c13b0)
       have hji19w : (IntKind.i64.wrap (x8_2 + 1)) = ji19 := (i64_w _).trans hji19
       by_cases c20 : 0 ≤ (ji19)
       rotate_left
       ·exact nomatch (if_neg c20).symm.trans H
       rw [if_pos c20] at H
       have c20b0 := decide_eq_true c20
       clear c20
       have H' := Aside0.mk H
       clear H
       have p17 : 0 ≤ (x8_2 : Int) := oz
       have q17 : x8_2 < (rest.size : Int) := oz
       have hx17 := bt_at rest x8_2
       replace p17 := eq_true p17
       replace q17 := eq_true q17
       have p21 : 0 ≤ ((ji19) : Int) := oz
       have q21 : (ji19) < (rest.size : Int) := oz
       have hx21 := bt_at rest (ji19)
       replace p21 := eq_true p21
       replace q21 := eq_true q21
       go_wp2
       go_meet
       case rel => exact ⟨_, (((bt rest (ji19)) == 93)), (by first | rfl | (simp; done) | (simp only [← hji19] <;> (first | rfl | (simp; done) | (simp; intro hh; exact absurd hh (by have hq := of_decide_eq_true c48b0; rw [hji19]; omega)))) | (simp [*]; done)), H', ⟨by have := HJ4.out; have := HK2.out; first | omega | exact Nat.le_refl _⟩, ⟨bz⟩⟩
      rw [if_neg c18] at H
      have c18b0 := beq_eq_false_iff_ne.mpr c18
      have c18b1 := bne_iff_ne.mpr c18
      have H' := Aside0.mk H
      clear H
      have p17 : 0 ≤ (x8_2 : Int) := oz
      have q17 : x8_2 < (rest.size : Int) := oz
      have hx17 := bt_at rest x8_2
      replace p17 := eq_true p17
      replace q17 := eq_true q17
      go_wp2
      go_meet
      case rel => exact ⟨_, (false), ez, H', ⟨by have := HJ4.out; have := HK2.out; first | omega | exact Nat.le_refl _⟩, ⟨bz⟩⟩
     clear HC14
     try clear c1
     try clear p1
     try clear q1
     try clear hx1
     try clear qi1
     try clear c2
     try clear p2
     try clear q2
     try clear hx2
     try clear c3
     try clear c3b0 c3b1
     try clear c4
     try clear c4b0 c4b1
     try clear c6
     try clear c6b0 c6b1
     try clear p6
     try clear c7
     try clear c7b0 c7b1
     try clear p8
     try clear q8
     try clear hx8
     try clear qi8
     try clear c9
     try clear c9b0 c9b1
     try clear c10
     try clear c10b0 c10b1
     try clear p11
     try clear q11
     try clear hx11
     try clear qi11
     try clear c12
     try clear c13
     try clear c13b0
     try clear c15
     try clear c15b0
     try clear c16
     try clear c16b0
     try clear p17
     try clear q17
     try clear hx17
     try clear c18
     try clear c18b0 c18b1
     try clear c20
     try clear c20b0
     try clear p21
     try clear q21
     try clear hx21
     try clear p1
     try clear p11
     try clear p17
     try clear p2
     try clear p21
     try clear p8
     try clear q1
     try clear q11
     try clear q17
     try clear q21
     try clear q8
     obtain ⟨kq, x57_13, rfl, HA, HJ13, HB⟩ := hcut
     cases kq with
     | zero => exact absurd HA.out (by simp [burinref07_item.j2])
     | succ kj13 =>
      have H := HA.out
      clear HA
      simp only [burinref07_item.j2] at H
      by_cases c22 : x57_13 = true
      ·subst c22
       rw [if_pos rfl] at H
       by_cases c23 : 2 ≤ x8_2
       rotate_left
       ·exact nomatch (if_neg c23).symm.trans H
       rw [if_pos c23] at H
       have c23b0 := eq_true c23
       have c23b1 := decide_eq_true c23
       clear c23
       by_cases c24 : x8_2 ≤ (rest.size : Int)
       rotate_left
       ·exact nomatch (if_neg c24).symm.trans H
       rw [if_pos c24] at H
       have c24b0 := eq_true c24
       have c24b1 := decide_eq_true c24
       clear c24
       replace H := Option.bind_eq_some_iff.mp H
       obtain ⟨⟨t506, t507⟩, A250, H⟩ := H
       try dsimp only at H
       have A25 := Aside0.mk A250
       clear A250
       by_cases c26 : t507 = 0
       ·rw [if_pos c26] at H
        have c26b0 := beq_iff_eq.mpr c26
        have c26b1 := bne_eq_false_iff_eq.mpr c26
        clear c26
        simp only [Option.some.injEq, Prod.mk.injEq] at H
        obtain ⟨rfl, rfl, rfl⟩ := H
        go_wp2_with (first | ((with_reducible refine gate_callee (f := 71) rfl ?_); refine goesL_ (some 62) rfl rfl Tryz.func71 kz rfl #[.string (rest.extract 2 (x8_2 : Int).toNat)] rfl mz ?_; (with_reducible refine (burinref04_Colon.calls kj13 (rest.extract 2 (x8_2 : Int).toNat) t506 t507 _ A25.out).mono ?_); rintro e w27 ⟨v508, rfl, ho0, hb⟩; refine ⟨_, rfl, ?_⟩; have HO509 := Aside0.mk (Kd.R_lower ho0 (below_size bz)); replace HB := hz hb; (try clear hb); (try clear ho0)))
        go_ret3
        exact ⟨_, fz, rz HO509.out, bz⟩
       rw [if_neg c26] at H
       have c26b0 := beq_eq_false_iff_ne.mpr c26
       have c26b1 := bne_iff_ne.mpr c26
       simp only [Option.some.injEq, Prod.mk.injEq] at H
       obtain ⟨rfl, rfl, rfl⟩ := H
       go_wp2_with (first | ((with_reducible refine gate_callee (f := 71) rfl ?_); refine goesL_ (some 62) rfl rfl Tryz.func71 kz rfl #[.string (rest.extract 2 (x8_2 : Int).toNat)] rfl mz ?_; (with_reducible refine (burinref04_Colon.calls kj13 (rest.extract 2 (x8_2 : Int).toNat) t506 t507 _ A25.out).mono ?_); rintro e w28 ⟨v508, rfl, ho0, hb⟩; refine ⟨_, rfl, ?_⟩; have HO509 := Aside0.mk (Kd.R_lower ho0 (below_size bz)); replace HB := hz hb; (try clear hb); (try clear ho0)))
       go_ret3
       exact ⟨_, fz, by first | exact Kd.R_nil _ _ _ _ _ | exact Kd.N_nil _ _ _ _ _ | exact Kd.V_nil _ _ _ _ _ | exact Kd.Q_nil _ _ _ _ _ | exact Kd.S_nil _ _ _ _ _, bz⟩
      replace c22 := Bool.eq_false_iff.mpr c22
      subst c22
      rw [if_neg (show ¬ (false = true) by decide)] at H
      have H' := Aside0.mk H
      clear H
      go_wp2
      go_roundg kj13
      case measure => have := HJ4.out; have := HK2.out; have := HJ13.out; omega
      case rel => exact ⟨(wrap64 (x8_2 + 1)), ez, H', ⟨by have := HJ4.out; have := HK2.out; have := HJ13.out; omega⟩, ⟨bz⟩⟩
    rw [if_neg c13] at H
    have c13b0 := decide_eq_false c13
    clear c13
    simp only [Option.some.injEq, Prod.mk.injEq] at H
    obtain ⟨rfl, rfl, rfl⟩ := H
    go_wp2
    go_ret3
    exact ⟨_, fz, by first | exact Kd.R_nil _ _ _ _ _ | exact Kd.N_nil _ _ _ _ _ | exact Kd.V_nil _ _ _ _ _ | exact Kd.Q_nil _ _ _ _ _ | exact Kd.S_nil _ _ _ _ _, bz⟩
  replace c12 := Bool.eq_false_iff.mpr c12
  subst c12
  rw [if_neg (show ¬ (false = true) by decide)] at H
  replace H := Option.bind_eq_some_iff.mp H
  obtain ⟨⟨t510, t511, t512⟩, A290, H⟩ := H
  try dsimp only at H
  have A29 := Aside0.mk A290
  clear A290
  by_cases c30 : t512 = 0
  ·rw [if_pos c30] at H
   have c30b0 := beq_iff_eq.mpr c30
   have c30b1 := bne_eq_false_iff_eq.mpr c30
   clear c30
   simp only [Option.some.injEq, Prod.mk.injEq] at H
   obtain ⟨rfl, rfl, rfl⟩ := H
   go_wp2_with (first | ((with_reducible refine gate_callee (f := 12) rfl ?_); refine goesL_ (some 76) rfl rfl Tryz.func12 kz rfl #[.string rest] rfl mz ?_; (with_reducible refine (burinref07_Set.calls kj4 rest t510 t511 t512 _ A29.out).mono ?_); rintro e w31 ⟨v513, rfl, ho0, hb⟩; refine ⟨_, rfl, ?_⟩; have HO514 := Aside0.mk (Kd.R_lower ho0 (below_size bz)); replace HB := hz hb; (try clear hb); (try clear ho0)))
   go_ret3
   exact ⟨_, fz, rz HO514.out, bz⟩
  rw [if_neg c30] at H
  have c30b0 := beq_eq_false_iff_ne.mpr c30
  have c30b1 := bne_iff_ne.mpr c30
  have HC32 := Aside0.mk H
  clear H
  go_upto_region 15 with (first | ((with_reducible refine gate_callee (f := 12) rfl ?_); refine goesL_ (some 76) rfl rfl Tryz.func12 kz rfl #[.string rest] rfl mz ?_; (with_reducible refine (burinref07_Set.calls kj4 rest t510 t511 t512 _ A29.out).mono ?_); rintro e w33 ⟨v513, rfl, ho0, hb⟩; refine ⟨_, rfl, ?_⟩; have HO514 := Aside0.mk (Kd.R_lower ho0 (below_size bz)); replace HB := hz hb; (try clear hb); (try clear ho0)))
  (try simp only [Act.put, List.setIfInBounds_toArray, List.set_cons_zero, List.set_cons_succ])
  go_cut [91] (fun v91 wc => ∃ (kq : Nat) (x91_31 : Bool), v91 = .bool x91_31 ∧ Aside0 (burinref07_item.j3 kq a0 a1 rest t512 x91_31 = some (r1, r2, r3)) ∧ Aside0 (kq ≤ kj4) ∧ Aside0 (Below w.heap.size w wc))
  case first =>
   have H := HC32.out
   clear HC32
   by_cases c34 : t512 = 5
   ·rw [if_pos c34] at H
    have c34b0 := beq_iff_eq.mpr c34
    have c34b1 := bne_eq_false_iff_eq.mpr c34
    clear c34
    (first | rw [c34b0] | (simp only [i64_w, i32_w]; rw [c34b0]) | skip)
    have H' := Aside0.mk H
    clear H
    go_wp2
    go_meet
    case rel => exact ⟨_, (false), ez, H', ⟨by have := HJ4.out; first | omega | exact Nat.le_refl _⟩, ⟨bz⟩⟩
   rw [if_neg c34] at H
   have c34b0 := beq_eq_false_iff_ne.mpr c34
   have c34b1 := bne_iff_ne.mpr c34
   (first | rw [c34b0] | (simp only [i64_w, i32_w]; rw [c34b0]) | skip)
   have H' := Aside0.mk H
   clear H
   go_wp2
   go_meet
   case rel => exact ⟨_, ((t512 != 3)), ez, H', ⟨by have := HJ4.out; first | omega | exact Nat.le_refl _⟩, ⟨bz⟩⟩
  clear HC32
  try clear c1
  try clear p1
  try clear q1
  try clear hx1
  try clear qi1
  try clear c2
  try clear p2
  try clear q2
  try clear hx2
  try clear c3
  try clear c3b0 c3b1
  try clear c4
  try clear c4b0 c4b1
  try clear c6
  try clear c6b0 c6b1
  try clear p6
  try clear c7
  try clear c7b0 c7b1
  try clear p8
  try clear q8
  try clear hx8
  try clear qi8
  try clear c9
  try clear c9b0 c9b1
  try clear c10
  try clear c10b0 c10b1
  try clear p11
  try clear q11
  try clear hx11
  try clear qi11
  try clear c12
  try clear c13
  try clear c13b0
  try clear c15
  try clear c15b0
  try clear c16
  try clear c16b0
  try clear p17
  try clear q17
  try clear hx17
  try clear c18
  try clear c18b0 c18b1
  try clear c20
  try clear c20b0
  try clear p21
  try clear q21
  try clear hx21
  try clear c22
  try clear c23
  try clear c23b0 c23b1
  try clear c24
  try clear c24b0 c24b1
  try clear c26
  try clear c26b0 c26b1
  try clear c30
  try clear c30b0 c30b1
  try clear c34
  try clear c34b0 c34b1
  try clear p1
  try clear p11
  try clear p17
  try clear p2
  try clear p21
  try clear p6
  try clear p8
  try clear q1
  try clear q11
  try clear q17
  try clear q2
  try clear q21
  try clear q8
  obtain ⟨kq, x91_31, rfl, HA, HJ31, HB⟩ := hcut
  cases kq with
  | zero => exact absurd HA.out (by simp [burinref07_item.j3])
  | succ kj31 =>
   have H := HA.out
   clear HA
   simp only [burinref07_item.j3] at H
   by_cases c35 : x91_31 = true
   ·subst c35
    rw [if_pos rfl] at H
    simp only [Option.some.injEq, Prod.mk.injEq] at H
    obtain ⟨rfl, rfl, rfl⟩ := H
    go_wp2
    go_ret3
    exact ⟨_, fz, by first | exact Kd.R_nil _ _ _ _ _ | exact Kd.N_nil _ _ _ _ _ | exact Kd.V_nil _ _ _ _ _ | exact Kd.Q_nil _ _ _ _ _ | exact Kd.S_nil _ _ _ _ _, bz⟩
   replace c35 := Bool.eq_false_iff.mpr c35
   subst c35
   rw [if_neg (show ¬ (false = true) by decide)] at H
   replace H := Option.bind_eq_some_iff.mp H
   obtain ⟨⟨t515, t516, t517⟩, A360, H⟩ := H
   try dsimp only at H
   have A36 := Aside0.mk A360
   clear A360
   by_cases c37 : t517 = 0
   ·rw [if_pos c37] at H
    have c37b0 := beq_iff_eq.mpr c37
    have c37b1 := bne_eq_false_iff_eq.mpr c37
    clear c37
    have HC38 := Aside0.mk H
    clear H
    go_upto_region 21 with (first | ((with_reducible refine gate_callee (f := 72) rfl ?_); refine goesL_ (some 96) rfl rfl Tryz.func72 kz rfl #[.string rest] rfl mz ?_; (with_reducible refine (burinref07_one.calls kj31 rest t515 t516 t517 _ A36.out).mono ?_); rintro e w39 ⟨rfl, hb⟩; refine ⟨_, rfl, ?_⟩; replace HB := hz hb; (try clear hb); (try clear hb2); (try clear hk); (try clear hi)))
    (try simp only [Act.put, List.setIfInBounds_toArray, List.set_cons_zero, List.set_cons_succ])
    generalize hnx : wrap64 (a1 + t516) = nx at HC38 ⊢
    go_cut [124] (fun v124 wc => ∃ (kq : Nat) (x124_37 : Bool), v124 = .bool x124_37 ∧ Aside0 (burinref07_item.j4 kq a0 a1 t515 nx x124_37 = some (r1, r2, r3)) ∧ Aside0 (kq ≤ kj31) ∧ Aside0 (Below w.heap.size w wc))
    case first =>
     have H := HC38.out
     clear HC38
     by_cases c40 : (wrap64 (nx + 1)) ≥ (a0.size : Int)
     ·rw [if_pos c40] at H
      have c40b0 : decide ((a0.size : Int) ≤ (wrap64 (nx + 1))) = true := decide_eq_true c40
      clear c40
      (first | rw [c40b0] | (simp only [i64_w, i32_w]; rw [c40b0]) | skip)
      have H' := Aside0.mk H
      clear H
      go_wp2
      go_meet
      case rel => exact ⟨_, (true), ez, H', ⟨by have := HJ4.out; have := HJ31.out; first | omega | exact Nat.le_refl _⟩, ⟨bz⟩⟩
     rw [if_neg c40] at H
     have c40b0 : decide ((a0.size : Int) ≤ (wrap64 (nx + 1))) = false := decide_eq_false c40
     clear c40
     (first | rw [c40b0] | (simp only [i64_w, i32_w]; rw [c40b0]) | skip)
     by_cases c42 : 0 ≤ nx
     rotate_left
     ·exact nomatch (if_neg c42).symm.trans H
     rw [if_pos c42] at H
     have c42b0 := decide_eq_true c42
     clear c42
     by_cases c43 : nx < (a0.size : Int)
     rotate_left
     ·exact nomatch (if_neg c43).symm.trans H
     rw [if_pos c43] at H
     have c43b0 := decide_eq_true c43
     clear c43
     by_cases c45 : (bt a0 nx) = 45
     ·rw [if_pos c45] at H
      have c45b0 := beq_iff_eq.mpr c45
      have c45b1 := bne_eq_false_iff_eq.mpr c45
      clear c45
      obtain ⟨ji46, hji46⟩ : ∃ j_ : Int, (wrap64 (nx + 1)) = j_ := ⟨_, rfl⟩
      replace H : (if 0 ≤ (ji46) then (if (ji46) < (a0.size : Int) then (burinref07_item.j4 kj31 a0 a1 t515 nx ((bt a0 (ji46)) == 93)) else (none)) else (none)) = some (r1, r2, r3) := by first | (rw [hji46] at H; exact H) | (simp only [hji46] at H ⊢; exact H)
      have hji46w : (IntKind.i64.wrap (nx + 1)) = ji46 := (i64_w _).trans hji46
      by_cases c47 : 0 ≤ (ji46)
      rotate_left
      ·exact nomatch (if_neg c47).symm.trans H
      rw [if_pos c47] at H
      have c47b0 := decide_eq_true c47
      clear c47
      by_cases c48 : (ji46) < (a0.size : Int)
      rotate_left
      ·exact nomatch (if_neg c48).symm.trans H
      rw [if_pos c48] at H
      have c48b0 := decide_eq_true c48
      clear c48
      have H' := Aside0.mk H
      clear H
      have p44 : 0 ≤ (nx : Int) := oz
      have q44 : nx < (a0.size : Int) := oz
      have hx44 := bt_at a0 nx
      replace p44 := eq_true p44
      replace q44 := eq_true q44
      have p49 : 0 ≤ ((ji46) : Int) := oz
      have q49 : (ji46) < (a0.size : Int) := oz
      have hx49 := bt_at a0 (ji46)
      replace p49 := eq_true p49
      replace q49 := eq_true q49
      go_wp2
      go_meet
      case rel => exact ⟨_, (((bt a0 (ji46)) == 93)), (by first | rfl | (simp; done) | (simp only [← hji46] <;> (first | rfl | (simp; done) | (simp; intro hh; exact absurd hh (by have hq := of_decide_eq_true c48b0; rw [hji46]; omega)))) | (simp [*]; done)), H', ⟨by have := HJ4.out; have := HJ31.out; first | omega | exact Nat.le_refl _⟩, ⟨bz⟩⟩
     rw [if_neg c45] at H
     have c45b0 := beq_eq_false_iff_ne.mpr c45
     have c45b1 := bne_iff_ne.mpr c45
     have H' := Aside0.mk H
     clear H
     have p44 : 0 ≤ (nx : Int) := oz
     have q44 : nx < (a0.size : Int) := oz
     have hx44 := bt_at a0 nx
     replace p44 := eq_true p44
     replace q44 := eq_true q44
     go_wp2
     go_meet
     case rel => exact ⟨_, (true), ez, H', ⟨by have := HJ4.out; have := HJ31.out; first | omega | exact Nat.le_refl _⟩, ⟨bz⟩⟩
    clear HC38
    try clear c1
    try clear p1
    try clear q1
    try clear hx1
    try clear qi1
    try clear c2
    try clear p2
    try clear q2
    try clear hx2
    try clear c3
    try clear c3b0 c3b1
    try clear c4
    try clear c4b0 c4b1
    try clear p4
    try clear q4
    try clear hx4
    try clear c6
    try clear c6b0 c6b1
    try clear p6
    try clear c7
    try clear c7b0 c7b1
    try clear p8
    try clear q8
    try clear hx8
    try clear qi8
    try clear c9
    try clear c9b0 c9b1
    try clear c10
    try clear c10b0 c10b1
    try clear p11
    try clear q11
    try clear hx11
    try clear qi11
    try clear c12
    try clear c13
    try clear c13b0
    try clear c15
    try clear c15b0
    try clear c16
    try clear c16b0
    try clear p17
    try clear q17
    try clear hx17
    try clear c18
    try clear c18b0 c18b1
    try clear c20
    try clear c20b0
    try clear p21
    try clear q21
    try clear hx21
    try clear c22
    try clear c23
    try clear c23b0 c23b1
    try clear c24
    try clear c24b0 c24b1
    try clear c26
    try clear c26b0 c26b1
    try clear c30
    try clear c30b0 c30b1
    try clear c34
    try clear c34b0 c34b1
    try clear c35
    try clear c37
    try clear c37b0 c37b1
    try clear c40
    try clear c40b0
    try clear c42
    try clear c42b0
    try clear c43
    try clear c43b0
    try clear p44
    try clear q44
    try clear hx44
    try clear c45
    try clear c45b0 c45b1
    try clear c47
    try clear c47b0
    try clear c48
    try clear c48b0
    try clear p49
    try clear q49
    try clear hx49
    try clear p1
    try clear p11
    try clear p17
    try clear p2
    try clear p21
    try clear p44
    try clear p49
    try clear p6
    try clear p8
    try clear q1
    try clear q11
    try clear q17
    try clear q2
    try clear q21
    try clear q44
    try clear q49
    try clear q8
    obtain ⟨kq, x124_37, rfl, HA, HJ37, HB⟩ := hcut
    cases kq with
    | zero => exact absurd HA.out (by simp [burinref07_item.j4])
    | succ kj37 =>
     have H := HA.out
     clear HA
     simp only [burinref07_item.j4] at H
     by_cases c50 : x124_37 = true
     ·subst c50
      rw [if_pos rfl] at H
      obtain ⟨y518, hy518⟩ : ∃ y_ : List (S36), y_ = (([(⟨t515, t515⟩ : S36)] : List (S36))) := ⟨_, rfl⟩
      rw [← hy518] at H
      try rw [Option.bind_some] at H
      have Ny518 := Aside0.mk hy518
      clear hy518
      simp only [Option.some.injEq, Prod.mk.injEq] at H
      obtain ⟨rfl, rfl, rfl⟩ := H
      go_wp2_with (first | ((with_reducible refine gate_dst (N := 128) rfl ?_); refine Kd.R_lit k36 _ 36 ?hg (N := 128) ?hd (xs := ([(⟨t515, t515⟩ : S36)] : List (S36))) (inner := [.int .i64 t515, .int .i64 t515]) (ok := fun _ => True) (okp := fun _ => True) ?hr ?hp (fun _ hk => hk) trivial (Below.refl _ _) (Nat.le_refl _) (by simp) ?_; (case hd => rfl); (case hg => rfl); (case hr => first | (go_simp; done) | (go_simp; rfl)); (case hp => exact (Reps.c2 (k36_mkM _ _ _ _) (Reps.none _ _))); intro v519 w51 ho52 hb hg_ hnew_; clear hg_ hnew_; (first | rw [← Ny518.out] at ho52 | (simp only [Int.reduceToNat] at ho52; rw [← Ny518.out] at ho52)); have HO520 := Aside0.mk (Kd.R_lower ho52 (below_size bz)); replace HB := hz hb; clear hb ho52))
      go_ret3
      exact ⟨_, fz, rz HO520.out, bz⟩
     replace c50 := Bool.eq_false_iff.mpr c50
     subst c50
     rw [if_neg (show ¬ (false = true) by decide)] at H
     obtain ⟨ji53, hji53⟩ : ∃ j_ : Int, (wrap64 (nx + 1)) = j_ := ⟨_, rfl⟩
     replace H : (if 0 ≤ (ji53) then (if (ji53) ≤ (a0.size : Int) then ((burinref07_Set.f kj37 (a0.extract ((ji53) : Int).toNat a0.size)).bind fun bt521 => (if bt521.2.2 = 5 then (burinref07_item.j5 kj37 a0 a1 t515 ji53 false) else (burinref07_item.j5 kj37 a0 a1 t515 ji53 (bt521.2.2 != 3)))) else (none)) else (none)) = some (r1, r2, r3) := by first | (rw [hji53] at H; exact H) | (simp only [hji53] at H ⊢; exact H)
     have hji53w : (IntKind.i64.wrap (nx + 1)) = ji53 := (i64_w _).trans hji53
     by_cases c54 : 0 ≤ (ji53)
     rotate_left
     ·exact nomatch (if_neg c54).symm.trans H
     rw [if_pos c54] at H
     have c54b0 := eq_true c54
     have c54b1 := decide_eq_true c54
     clear c54
     by_cases c55 : (ji53) ≤ (a0.size : Int)
     rotate_left
     ·exact nomatch (if_neg c55).symm.trans H
     rw [if_pos c55] at H
     have c55b0 := eq_true c55
     have c55b1 := decide_eq_true c55
     clear c55
     replace H := Option.bind_eq_some_iff.mp H
     obtain ⟨⟨t521, t522, t523⟩, A560, H⟩ := H
     try dsimp only at H
     have A56 := Aside0.mk A560
     clear A560
     have HC57 := Aside0.mk H
     clear H
     go_upto_region 25 with (first | ((with_reducible refine gate_callee (f := 12) rfl ?_); refine goesL_ (some 136) rfl rfl Tryz.func12 kz rfl #[.string (a0.extract ((ji53) : Int).toNat a0.size)] rfl (by (try simp only [List.map_toArray, List.map_cons, List.map_nil]); first | done | (simp only [hji53]; rfl) | rfl | (simp only [List.length_drop, List.length_take]; rfl)) ?_; (with_reducible refine (burinref07_Set.calls kj37 (a0.extract ((ji53) : Int).toNat a0.size) t521 t522 t523 _ A56.out).mono ?_); rintro e w58 ⟨v524, rfl, ho0, hb⟩; refine ⟨_, rfl, ?_⟩; have HO525 := Aside0.mk (Kd.R_lower ho0 (below_size bz)); replace HB := hz hb; (try clear hb); (try clear ho0)))
     (try simp only [Act.put, List.setIfInBounds_toArray, List.set_cons_zero, List.set_cons_succ])
     go_cut [145] (fun v145 wc => ∃ (kq : Nat) (x145_56 : Bool), v145 = .bool x145_56 ∧ Aside0 (burinref07_item.j5 kq a0 a1 t515 ji53 x145_56 = some (r1, r2, r3)) ∧ Aside0 (kq ≤ kj37) ∧ Aside0 (Below w.heap.size w wc))
     case first =>
      have H := HC57.out
      clear HC57
      by_cases c59 : t523 = 5
      ·rw [if_pos c59] at H
       have c59b0 := beq_iff_eq.mpr c59
       have c59b1 := bne_eq_false_iff_eq.mpr c59
       clear c59
       (first | rw [c59b0] | (simp only [i64_w, i32_w]; rw [c59b0]) | skip)
       have H' := Aside0.mk H
       clear H
       go_wp2
       go_meet
       case rel => exact ⟨_, (false), ez, H', ⟨by have := HJ4.out; have := HJ31.out; have := HJ37.out; first | omega | exact Nat.le_refl _⟩, ⟨bz⟩⟩
      rw [if_neg c59] at H
      have c59b0 := beq_eq_false_iff_ne.mpr c59
      have c59b1 := bne_iff_ne.mpr c59
      (first | rw [c59b0] | (simp only [i64_w, i32_w]; rw [c59b0]) | skip)
      have H' := Aside0.mk H
      clear H
      go_wp2
      go_meet
      case rel => exact ⟨_, ((t523 != 3)), ez, H', ⟨by have := HJ4.out; have := HJ31.out; have := HJ37.out; first | omega | exact Nat.le_refl _⟩, ⟨bz⟩⟩
     clear HC57
     try clear c1
     try clear p1
     try clear q1
     try clear hx1
     try clear qi1
     try clear c2
     try clear p2
     try clear q2
     try clear hx2
     try clear c3
     try clear c3b0 c3b1
     try clear c4
     try clear c4b0 c4b1
     try clear p4
     try clear q4
     try clear hx4
     try clear c5
     try clear c6
     try clear c6b0 c6b1
     try clear p6
     try clear c7
     try clear c7b0 c7b1
     try clear p8
     try clear q8
     try clear hx8
     try clear qi8
     try clear c9
     try clear c9b0 c9b1
     try clear c10
     try clear c10b0 c10b1
     try clear p11
     try clear q11
     try clear hx11
     try clear qi11
     try clear c12
     try clear c13
     try clear c13b0
     try clear c15
     try clear c15b0
     try clear c16
     try clear c16b0
     try clear p17
     try clear q17
     try clear hx17
     try clear c18
     try clear c18b0 c18b1
     try clear c20
     try clear c20b0
     try clear p21
     try clear q21
     try clear hx21
     try clear c22
     try clear c23
     try clear c23b0 c23b1
     try clear c24
     try clear c24b0 c24b1
     try clear c26
     try clear c26b0 c26b1
     try clear c30
     try clear c30b0 c30b1
     try clear c34
     try clear c34b0 c34b1
     try clear c35
     try clear c37
     try clear c37b0 c37b1
     try clear c40
     try clear c40b0
     try clear c42
     try clear c42b0
     try clear c43
     try clear c43b0
     try clear p44
     try clear q44
     try clear hx44
     try clear c45
     try clear c45b0 c45b1
     try clear c47
     try clear c47b0
     try clear c48
     try clear c48b0
     try clear p49
     try clear q49
     try clear hx49
     try clear c50
     try clear c54
     try clear c54b0 c54b1
     try clear c55
     try clear c55b0 c55b1
     try clear c59
     try clear c59b0 c59b1
     try clear p1
     try clear p11
     try clear p17
     try clear p2
     try clear p21
     try clear p4
     try clear p44
     try clear p49
     try clear p6
     try clear p8
     try clear q1
     try clear q11
     try clear q17
     try clear q2
     try clear q21
     try clear q4
     try clear q44
     try clear q49
     try clear q8
     obtain ⟨kq, x145_56, rfl, HA, HJ56, HB⟩ := hcut
     cases kq with
     | zero => exact absurd HA.out (by simp [burinref07_item.j5])
     | succ kj56 =>
      have H := HA.out
      clear HA
      simp only [burinref07_item.j5] at H
      by_cases c60 : x145_56 = true
      ·subst c60
       rw [if_pos rfl] at H
       simp only [Option.some.injEq, Prod.mk.injEq] at H
       obtain ⟨rfl, rfl, rfl⟩ := H
       go_wp2
       go_ret3
       exact ⟨_, by first | rfl | (simp [errW_none, errW_some] <;> rfl) | (simp only [← hji53]; first | rfl | (simp [errW_none, errW_some] <;> rfl)) | (simp [*, errW_none, errW_some] <;> rfl), by first | exact Kd.R_nil _ _ _ _ _ | exact Kd.N_nil _ _ _ _ _ | exact Kd.V_nil _ _ _ _ _ | exact Kd.Q_nil _ _ _ _ _ | exact Kd.S_nil _ _ _ _ _, bz⟩
      replace c60 := Bool.eq_false_iff.mpr c60
      subst c60
      rw [if_neg (show ¬ (false = true) by decide)] at H
      by_cases c61 : 0 ≤ ji53
      rotate_left
      ·exact nomatch (if_neg c61).symm.trans H
      rw [if_pos c61] at H
      have c61b0 := eq_true c61
      have c61b1 := decide_eq_true c61
      clear c61
      by_cases c62 : ji53 ≤ (a0.size : Int)
      rotate_left
      ·exact nomatch (if_neg c62).symm.trans H
      rw [if_pos c62] at H
      have c62b0 := eq_true c62
      have c62b1 := decide_eq_true c62
      clear c62
      replace H := Option.bind_eq_some_iff.mp H
      obtain ⟨⟨t526, t527, t528⟩, A630, H⟩ := H
      try dsimp only at H
      have A63 := Aside0.mk A630
      clear A630
      by_cases c64 : t528 = 0
      ·rw [if_pos c64] at H
       have c64b0 := beq_iff_eq.mpr c64
       have c64b1 := bne_eq_false_iff_eq.mpr c64
       clear c64
       by_cases c65 : t526 < t515
       ·rw [if_pos c65] at H
        have c65b0 := decide_eq_true c65
        clear c65
        simp only [Option.some.injEq, Prod.mk.injEq] at H
        obtain ⟨rfl, rfl, rfl⟩ := H
        go_wp2_with (first | ((with_reducible refine gate_callee (f := 72) rfl ?_); refine goesL_ (some 151) rfl rfl Tryz.func72 kz rfl #[.string (a0.extract (ji53 : Int).toNat a0.size)] rfl (by (try simp only [List.map_toArray, List.map_cons, List.map_nil]); first | done | (simp only [hji53]; rfl) | rfl | (simp only [List.length_drop, List.length_take]; rfl)) ?_; (with_reducible refine (burinref07_one.calls kj56 (a0.extract (ji53 : Int).toNat a0.size) t526 t527 t528 _ A63.out).mono ?_); rintro e w66 ⟨rfl, hb⟩; refine ⟨_, rfl, ?_⟩; replace HB := hz hb; (try clear hb); (try clear hb2); (try clear hk); (try clear hi)))
        go_ret3
        exact ⟨_, by first | rfl | (simp [errW_none, errW_some] <;> rfl) | (simp only [← hji53]; first | rfl | (simp [errW_none, errW_some] <;> rfl)) | (simp [*, errW_none, errW_some] <;> rfl), by first | exact Kd.R_nil _ _ _ _ _ | exact Kd.N_nil _ _ _ _ _ | exact Kd.V_nil _ _ _ _ _ | exact Kd.Q_nil _ _ _ _ _ | exact Kd.S_nil _ _ _ _ _, bz⟩
       rw [if_neg c65] at H
       have c65b0 := decide_eq_false c65
       clear c65
       obtain ⟨y529, hy529⟩ : ∃ y_ : List (S36), y_ = (([(⟨t515, t526⟩ : S36)] : List (S36))) := ⟨_, rfl⟩
       rw [← hy529] at H
       try rw [Option.bind_some] at H
       have Ny529 := Aside0.mk hy529
       clear hy529
       simp only [Option.some.injEq, Prod.mk.injEq] at H
       obtain ⟨rfl, rfl, rfl⟩ := H
       go_wp2_with (first | ((with_reducible refine gate_callee (f := 72) rfl ?_); refine goesL_ (some 151) rfl rfl Tryz.func72 kz rfl #[.string (a0.extract (ji53 : Int).toNat a0.size)] rfl (by (try simp only [List.map_toArray, List.map_cons, List.map_nil]); first | done | (simp only [hji53]; rfl) | rfl | (simp only [List.length_drop, List.length_take]; rfl)) ?_; (with_reducible refine (burinref07_one.calls kj56 (a0.extract (ji53 : Int).toNat a0.size) t526 t527 t528 _ A63.out).mono ?_); rintro e w67 ⟨rfl, hb⟩; refine ⟨_, rfl, ?_⟩; replace HB := hz hb; (try clear hb); (try clear hb2); (try clear hk); (try clear hi)) | ((with_reducible refine gate_dst (N := 166) rfl ?_); refine Kd.R_lit k36 _ 36 ?hg (N := 166) ?hd (xs := ([(⟨t515, t526⟩ : S36)] : List (S36))) (inner := [.int .i64 t515, .int .i64 t526]) (ok := fun _ => True) (okp := fun _ => True) ?hr ?hp (fun _ hk => hk) trivial (Below.refl _ _) (Nat.le_refl _) (by simp) ?_; (case hd => rfl); (case hg => rfl); (case hr => first | (go_simp; done) | (go_simp; rfl)); (case hp => exact (Reps.c2 (k36_mkM _ _ _ _) (Reps.none _ _))); intro v530 w68 ho69 hb hg_ hnew_; clear hg_ hnew_; (first | rw [← Ny529.out] at ho69 | (simp only [Int.reduceToNat] at ho69; rw [← Ny529.out] at ho69)); have HO531 := Aside0.mk (Kd.R_lower ho69 (below_size bz)); replace HB := hz hb; clear hb ho69))
       go_ret3
       exact ⟨_, by first | rfl | (simp [errW_none, errW_some] <;> rfl) | (simp only [← hji53]; first | rfl | (simp [errW_none, errW_some] <;> rfl)) | (simp [*, errW_none, errW_some] <;> rfl), rz HO531.out, bz⟩
      rw [if_neg c64] at H
      have c64b0 := beq_eq_false_iff_ne.mpr c64
      have c64b1 := bne_iff_ne.mpr c64
      simp only [Option.some.injEq, Prod.mk.injEq] at H
      obtain ⟨rfl, rfl, rfl⟩ := H
      go_wp2_with (first | ((with_reducible refine gate_callee (f := 72) rfl ?_); refine goesL_ (some 151) rfl rfl Tryz.func72 kz rfl #[.string (a0.extract (ji53 : Int).toNat a0.size)] rfl (by (try simp only [List.map_toArray, List.map_cons, List.map_nil]); first | done | (simp only [hji53]; rfl) | rfl | (simp only [List.length_drop, List.length_take]; rfl)) ?_; (with_reducible refine (burinref07_one.calls kj56 (a0.extract (ji53 : Int).toNat a0.size) t526 t527 t528 _ A63.out).mono ?_); rintro e w70 ⟨rfl, hb⟩; refine ⟨_, rfl, ?_⟩; replace HB := hz hb; (try clear hb); (try clear hb2); (try clear hk); (try clear hi)))
      go_ret3
      exact ⟨_, by first | rfl | (simp [errW_none, errW_some] <;> rfl) | (simp only [← hji53]; first | rfl | (simp [errW_none, errW_some] <;> rfl)) | (simp [*, errW_none, errW_some] <;> rfl), by first | exact Kd.R_nil _ _ _ _ _ | exact Kd.N_nil _ _ _ _ _ | exact Kd.V_nil _ _ _ _ _ | exact Kd.Q_nil _ _ _ _ _ | exact Kd.S_nil _ _ _ _ _, bz⟩
   rw [if_neg c37] at H
   have c37b0 := beq_eq_false_iff_ne.mpr c37
   have c37b1 := bne_iff_ne.mpr c37
   simp only [Option.some.injEq, Prod.mk.injEq] at H
   obtain ⟨rfl, rfl, rfl⟩ := H
   go_wp2_with (first | ((with_reducible refine gate_callee (f := 72) rfl ?_); refine goesL_ (some 96) rfl rfl Tryz.func72 kz rfl #[.string rest] rfl mz ?_; (with_reducible refine (burinref07_one.calls kj31 rest t515 t516 t517 _ A36.out).mono ?_); rintro e w71 ⟨rfl, hb⟩; refine ⟨_, rfl, ?_⟩; replace HB := hz hb; (try clear hb); (try clear hb2); (try clear hk); (try clear hi)))
   go_ret3
   exact ⟨_, fz, by first | exact Kd.R_nil _ _ _ _ _ | exact Kd.N_nil _ _ _ _ _ | exact Kd.V_nil _ _ _ _ _ | exact Kd.Q_nil _ _ _ _ _ | exact Kd.S_nil _ _ _ _ _, bz⟩
end Go.Proofs.YtheheijhijeljaaGreatDoor.HBracketReads

