-- Made by wip/hyb (a program of this session over the kit's print); its parts marked 'own text' are typed by hand.
import Derived.Test.YtoihlfiacnljhaaHBandsSplitsx0
import Derived.Test.YtoihlfiacnljhaaHBandsSplitsx2
namespace Go.Proofs.Ytoihlfiacnljhaa.HBandsSplits
open Go.RowKit Go.Proofs.YtoihlfiacnljhaaW.PrintWords Go.Proofs.YtoihlfiacnljhaaW.PrintLast Go.Proofs.YtoihlfiacnljhaaW.PrintMore
attribute [local go_sem] max2_int min2_int max_two min_two max_three min_three max_four min_four   -- for this text's walks alone
set_option linter.unusedVariables false
set_option linter.unusedSimpArgs false

/-! ### burinref01_said: function 57 -/
def burinref01_said.f (a0 : ByteArray) (a1 : Int) : Option (Int) := if a1 = 1 then (if 0 < (a0.size : Int) then (some (wrap64 (bt a0 0))) else (none)) else (if a1 = 2 then (if 0 < (a0.size : Int) then (if 1 < (a0.size : Int) then (some (wrap64 ((wrap64 ((Int.tmod (wrap64 (bt a0 0)) 32) * 64)) + (Int.tmod (wrap64 (bt a0 1)) 64)))) else (none)) else (none)) else (if a1 = 3 then (if 0 < (a0.size : Int) then (if 1 < (a0.size : Int) then (if 2 < (a0.size : Int) then (some (wrap64 ((wrap64 ((wrap64 ((Int.tmod (wrap64 (bt a0 0)) 16) * 4096)) + (wrap64 ((Int.tmod (wrap64 (bt a0 1)) 64) * 64)))) + (Int.tmod (wrap64 (bt a0 2)) 64)))) else (none)) else (none)) else (none)) else (if 0 < (a0.size : Int) then (if 1 < (a0.size : Int) then (if 2 < (a0.size : Int) then (if 3 < (a0.size : Int) then (some (wrap64 ((wrap64 ((wrap64 ((wrap64 ((Int.tmod (wrap64 (bt a0 0)) 8) * 262144)) + (wrap64 ((Int.tmod (wrap64 (bt a0 1)) 64) * 4096)))) + (wrap64 ((Int.tmod (wrap64 (bt a0 2)) 64) * 64)))) + (Int.tmod (wrap64 (bt a0 3)) 64)))) else (none)) else (none)) else (none)) else (none))))
set_option maxHeartbeats 8000000 in
set_option maxRecDepth 100000 in
theorem burinref01_said.calls (a0 : ByteArray) (a1 : Int) (r : Int) (w : World) (h : burinref01_said.f a0 a1 = some r) :
    Calls Try.prog 57 #[.string a0, .int .i64 a1] w fun e w' => e = .returned (.int .i64 r) ∧ Drawn0 w w' := by
  have H : (if a1 = 1 then (if 0 < (a0.size : Int) then (some (wrap64 (bt a0 0))) else (none)) else (if a1 = 2 then (if 0 < (a0.size : Int) then (if 1 < (a0.size : Int) then (some (wrap64 ((wrap64 ((Int.tmod (wrap64 (bt a0 0)) 32) * 64)) + (Int.tmod (wrap64 (bt a0 1)) 64)))) else (none)) else (none)) else (if a1 = 3 then (if 0 < (a0.size : Int) then (if 1 < (a0.size : Int) then (if 2 < (a0.size : Int) then (some (wrap64 ((wrap64 ((wrap64 ((Int.tmod (wrap64 (bt a0 0)) 16) * 4096)) + (wrap64 ((Int.tmod (wrap64 (bt a0 1)) 64) * 64)))) + (Int.tmod (wrap64 (bt a0 2)) 64)))) else (none)) else (none)) else (none)) else (if 0 < (a0.size : Int) then (if 1 < (a0.size : Int) then (if 2 < (a0.size : Int) then (if 3 < (a0.size : Int) then (some (wrap64 ((wrap64 ((wrap64 ((wrap64 ((Int.tmod (wrap64 (bt a0 0)) 8) * 262144)) + (wrap64 ((Int.tmod (wrap64 (bt a0 1)) 64) * 4096)))) + (wrap64 ((Int.tmod (wrap64 (bt a0 2)) 64) * 64)))) + (Int.tmod (wrap64 (bt a0 3)) 64)))) else (none)) else (none)) else (none)) else (none))))) = some r := h
  clear h
  by_cases c3 : a1 = 1
  · rw [if_pos c3] at H
    have c3b0 : (a1 == 1) = true := beq_iff_eq.mpr c3
    have c3b1 : (a1 != 1) = false := bne_eq_false_iff_eq.mpr c3
    clear c3
    by_cases c4 : 0 < (a0.size : Int)
    · rw [if_pos c4] at H
      have c4b0 : decide (0 < (a0.size : Int)) = true := decide_eq_true c4
      have c4b1 : decide (0 < a0.size) = true := decide_eq_true (by omega)
      clear c4
      obtain rfl := Option.some.inj H
      have p5 : 0 ≤ (0 : Int) := (by omega)
      have q5 : 0 < a0.size := (by have : (0 : Int) < (a0.size : Int) := of_decide_eq_true (by first | (with_reducible assumption) | assumption); omega)
      have hx5 : ∀ h : 0 < a0.size, ((a0[0]'h).toNat : Int) = bt a0 0 := bt_at a0 0
      clear p5
      have qi5 : (0 < (a0.size : Int)) = True := eq_true (of_decide_eq_true (by first | (with_reducible assumption) | assumption))
      replace q5 := eq_true q5
      go_enter Try.func57, Try.ntmps57
      go_wp2
      repeat (go_quiet (fail); try go_wp2)
      go_ret
      exact ⟨by first | rfl | (simp; done) | (simp [*]; done), by repeat (first | exact Drawn0.refl _ | apply Drawn0.step)⟩
    · rw [if_neg c4] at H
      exact absurd H (by simp)
  · rw [if_neg c3] at H
    have c3b0 : (a1 == 1) = false := beq_eq_false_iff_ne.mpr c3
    have c3b1 : (a1 != 1) = true := bne_iff_ne.mpr c3
    by_cases c6 : a1 = 2
    · rw [if_pos c6] at H
      have c6b0 : (a1 == 2) = true := beq_iff_eq.mpr c6
      have c6b1 : (a1 != 2) = false := bne_eq_false_iff_eq.mpr c6
      clear c6
      by_cases c7 : 0 < (a0.size : Int)
      · rw [if_pos c7] at H
        have c7b0 : decide (0 < (a0.size : Int)) = true := decide_eq_true c7
        have c7b1 : decide (0 < a0.size) = true := decide_eq_true (by omega)
        clear c7
        by_cases c9 : 1 < (a0.size : Int)
        · rw [if_pos c9] at H
          have c9b0 : decide (1 < (a0.size : Int)) = true := decide_eq_true c9
          have c9b1 : decide (1 < a0.size) = true := decide_eq_true (by omega)
          clear c9
          obtain rfl := Option.some.inj H
          have p8 : 0 ≤ (0 : Int) := (by omega)
          have q8 : 0 < a0.size := (by have : (0 : Int) < (a0.size : Int) := of_decide_eq_true (by first | (with_reducible assumption) | assumption); omega)
          have hx8 : ∀ h : 0 < a0.size, ((a0[0]'h).toNat : Int) = bt a0 0 := bt_at a0 0
          clear p8
          have qi8 : (0 < (a0.size : Int)) = True := eq_true (of_decide_eq_true (by first | (with_reducible assumption) | assumption))
          replace q8 := eq_true q8
          have p10 : 0 ≤ (1 : Int) := (by omega)
          have q10 : 1 < a0.size := (by have : (1 : Int) < (a0.size : Int) := of_decide_eq_true (by first | (with_reducible assumption) | assumption); omega)
          have hx10 : ∀ h : 1 < a0.size, ((a0[1]'h).toNat : Int) = bt a0 1 := bt_at a0 1
          clear p10
          have qi10 : (1 < (a0.size : Int)) = True := eq_true (of_decide_eq_true (by first | (with_reducible assumption) | assumption))
          replace q10 := eq_true q10
          go_enter Try.func57, Try.ntmps57
          go_wp2
          repeat (go_quiet (fail); try go_wp2)
          go_ret
          exact ⟨by first | rfl | (simp; done) | (simp [*]; done), by repeat (first | exact Drawn0.refl _ | apply Drawn0.step)⟩
        · rw [if_neg c9] at H
          exact absurd H (by simp)
      · rw [if_neg c7] at H
        exact absurd H (by simp)
    · rw [if_neg c6] at H
      have c6b0 : (a1 == 2) = false := beq_eq_false_iff_ne.mpr c6
      have c6b1 : (a1 != 2) = true := bne_iff_ne.mpr c6
      by_cases c11 : a1 = 3
      · rw [if_pos c11] at H
        have c11b0 : (a1 == 3) = true := beq_iff_eq.mpr c11
        have c11b1 : (a1 != 3) = false := bne_eq_false_iff_eq.mpr c11
        clear c11
        by_cases c12 : 0 < (a0.size : Int)
        · rw [if_pos c12] at H
          have c12b0 : decide (0 < (a0.size : Int)) = true := decide_eq_true c12
          have c12b1 : decide (0 < a0.size) = true := decide_eq_true (by omega)
          clear c12
          by_cases c14 : 1 < (a0.size : Int)
          · rw [if_pos c14] at H
            have c14b0 : decide (1 < (a0.size : Int)) = true := decide_eq_true c14
            have c14b1 : decide (1 < a0.size) = true := decide_eq_true (by omega)
            clear c14
            by_cases c16 : 2 < (a0.size : Int)
            · rw [if_pos c16] at H
              have c16b0 : decide (2 < (a0.size : Int)) = true := decide_eq_true c16
              have c16b1 : decide (2 < a0.size) = true := decide_eq_true (by omega)
              clear c16
              obtain rfl := Option.some.inj H
              have p13 : 0 ≤ (0 : Int) := (by omega)
              have q13 : 0 < a0.size := (by have : (0 : Int) < (a0.size : Int) := of_decide_eq_true (by first | (with_reducible assumption) | assumption); omega)
              have hx13 : ∀ h : 0 < a0.size, ((a0[0]'h).toNat : Int) = bt a0 0 := bt_at a0 0
              clear p13
              have qi13 : (0 < (a0.size : Int)) = True := eq_true (of_decide_eq_true (by first | (with_reducible assumption) | assumption))
              replace q13 := eq_true q13
              have p15 : 0 ≤ (1 : Int) := (by omega)
              have q15 : 1 < a0.size := (by have : (1 : Int) < (a0.size : Int) := of_decide_eq_true (by first | (with_reducible assumption) | assumption); omega)
              have hx15 : ∀ h : 1 < a0.size, ((a0[1]'h).toNat : Int) = bt a0 1 := bt_at a0 1
              clear p15
              have qi15 : (1 < (a0.size : Int)) = True := eq_true (of_decide_eq_true (by first | (with_reducible assumption) | assumption))
              replace q15 := eq_true q15
              have p17 : 0 ≤ (2 : Int) := (by omega)
              have q17 : 2 < a0.size := (by have : (2 : Int) < (a0.size : Int) := of_decide_eq_true (by first | (with_reducible assumption) | assumption); omega)
              have hx17 : ∀ h : 2 < a0.size, ((a0[2]'h).toNat : Int) = bt a0 2 := bt_at a0 2
              clear p17
              have qi17 : (2 < (a0.size : Int)) = True := eq_true (of_decide_eq_true (by first | (with_reducible assumption) | assumption))
              replace q17 := eq_true q17
              go_enter Try.func57, Try.ntmps57
              go_wp2
              repeat (go_quiet (fail); try go_wp2)
              go_ret
              exact ⟨by first | rfl | (simp; done) | (simp [*]; done), by repeat (first | exact Drawn0.refl _ | apply Drawn0.step)⟩
            · rw [if_neg c16] at H
              exact absurd H (by simp)
          · rw [if_neg c14] at H
            exact absurd H (by simp)
        · rw [if_neg c12] at H
          exact absurd H (by simp)
      · rw [if_neg c11] at H
        have c11b0 : (a1 == 3) = false := beq_eq_false_iff_ne.mpr c11
        have c11b1 : (a1 != 3) = true := bne_iff_ne.mpr c11
        by_cases c18 : 0 < (a0.size : Int)
        · rw [if_pos c18] at H
          have c18b0 : decide (0 < (a0.size : Int)) = true := decide_eq_true c18
          have c18b1 : decide (0 < a0.size) = true := decide_eq_true (by omega)
          clear c18
          by_cases c20 : 1 < (a0.size : Int)
          · rw [if_pos c20] at H
            have c20b0 : decide (1 < (a0.size : Int)) = true := decide_eq_true c20
            have c20b1 : decide (1 < a0.size) = true := decide_eq_true (by omega)
            clear c20
            by_cases c22 : 2 < (a0.size : Int)
            · rw [if_pos c22] at H
              have c22b0 : decide (2 < (a0.size : Int)) = true := decide_eq_true c22
              have c22b1 : decide (2 < a0.size) = true := decide_eq_true (by omega)
              clear c22
              by_cases c24 : 3 < (a0.size : Int)
              · rw [if_pos c24] at H
                have c24b0 : decide (3 < (a0.size : Int)) = true := decide_eq_true c24
                have c24b1 : decide (3 < a0.size) = true := decide_eq_true (by omega)
                clear c24
                obtain rfl := Option.some.inj H
                have p19 : 0 ≤ (0 : Int) := (by omega)
                have q19 : 0 < a0.size := (by have : (0 : Int) < (a0.size : Int) := of_decide_eq_true (by first | (with_reducible assumption) | assumption); omega)
                have hx19 : ∀ h : 0 < a0.size, ((a0[0]'h).toNat : Int) = bt a0 0 := bt_at a0 0
                clear p19
                have qi19 : (0 < (a0.size : Int)) = True := eq_true (of_decide_eq_true (by first | (with_reducible assumption) | assumption))
                replace q19 := eq_true q19
                have p21 : 0 ≤ (1 : Int) := (by omega)
                have q21 : 1 < a0.size := (by have : (1 : Int) < (a0.size : Int) := of_decide_eq_true (by first | (with_reducible assumption) | assumption); omega)
                have hx21 : ∀ h : 1 < a0.size, ((a0[1]'h).toNat : Int) = bt a0 1 := bt_at a0 1
                clear p21
                have qi21 : (1 < (a0.size : Int)) = True := eq_true (of_decide_eq_true (by first | (with_reducible assumption) | assumption))
                replace q21 := eq_true q21
                have p23 : 0 ≤ (2 : Int) := (by omega)
                have q23 : 2 < a0.size := (by have : (2 : Int) < (a0.size : Int) := of_decide_eq_true (by first | (with_reducible assumption) | assumption); omega)
                have hx23 : ∀ h : 2 < a0.size, ((a0[2]'h).toNat : Int) = bt a0 2 := bt_at a0 2
                clear p23
                have qi23 : (2 < (a0.size : Int)) = True := eq_true (of_decide_eq_true (by first | (with_reducible assumption) | assumption))
                replace q23 := eq_true q23
                have p25 : 0 ≤ (3 : Int) := (by omega)
                have q25 : 3 < a0.size := (by have : (3 : Int) < (a0.size : Int) := of_decide_eq_true (by first | (with_reducible assumption) | assumption); omega)
                have hx25 : ∀ h : 3 < a0.size, ((a0[3]'h).toNat : Int) = bt a0 3 := bt_at a0 3
                clear p25
                have qi25 : (3 < (a0.size : Int)) = True := eq_true (of_decide_eq_true (by first | (with_reducible assumption) | assumption))
                replace q25 := eq_true q25
                go_enter Try.func57, Try.ntmps57
                go_wp2
                repeat (go_quiet (fail); try go_wp2)
                go_ret
                exact ⟨by first | rfl | (simp; done) | (simp [*]; done), by repeat (first | exact Drawn0.refl _ | apply Drawn0.step)⟩
              · rw [if_neg c24] at H
                exact absurd H (by simp)
            · rw [if_neg c22] at H
              exact absurd H (by simp)
          · rw [if_neg c20] at H
            exact absurd H (by simp)
        · rw [if_neg c18] at H
          exact absurd H (by simp)

/-! ### burinref01_Decode: function 51 -/
mutual
def burinref01_Decode.l0 : Nat → ByteArray → Int → Option (Int × Int)
  | 0, _, _ => none
  | k + 1, x0, x4 => if x4 ≤ 4 then (burinref01_Decode.j1 k x0 x4 (decide (x4 ≤ (x0.size : Int)))) else (burinref01_Decode.j1 k x0 x4 false)
def burinref01_Decode.j1 : Nat → ByteArray → Int → Bool → Option (Int × Int)
  | 0, _, _, _ => none
  | k + 1, x0, x4, x17 => if x17 = true then ((burinref01_said.f x0 x4).bind fun t131 => ((burinref01_Encode.f k t131).bind fun bt132 => (if bt132.2 = 0 then (if 0 ≤ x4 then (if x4 ≤ (x0.size : Int) then (if bt132.1.toList = (x0.extract 0 (x4 : Int).toNat).toList then (some (t131, x4)) else (burinref01_Decode.l0 k x0 (wrap64 (x4 + 1)))) else (none)) else (none)) else (burinref01_Decode.l0 k x0 (wrap64 (x4 + 1)))))) else (some ((-1), 1))
end
def burinref01_Decode.f (k : Nat) (a0 : ByteArray) : Option (Int × Int) := if a0.toList = ([] : List UInt8) then (some ((-1), 0)) else (burinref01_Decode.l0 k a0 1)
theorem burinref01_Decode.mono_l : ∀ k, (∀ y0 y1, LeO (burinref01_Decode.l0 k y0 y1) (burinref01_Decode.l0 (k + 1) y0 y1)) ∧ (∀ y0 y1 y2, LeO (burinref01_Decode.j1 k y0 y1 y2) (burinref01_Decode.j1 (k + 1) y0 y1 y2))
  | 0 => ⟨fun _ _ r h => by simp [burinref01_Decode.l0] at h, fun _ _ _ r h => by simp [burinref01_Decode.j1] at h⟩
  | k + 1 => by
    obtain ⟨ih0, ih1⟩ := burinref01_Decode.mono_l k
    refine ⟨?_, ?_⟩
    · intro y0 y1
      unfold burinref01_Decode.l0
      repeat' first
      | (with_reducible exact ih0 _ _)
      | (with_reducible exact ih1 _ _ _)
      | (with_reducible exact burinref01_Encode.mono _ _)
      | (with_reducible exact LeO.refl _)
      | (with_reducible exact LeO.none _)
      | (with_reducible refine LeO.ite ?_ ?_)
      | (with_reducible refine LeO.bind ?_ (fun _ => ?_))
      | exact ih0 _ _
      | exact ih1 _ _ _
      | exact burinref01_Encode.mono _ _
      | exact LeO.none _
      | refine LeO.ite ?_ ?_
      | refine LeO.bind ?_ (fun _ => ?_)
    · intro y0 y1 y2
      unfold burinref01_Decode.j1
      repeat' first
      | (with_reducible exact ih0 _ _)
      | (with_reducible exact ih1 _ _ _)
      | (with_reducible exact burinref01_Encode.mono _ _)
      | (with_reducible exact LeO.refl _)
      | (with_reducible exact LeO.none _)
      | (with_reducible refine LeO.ite ?_ ?_)
      | (with_reducible refine LeO.bind ?_ (fun _ => ?_))
      | exact ih0 _ _
      | exact ih1 _ _ _
      | exact burinref01_Encode.mono _ _
      | exact LeO.none _
      | refine LeO.ite ?_ ?_
      | refine LeO.bind ?_ (fun _ => ?_)
theorem burinref01_Decode.mono : ∀ a0 k, LeO (burinref01_Decode.f k a0) (burinref01_Decode.f (k + 1) a0) := by
  intro a0 k
  obtain ⟨ih0, ih1⟩ := burinref01_Decode.mono_l k
  unfold burinref01_Decode.f
  repeat' first
      | (with_reducible exact ih0 _ _)
      | (with_reducible exact ih1 _ _ _)
      | (with_reducible exact burinref01_Encode.mono _ _)
      | (with_reducible exact LeO.refl _)
      | (with_reducible exact LeO.none _)
      | (with_reducible refine LeO.ite ?_ ?_)
      | (with_reducible refine LeO.bind ?_ (fun _ => ?_))
      | exact ih0 _ _
      | exact ih1 _ _ _
      | exact burinref01_Encode.mono _ _
      | exact LeO.none _
      | refine LeO.ite ?_ ?_
      | refine LeO.bind ?_ (fun _ => ?_)
set_option maxHeartbeats 8000000 in
set_option maxRecDepth 100000 in
theorem burinref01_Decode.calls (k : Nat) (a0 : ByteArray) (r1 : Int) (r2 : Int) (w : World) (h : burinref01_Decode.f k a0 = some (r1, r2)) :
    Calls Try.prog 51 #[.string a0] w fun e w' => e = .returned (.tuple #[.int .i64 r1, .int .i64 r2]) ∧ Below w.heap.size w w' := by
  have HB := Aside0.mk (Below.refl w.heap.size w)
  have H : (if a0.toList = ([] : List UInt8) then (some ((-1), 0)) else (burinref01_Decode.l0 k a0 1)) = some (r1, r2) := h
  clear h
  by_cases c2 : a0.toList = ([] : List UInt8)
  · rw [if_pos c2] at H
    have c2b0 : (a0.toList == ([] : List UInt8)) = true := beq_iff_eq.mpr c2
    have c2b1 : (a0.toList != ([] : List UInt8)) = false := bne_eq_false_iff_eq.mpr c2
    clear c2
    simp only [Option.some.injEq, Prod.mk.injEq] at H
    obtain ⟨rfl, rfl⟩ := H
    go_enter Try.func51, Try.ntmps51
    go_wp2
    go_ret2
    exact ⟨by first | rfl | (simp [errW_none, errW_some] <;> rfl) | (simp [*, errW_none, errW_some] <;> rfl), by repeat (first | (with_reducible first | exact HB.out | apply below_alloc | apply pw_below_drewN | apply below_drew1) | exact HB.out)⟩
  · rw [if_neg c2] at H
    have c2b0 : (a0.toList == ([] : List UInt8)) = false := beq_eq_false_iff_ne.mpr c2
    have c2b1 : (a0.toList != ([] : List UInt8)) = true := bne_iff_ne.mpr c2
    have H' := Aside0.mk H
    clear H
    go_enter Try.func51, Try.ntmps51
    go_wp2
    go_loopg [4] k (fun kq v4 w' => ∃ (x4_1 : Int), v4 = .int .i64 x4_1 ∧ Aside0 (burinref01_Decode.l0 kq a0 x4_1 = some (r1, r2)) ∧ Aside0 (kq ≤ k) ∧ Aside0 (Below w.heap.size w w'))
    case atStart => exact ⟨(1), (by first | rfl | (simp; done) | (simp [*]; done)), H', ⟨Nat.le_refl _⟩, ⟨by repeat (first | (with_reducible first | exact HB.out | apply below_alloc | apply pw_below_drewN | apply below_drew1) | exact HB.out)⟩⟩
    case round =>
      clear H'
      try clear c2
      try clear c2b0
      try clear c2b1
      try clear p2
      obtain ⟨x4_1, rfl, HA, HK1, HB⟩ := hrel
      cases gk with
      | zero => exact absurd HA.out (by simp [burinref01_Decode.l0])
      | succ k1 =>
        have H := HA.out
        clear HA
        simp only [burinref01_Decode.l0] at H
        have HC3 := Aside0.mk H
        clear H
        go_upto_region 4 with (fail)
        go_cut [17] (fun v17 wc => ∃ (kq : Nat) (x17_2 : Bool), v17 = .bool x17_2 ∧ Aside0 (burinref01_Decode.j1 kq a0 x4_1 x17_2 = some (r1, r2)) ∧ Aside0 (kq ≤ k1) ∧ Aside0 (Below w.heap.size w wc))
        case first =>
          have H := HC3.out
          clear HC3
          by_cases c4 : x4_1 ≤ 4
          · rw [if_pos c4] at H
            have c4b0 : decide (x4_1 ≤ 4) = true := decide_eq_true c4
            clear c4
            (first | rw [c4b0] | (simp only [i64_w, i32_w]; rw [c4b0]) | skip)
            have H' := Aside0.mk H
            clear H
            go_wp2
            go_meet
            case rel => exact ⟨_, (decide (x4_1 ≤ (a0.size : Int))), (by first | rfl | (simp; done) | (simp [*]; done)), H', ⟨by have := HK1.out; first | omega | exact Nat.le_refl _⟩, ⟨by repeat (first | (with_reducible first | exact HB.out | apply below_alloc | apply pw_below_drewN | apply below_drew1) | exact HB.out)⟩⟩
          · rw [if_neg c4] at H
            have c4b0 : decide (x4_1 ≤ 4) = false := decide_eq_false c4
            clear c4
            (first | rw [c4b0] | (simp only [i64_w, i32_w]; rw [c4b0]) | skip)
            have H' := Aside0.mk H
            clear H
            go_wp2
            go_meet
            case rel => exact ⟨_, (false), (by first | rfl | (simp; done) | (simp [*]; done)), H', ⟨by have := HK1.out; first | omega | exact Nat.le_refl _⟩, ⟨by repeat (first | (with_reducible first | exact HB.out | apply below_alloc | apply pw_below_drewN | apply below_drew1) | exact HB.out)⟩⟩
        case rest =>
          clear HC3
          try clear c2
          try clear c2b0
          try clear c2b1
          try clear p2
          try clear c4
          try clear c4b0
          try clear p2
          obtain ⟨kq, x17_2, rfl, HA, HJ2, HB⟩ := hcut
          cases kq with
          | zero => exact absurd HA.out (by simp [burinref01_Decode.j1])
          | succ kj2 =>
            have H := HA.out
            clear HA
            simp only [burinref01_Decode.j1] at H
            by_cases c5 : x17_2 = true
            · subst c5
              have H1 : ((burinref01_said.f a0 x4_1).bind fun t131 => ((burinref01_Encode.f kj2 t131).bind fun bt132 => (if bt132.2 = 0 then (if 0 ≤ x4_1 then (if x4_1 ≤ (a0.size : Int) then (if bt132.1.toList = (a0.extract 0 (x4_1 : Int).toNat).toList then (some (t131, x4_1)) else (burinref01_Decode.l0 kj2 a0 (wrap64 (x4_1 + 1)))) else (none)) else (none)) else (burinref01_Decode.l0 kj2 a0 (wrap64 (x4_1 + 1)))))) = some (r1, r2) := by rw [if_pos rfl] at H; exact H
              clear H
              have H := H1
              clear H1
              replace H := Option.bind_eq_some_iff.mp H
              obtain ⟨t131, A60, H⟩ := H
              replace H : ((burinref01_Encode.f kj2 t131).bind fun bt132 => (if bt132.2 = 0 then (if 0 ≤ x4_1 then (if x4_1 ≤ (a0.size : Int) then (if bt132.1.toList = (a0.extract 0 (x4_1 : Int).toNat).toList then (some (t131, x4_1)) else (burinref01_Decode.l0 kj2 a0 (wrap64 (x4_1 + 1)))) else (none)) else (none)) else (burinref01_Decode.l0 kj2 a0 (wrap64 (x4_1 + 1))))) = some (r1, r2) := H
              have A6 := Aside0.mk A60
              clear A60
              replace H := Option.bind_eq_some_iff.mp H
              obtain ⟨⟨t132, t133⟩, A70, H⟩ := H
              replace H : (if t133 = 0 then (if 0 ≤ x4_1 then (if x4_1 ≤ (a0.size : Int) then (if t132.toList = (a0.extract 0 (x4_1 : Int).toNat).toList then (some (t131, x4_1)) else (burinref01_Decode.l0 kj2 a0 (wrap64 (x4_1 + 1)))) else (none)) else (none)) else (burinref01_Decode.l0 kj2 a0 (wrap64 (x4_1 + 1)))) = some (r1, r2) := H
              have A7 := Aside0.mk A70
              clear A70
              by_cases c8 : t133 = 0
              · rw [if_pos c8] at H
                have c8b0 : (t133 == 0) = true := beq_iff_eq.mpr c8
                have c8b1 : (t133 != 0) = false := bne_eq_false_iff_eq.mpr c8
                clear c8
                by_cases c9 : 0 ≤ x4_1
                · rw [if_pos c9] at H
                  have c9b0 := eq_true c9
                  have c9b1 : decide (0 ≤ x4_1) = true := decide_eq_true c9
                  clear c9
                  by_cases c10 : x4_1 ≤ (a0.size : Int)
                  · rw [if_pos c10] at H
                    have c10b0 := eq_true c10
                    have c10b1 : decide (x4_1 ≤ (a0.size : Int)) = true := decide_eq_true c10
                    clear c10
                    by_cases c11 : t132.toList = (a0.extract 0 (x4_1 : Int).toNat).toList
                    · rw [if_pos c11] at H
                      have c11b0 : (t132.toList == (a0.extract 0 (x4_1 : Int).toNat).toList) = true := beq_iff_eq.mpr c11
                      have c11b1 : (t132.toList != (a0.extract 0 (x4_1 : Int).toNat).toList) = false := bne_eq_false_iff_eq.mpr c11
                      clear c11
                      simp only [Option.some.injEq, Prod.mk.injEq] at H
                      obtain ⟨rfl, rfl⟩ := H
                      go_wp2_with (first | ((with_reducible refine gate_callee (f := 57) rfl ?_); refine goesL_ (some 22) rfl rfl Try.func57 (by kernel_rfl) rfl #[.string a0, .int .i64 x4_1] rfl (by (try simp only [List.map_toArray, List.map_cons, List.map_nil]); first | done | rfl | (simp only [List.length_drop, List.length_take]; rfl)) ?_; (with_reducible refine (burinref01_said.calls a0 x4_1 t131 _ A6.out).mono ?_); rintro e w' ⟨rfl, ⟨nd, rfl⟩⟩; refine ⟨_, rfl, ?_⟩) | ((with_reducible refine gate_callee (f := 42) rfl ?_); refine goesL_ (some 25) rfl rfl Try.func42 (by kernel_rfl) rfl #[.int .i64 t131] rfl (by (try simp only [List.map_toArray, List.map_cons, List.map_nil]); first | done | rfl | (simp only [List.length_drop, List.length_take]; rfl)) ?_; (with_reducible refine (burinref01_Encode.calls kj2 t131 t132 t133 _ A7.out).mono ?_); rintro e w12 ⟨rfl, hb⟩; refine ⟨_, rfl, ?_⟩; have n0_ := Aside0.mk (below_step (by repeat (first | (with_reducible first | exact HB.out | apply below_alloc | apply pw_below_drewN | apply below_drew1) | exact HB.out)) hb); clear HB; have HB := n0_; clear n0_; (try clear hb); (try clear hb2); (try clear hk); (try clear hi)))
                      go_ret2
                      exact ⟨by first | rfl | (simp [errW_none, errW_some] <;> rfl) | (simp [*, errW_none, errW_some] <;> rfl), by repeat (first | (with_reducible first | exact HB.out | apply below_alloc | apply pw_below_drewN | apply below_drew1) | exact HB.out)⟩
                    · rw [if_neg c11] at H
                      have c11b0 : (t132.toList == (a0.extract 0 (x4_1 : Int).toNat).toList) = false := beq_eq_false_iff_ne.mpr c11
                      have c11b1 : (t132.toList != (a0.extract 0 (x4_1 : Int).toNat).toList) = true := bne_iff_ne.mpr c11
                      have H' := Aside0.mk H
                      clear H
                      go_wp2_with (first | ((with_reducible refine gate_callee (f := 57) rfl ?_); refine goesL_ (some 22) rfl rfl Try.func57 (by kernel_rfl) rfl #[.string a0, .int .i64 x4_1] rfl (by (try simp only [List.map_toArray, List.map_cons, List.map_nil]); first | done | rfl | (simp only [List.length_drop, List.length_take]; rfl)) ?_; (with_reducible refine (burinref01_said.calls a0 x4_1 t131 _ A6.out).mono ?_); rintro e w' ⟨rfl, ⟨nd, rfl⟩⟩; refine ⟨_, rfl, ?_⟩) | ((with_reducible refine gate_callee (f := 42) rfl ?_); refine goesL_ (some 25) rfl rfl Try.func42 (by kernel_rfl) rfl #[.int .i64 t131] rfl (by (try simp only [List.map_toArray, List.map_cons, List.map_nil]); first | done | rfl | (simp only [List.length_drop, List.length_take]; rfl)) ?_; (with_reducible refine (burinref01_Encode.calls kj2 t131 t132 t133 _ A7.out).mono ?_); rintro e w13 ⟨rfl, hb⟩; refine ⟨_, rfl, ?_⟩; have n0_ := Aside0.mk (below_step (by repeat (first | (with_reducible first | exact HB.out | apply below_alloc | apply pw_below_drewN | apply below_drew1) | exact HB.out)) hb); clear HB; have HB := n0_; clear n0_; (try clear hb); (try clear hb2); (try clear hk); (try clear hi)))
                      go_roundg kj2
                      case measure => have := HK1.out; have := HJ2.out; omega
                      case rel => exact ⟨(wrap64 (x4_1 + 1)), (by first | rfl | (simp; done) | (simp [*]; done)), H', ⟨by have := HK1.out; have := HJ2.out; omega⟩, ⟨by repeat (first | (with_reducible first | exact HB.out | apply below_alloc | apply pw_below_drewN | apply below_drew1) | exact HB.out)⟩⟩
                  · rw [if_neg c10] at H
                    exact absurd H (by simp)
                · rw [if_neg c9] at H
                  exact absurd H (by simp)
              · rw [if_neg c8] at H
                have c8b0 : (t133 == 0) = false := beq_eq_false_iff_ne.mpr c8
                have c8b1 : (t133 != 0) = true := bne_iff_ne.mpr c8
                have H' := Aside0.mk H
                clear H
                go_wp2_with (first | ((with_reducible refine gate_callee (f := 57) rfl ?_); refine goesL_ (some 22) rfl rfl Try.func57 (by kernel_rfl) rfl #[.string a0, .int .i64 x4_1] rfl (by (try simp only [List.map_toArray, List.map_cons, List.map_nil]); first | done | rfl | (simp only [List.length_drop, List.length_take]; rfl)) ?_; (with_reducible refine (burinref01_said.calls a0 x4_1 t131 _ A6.out).mono ?_); rintro e w' ⟨rfl, ⟨nd, rfl⟩⟩; refine ⟨_, rfl, ?_⟩) | ((with_reducible refine gate_callee (f := 42) rfl ?_); refine goesL_ (some 25) rfl rfl Try.func42 (by kernel_rfl) rfl #[.int .i64 t131] rfl (by (try simp only [List.map_toArray, List.map_cons, List.map_nil]); first | done | rfl | (simp only [List.length_drop, List.length_take]; rfl)) ?_; (with_reducible refine (burinref01_Encode.calls kj2 t131 t132 t133 _ A7.out).mono ?_); rintro e w14 ⟨rfl, hb⟩; refine ⟨_, rfl, ?_⟩; have n0_ := Aside0.mk (below_step (by repeat (first | (with_reducible first | exact HB.out | apply below_alloc | apply pw_below_drewN | apply below_drew1) | exact HB.out)) hb); clear HB; have HB := n0_; clear n0_; (try clear hb); (try clear hb2); (try clear hk); (try clear hi)))
                go_roundg kj2
                case measure => have := HK1.out; have := HJ2.out; omega
                case rel => exact ⟨(wrap64 (x4_1 + 1)), (by first | rfl | (simp; done) | (simp [*]; done)), H', ⟨by have := HK1.out; have := HJ2.out; omega⟩, ⟨by repeat (first | (with_reducible first | exact HB.out | apply below_alloc | apply pw_below_drewN | apply below_drew1) | exact HB.out)⟩⟩
            · replace c5 := Bool.eq_false_iff.mpr c5
              subst c5
              have H1 : (some ((-1), 1)) = some (r1, r2) := by rw [if_neg (show ¬ (false = true) by decide)] at H; exact H
              clear H
              have H := H1
              clear H1
              simp only [Option.some.injEq, Prod.mk.injEq] at H
              obtain ⟨rfl, rfl⟩ := H
              go_wp2
              go_ret2
              exact ⟨by first | rfl | (simp [errW_none, errW_some] <;> rfl) | (simp [*, errW_none, errW_some] <;> rfl), by repeat (first | (with_reducible first | exact HB.out | apply below_alloc | apply pw_below_drewN | apply below_drew1) | exact HB.out)⟩

/-! ### burinref05_filled: function 44 -/
-- own text
def burinref05_filled.f (k : Nat) (a0 : ByteArray) (a1 : Int) (a2 : Int) : Option Int := if 0 ≤ a1 ∧ a1 ≤ a0.size ∧ a0.size ≤ 1000 ∧ 0 ≤ a2 ∧ a2 ≤ 255 then (burinref01_Decode.f k (strOfNums (Go.Proofs.YtoihlfiacnljhaaX.fillL a0 a1.toNat a2))).bind fun p => some p.1 else none
theorem burinref05_filled.mono : ∀ a0 a1 a2 k, LeO (burinref05_filled.f k a0 a1 a2) (burinref05_filled.f (k + 1) a0 a1 a2) := by
  intro a0 a1 a2 k
  unfold burinref05_filled.f
  refine LeO.ite ?_ ?_
  · exact LeO.bind (burinref01_Decode.mono _ _) (fun _ => LeO.refl _)
  · exact LeO.refl _
theorem burinref05_filled.calls (k : Nat) (a0 : ByteArray) (a1 : Int) (a2 : Int) (r : Int) (w : World) (h : burinref05_filled.f k a0 a1 a2 = some r) :
    Calls Try.prog 44 #[.string a0, .int .i64 a1, .int .u8 a2] w fun e w' => e = .returned (.int .i64 r) ∧ Below w.heap.size w w' := by
  unfold burinref05_filled.f at h
  split at h
  · rename_i hs
    obtain ⟨⟨p1, p2⟩, hp, hr⟩ := Option.bind_eq_some_iff.1 h
    obtain rfl := Option.some.inj hr
    have := Go.Proofs.YtoihlfiacnljhaaX.filled_any a0 a1.toNat a2 ⟨hs.2.2.2.1, hs.2.2.2.2⟩ (by omega) hs.2.2.1 w p1 p2 (fun w => (burinref01_Decode.calls k _ p1 p2 w hp).mono fun e w' h => ⟨h.1, h.2⟩)
    rwa [show ((a1.toNat : Nat) : Int) = a1 by omega] at this
  · cases h

end Go.Proofs.Ytoihlfiacnljhaa.HBandsSplits
