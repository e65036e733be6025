-- Made by wip/hyb (a program of this session over the kit's print); its parts marked 'own text' are typed by hand.
import Derived.Test.YtheheijhijeljaaGreatDoorHBracketBehindx0
import Derived.Test.YtheheijhijeljaaGreatDoorHBracketBehindx2
import Derived.Test.YtheheijhijeljaaGreatDoorHBracketBehindx8
import Derived.Test.YtheheijhijeljaaGreatDoorHBracketBehindx11
import Derived.Test.YtheheijhijeljaaGreatDoorHBracketBehindx12
namespace Go.Proofs.YtheheijhijeljaaGreatDoor.HBracketBehind
open Go.RowKit Go.Proofs.YtheheijhijeljaaGreatDoorW.PrintWords Go.Proofs.YtheheijhijeljaaGreatDoorW.PrintLast Go.Proofs.YtheheijhijeljaaGreatDoorW.PrintMore
attribute [local go_sem] max2_int min2_int max_two min_two max_three min_three max_four min_four   -- for this text's walks alone
set_option linter.unusedVariables false
set_option linter.unusedSimpArgs false
mutual
def burinlaw07_BracketBehind.j0 : Nat → ByteArray → ByteArray → Int → Bool → Option (Bool)
 | 0, _, _, _, _ => none
 | k + 1, x0, x1, x2, x28 => if x28 = true then (some true) else ((bracket_Bracket.f k x0 x2).bind fun bt243 => (if bt243.2.2 = 0 then (if bt243.2.1 < 3 then (burinlaw07_BracketBehind.j1 k x0 x1 x2 bt243.1 bt243.2.1 true) else (if bt243.2.1 > (x0.size : Int) then (burinlaw07_BracketBehind.j1 k x0 x1 x2 bt243.1 bt243.2.1 true) else (if 0 ≤ (wrap64 (bt243.2.1 - 1)) then (if (wrap64 (bt243.2.1 - 1)) < (x0.size : Int) then (if (bt x0 (wrap64 (bt243.2.1 - 1))) = 93 then ((ranges_Check.f k bt243.1).bind fun t248 => (burinlaw07_BracketBehind.j1 k x0 x1 x2 bt243.1 bt243.2.1 (t248 != 0))) else (burinlaw07_BracketBehind.j1 k x0 x1 x2 bt243.1 bt243.2.1 true)) else (none)) else (none)))) else (if bt243.2.1 < 0 then (some false) else (if bt243.2.1 > (x0.size : Int) then (some false) else (if (bt243.1.length : Int) > 0 then (some false) else (burinlaw07_BracketBehind.j2 k x0 x1))))))
def burinlaw07_BracketBehind.j2 : Nat → ByteArray → ByteArray → Option (Bool)
 | 0, _, _ => none
 | k + 1, x0, x1 => (bracket_Number.f k x0).bind fun bt255 => (if bt255.2.2 = 0 then (if bt255.2.1 < 2 then (some false) else (if bt255.2.1 > (x0.size : Int) then (some false) else (if 0 ≤ bt255.2.1 then (if bt255.2.1 ≤ (x0.size : Int) then (if (x0.extract 0 (bt255.2.1 : Int).toNat).size + x1.size ≤ 9223372036854775807 then ((bracket_Number.f k ((x0.extract 0 (bt255.2.1 : Int).toNat) ++ x1)).bind fun bt258 => (if bt258.2.2 = 0 then (if bt258.1 = bt255.1 then (if bt258.2.1 = bt255.2.1 then (if bt255.1 ≥ 0 then (some (decide (bt255.1 ≤ 1114111))) else (some false)) else (some false)) else (some false)) else (some false))) else (none)) else (none)) else (none)))) else (if bt255.1 = 0 then (some (bt255.2.1 == 0)) else (some false)))
def burinlaw07_BracketBehind.j1 : Nat → ByteArray → ByteArray → Int → List (S36) → Int → Bool → Option (Bool)
 | 0, _, _, _, _, _, _ => none
 | k + 1, x0, x1, x2, x7, x8, x57 => if x57 = true then (some false) else (if 0 ≤ x8 then (if x8 ≤ (x0.size : Int) then (if (x0.extract 0 (x8 : Int).toNat).size + x1.size ≤ 9223372036854775807 then ((bracket_Bracket.f k ((x0.extract 0 (x8 : Int).toNat) ++ x1) x2).bind fun bt249 => (if bt249.2.2 = 0 then (if bt249.2.1 = x8 then ((burinbook_SameRanges.f k x7 bt249.1).bind fun t254 => (if t254 = true then (burinlaw07_BracketBehind.j2 k x0 x1) else (some false))) else (some false)) else (some false))) else (none)) else (none)) else (none))
end
def burinlaw07_BracketBehind.f (k : Nat) (a0 : ByteArray) (a1 : ByteArray) (a2 : Int) : Option (Bool) := (burinlaw07_works.f k).bind fun t242 => (if t242 = true then (if (a0.size : Int) > 100 then (burinlaw07_BracketBehind.j0 k a0 a1 a2 true) else (burinlaw07_BracketBehind.j0 k a0 a1 a2 (decide ((a1.size : Int) > 100)))) else (some false))
set_option maxHeartbeats 8000000 in
set_option maxRecDepth 100000 in
theorem burinlaw07_BracketBehind.calls (k : Nat) (a0 : ByteArray) (a1 : ByteArray) (a2 : Int) (r : Bool) (w : World) (hM : MaxAt w) (h : burinlaw07_BracketBehind.f k a0 a1 a2 = some r) :
  Calls Tryz.prog 6 #[.string a0, .string a1, .int .i64 a2] w fun e w' => e = .returned (.bool r) ∧ Below w.heap.size w w' := by
 have HM := Aside0.mk hM
 clear hM
 have HB := Aside0.mk (Below.refl w.heap.size w)
 have H : ((burinlaw07_works.f k).bind fun t242 => (if t242 = true then (if (a0.size : Int) > 100 then (burinlaw07_BracketBehind.j0 k a0 a1 a2 true) else (burinlaw07_BracketBehind.j0 k a0 a1 a2 (decide ((a1.size : Int) > 100)))) else (some false))) = some r := h
 clear h
 replace H := Option.bind_eq_some_iff.mp H
 obtain ⟨t242, A40, H⟩ := H
 replace H : (if t242 = true then (if (a0.size : Int) > 100 then (burinlaw07_BracketBehind.j0 k a0 a1 a2 true) else (burinlaw07_BracketBehind.j0 k a0 a1 a2 (decide ((a1.size : Int) > 100)))) else (some false)) = some r := H
 have A4 := Aside0.mk A40
 clear A40
 by_cases c5 : t242 = true
 ·subst c5
  have H1 : (if (a0.size : Int) > 100 then (burinlaw07_BracketBehind.j0 k a0 a1 a2 true) else (burinlaw07_BracketBehind.j0 k a0 a1 a2 (decide ((a1.size : Int) > 100)))) = some r := by rw [if_pos rfl] at H; exact H
  clear H
  have H := H1
  clear H1
  have HC6 := Aside0.mk H
  clear H
  go_enter Tryz.func6, Tryz.ntmps6
  go_upto_region 3 with (first | ((with_reducible refine gate_callee (f := 8) rfl ?_); refine goesL_ (some 19) rfl rfl Tryz.func8 (by kernel_rfl) rfl #[] rfl (by (try simp only [List.map_toArray, List.map_cons, List.map_nil]); first | done | rfl | (simp only [List.length_drop, List.length_take]; rfl)) ?_; (with_reducible refine (burinlaw07_works.calls (hM := MaxAt.below HM.out (by repeat (first | (with_reducible first | exact HB.out | apply below_alloc | apply pw_below_drewN | apply below_drew1) | exact HB.out))) k  true _ A4.out).mono ?_); rintro e w7 ⟨rfl, hb⟩; refine ⟨_, rfl, ?_⟩; have n0_ := Aside0.mk (below_step (by repeat (first | (with_reducible first | exact HB.out | apply below_alloc | apply pw_below_drewN | apply below_drew1) | exact HB.out)) hb); clear HB; have HB := n0_; clear n0_; (try clear hb); (try clear hb2); (try clear hk); (try clear hi)))
  (try simp only [Act.put, List.setIfInBounds_toArray, List.set_cons_zero, List.set_cons_succ])
  go_cut [28] (fun v28 wc => ∃ (kq : Nat) (x28_5 : Bool), v28 = .bool x28_5 ∧ Aside0 (burinlaw07_BracketBehind.j0 kq a0 a1 a2 x28_5 = some r) ∧ Aside0 (kq ≤ k) ∧ Aside0 (Below w.heap.size w wc))
  case first =>
   have H := HC6.out
   clear HC6
   by_cases c8 : (a0.size : Int) > 100
   ·rw [if_pos c8] at H
    have c8b0 : decide (100 < (a0.size : Int)) = true := decide_eq_true c8
    have c8b1 : decide (100 < a0.size) = true := decide_eq_true (by omega)
    clear c8
    (first | rw [c8b0] | (simp only [i64_w, i32_w]; rw [c8b0]) | skip)
    have H' := Aside0.mk H
    clear H
    go_wp2
    go_meet
    case rel => exact ⟨_, (true), (by first | rfl | (simp; done) | (simp [*]; done)), H', ⟨by first | omega | exact Nat.le_refl _⟩, ⟨by repeat (first | (with_reducible first | exact HB.out | apply below_alloc | apply pw_below_drewN | apply below_drew1) | exact HB.out)⟩⟩
   ·rw [if_neg c8] at H
    have c8b0 : decide (100 < (a0.size : Int)) = false := decide_eq_false c8
    have c8b1 : decide (100 < a0.size) = false := decide_eq_false (by omega)
    clear c8
    (first | rw [c8b0] | (simp only [i64_w, i32_w]; rw [c8b0]) | skip)
    have H' := Aside0.mk H
    clear H
    go_wp2
    go_meet
    case rel => exact ⟨_, (decide ((a1.size : Int) > 100)), (by first | rfl | (simp; done) | (simp [*]; done)), H', ⟨by first | omega | exact Nat.le_refl _⟩, ⟨by repeat (first | (with_reducible first | exact HB.out | apply below_alloc | apply pw_below_drewN | apply below_drew1) | exact HB.out)⟩⟩
  case rest =>
   clear HC6
   try clear p2
   try clear c5
   try clear c6
   try clear c8
   try clear c8b0
   try clear c8b1
   obtain ⟨kq, x28_5, rfl, HA, HJ5, HB⟩ := hcut
   cases kq with
   | zero => exact absurd HA.out (by simp [burinlaw07_BracketBehind.j0])
   | succ kj5 =>
    have H := HA.out
    clear HA
    simp only [burinlaw07_BracketBehind.j0] at H
    by_cases c9 : x28_5 = true
    ·subst c9
     have H1 : (some true) = some r := by rw [if_pos rfl] at H; exact H
     clear H
     have H := H1
     clear H1
     obtain rfl := Option.some.inj H
     go_wp2
     go_ret
     exact ⟨by first | rfl | (simp [errW_none, errW_some] <;> rfl) | (simp [*, errW_none, errW_some] <;> rfl), by repeat (first | (with_reducible first | exact HB.out | apply below_alloc | apply pw_below_drewN | apply below_drew1) | exact HB.out)⟩
    ·replace c9 := Bool.eq_false_iff.mpr c9
     subst c9
     have H1 : ((bracket_Bracket.f kj5 a0 a2).bind fun bt243 => (if bt243.2.2 = 0 then (if bt243.2.1 < 3 then (burinlaw07_BracketBehind.j1 kj5 a0 a1 a2 bt243.1 bt243.2.1 true) else (if bt243.2.1 > (a0.size : Int) then (burinlaw07_BracketBehind.j1 kj5 a0 a1 a2 bt243.1 bt243.2.1 true) else (if 0 ≤ (wrap64 (bt243.2.1 - 1)) then (if (wrap64 (bt243.2.1 - 1)) < (a0.size : Int) then (if (bt a0 (wrap64 (bt243.2.1 - 1))) = 93 then ((ranges_Check.f kj5 bt243.1).bind fun t248 => (burinlaw07_BracketBehind.j1 kj5 a0 a1 a2 bt243.1 bt243.2.1 (t248 != 0))) else (burinlaw07_BracketBehind.j1 kj5 a0 a1 a2 bt243.1 bt243.2.1 true)) else (none)) else (none)))) else (if bt243.2.1 < 0 then (some false) else (if bt243.2.1 > (a0.size : Int) then (some false) else (if (bt243.1.length : Int) > 0 then (some false) else (burinlaw07_BracketBehind.j2 kj5 a0 a1)))))) = some r := by rw [if_neg (show ¬ (false = true) by decide)] at H; exact H
     clear H
     have H := H1
     clear H1
     replace H := Option.bind_eq_some_iff.mp H
     obtain ⟨⟨t243, t244, t245⟩, A100, H⟩ := H
     replace H : (if t245 = 0 then (if t244 < 3 then (burinlaw07_BracketBehind.j1 kj5 a0 a1 a2 t243 t244 true) else (if t244 > (a0.size : Int) then (burinlaw07_BracketBehind.j1 kj5 a0 a1 a2 t243 t244 true) else (if 0 ≤ (wrap64 (t244 - 1)) then (if (wrap64 (t244 - 1)) < (a0.size : Int) then (if (bt a0 (wrap64 (t244 - 1))) = 93 then ((ranges_Check.f kj5 t243).bind fun t248 => (burinlaw07_BracketBehind.j1 kj5 a0 a1 a2 t243 t244 (t248 != 0))) else (burinlaw07_BracketBehind.j1 kj5 a0 a1 a2 t243 t244 true)) else (none)) else (none)))) else (if t244 < 0 then (some false) else (if t244 > (a0.size : Int) then (some false) else (if (t243.length : Int) > 0 then (some false) else (burinlaw07_BracketBehind.j2 kj5 a0 a1))))) = some r := H
     have A10 := Aside0.mk A100
     clear A100
     have HC11 := Aside0.mk H
     clear H
     go_upto_if 37 with (first | ((with_reducible refine gate_callee (f := 14) rfl ?_); refine goesL_ (some 32) rfl rfl Tryz.func14 (by kernel_rfl) rfl #[.string a0, .int .i64 a2] rfl (by (try simp only [List.map_toArray, List.map_cons, List.map_nil]); first | done | rfl | (simp only [List.length_drop, List.length_take]; rfl)) ?_; (with_reducible refine (bracket_Bracket.calls (hM := MaxAt.below HM.out (by repeat (first | (with_reducible first | exact HB.out | apply below_alloc | apply pw_below_drewN | apply below_drew1) | exact HB.out))) kj5 a0 a2 t243 t244 t245 _ A10.out).mono ?_); rintro e w12 ⟨v246, rfl, ho0, hb⟩; refine ⟨_, rfl, ?_⟩; have n0_ := Aside0.mk (Kd.R_lower ho0 (below_size (by repeat (first | (with_reducible first | exact HB.out | apply below_alloc | apply pw_below_drewN | apply below_drew1) | exact HB.out)))); have n1_ := Aside0.mk (below_step (by repeat (first | (with_reducible first | exact HB.out | apply below_alloc | apply pw_below_drewN | apply below_drew1) | exact HB.out)) hb); clear HB; have HO247 := n0_; have HB := n1_; clear n0_ n1_; (try clear hb); (try clear hb2); (try clear hk); (try clear hi); (try clear ho0)))
     (try simp only [Act.put, List.setIfInBounds_toArray, List.set_cons_zero, List.set_cons_succ])
     go_cut [] (fun wc => ∃ (kq : Nat), Aside0 (burinlaw07_BracketBehind.j2 kq a0 a1 = some r) ∧ Aside0 (kq ≤ kj5) ∧ Aside0 (Below w.heap.size w wc))
     case first =>
      have H := HC11.out
      clear HC11
      by_cases c13 : t245 = 0
      ·rw [if_pos c13] at H
       have c13b0 : (t245 == 0) = true := beq_iff_eq.mpr c13
       have c13b1 : (t245 != 0) = false := bne_eq_false_iff_eq.mpr c13
       clear c13
       (first | rw [c13b0] | (simp only [i64_w, i32_w]; rw [c13b0]) | skip)
       have HC14 := Aside0.mk H
       clear H
       go_upto_region 7 with (fail)
       go_cut [57] (fun v57 wc => ∃ (kq : Nat) (x57_13 : Bool), v57 = .bool x57_13 ∧ Aside0 (burinlaw07_BracketBehind.j1 kq a0 a1 a2 t243 t244 x57_13 = some r) ∧ Aside0 (kq ≤ kj5) ∧ Aside0 (Kd.R k36 36 wc w.heap.size (fun _ => True) v246 t243) ∧ Aside0 (Below w.heap.size w wc))
       case first =>
        have H := HC14.out
        clear HC14
        by_cases c15 : t244 < 3
        ·rw [if_pos c15] at H
         have c15b0 : decide (t244 < 3) = true := decide_eq_true c15
         clear c15
         (first | rw [c15b0] | (simp only [i64_w, i32_w]; rw [c15b0]) | skip)
         have H' := Aside0.mk H
         clear H
         go_wp2
         go_meet
         case rel => exact ⟨_, (true), (by first | rfl | (simp; done) | (simp [*]; done)), H', ⟨by have := HJ5.out; first | omega | exact Nat.le_refl _⟩, ⟨by (with_reducible repeat (first | apply Kd.R_alloc | apply Kd.R_drewN | apply Kd.R_drew)); exact HO247.out⟩, ⟨by repeat (first | (with_reducible first | exact HB.out | apply below_alloc | apply pw_below_drewN | apply below_drew1) | exact HB.out)⟩⟩
        ·rw [if_neg c15] at H
         have c15b0 : decide (t244 < 3) = false := decide_eq_false c15
         clear c15
         (first | rw [c15b0] | (simp only [i64_w, i32_w]; rw [c15b0]) | skip)
         by_cases c16 : t244 > (a0.size : Int)
         ·rw [if_pos c16] at H
          have c16b0 : decide ((a0.size : Int) < t244) = true := decide_eq_true c16
          clear c16
          have H' := Aside0.mk H
          clear H
          go_wp2
          go_meet
          case rel => exact ⟨_, (true), (by first | rfl | (simp; done) | (simp [*]; done)), H', ⟨by have := HJ5.out; first | omega | exact Nat.le_refl _⟩, ⟨by (with_reducible repeat (first | apply Kd.R_alloc | apply Kd.R_drewN | apply Kd.R_drew)); exact HO247.out⟩, ⟨by repeat (first | (with_reducible first | exact HB.out | apply below_alloc | apply pw_below_drewN | apply below_drew1) | exact HB.out)⟩⟩
         ·rw [if_neg c16] at H
          have c16b0 : decide ((a0.size : Int) < t244) = false := decide_eq_false c16
          clear c16
          obtain ⟨ji17, hji17⟩ : ∃ j_ : Int, (wrap64 (t244 - 1)) = j_ := ⟨_, rfl⟩
          replace H : (if 0 ≤ (ji17) then (if (ji17) < (a0.size : Int) then (if (bt a0 (ji17)) = 93 then ((ranges_Check.f kj5 t243).bind fun t248 => (burinlaw07_BracketBehind.j1 kj5 a0 a1 a2 t243 t244 (t248 != 0))) else (burinlaw07_BracketBehind.j1 kj5 a0 a1 a2 t243 t244 true)) else (none)) else (none)) = some r := by first | (rw [hji17] at H; exact H) | (simp only [hji17] at H ⊢; exact H)
          have hji17w : (IntKind.i64.wrap (t244 - 1)) = ji17 := (i64_w _).trans hji17
          by_cases c18 : 0 ≤ (ji17)
          ·rw [if_pos c18] at H
           have c18b0 : decide (0 ≤ (ji17)) = true := decide_eq_true c18
           clear c18
           by_cases c19 : (ji17) < (a0.size : Int)
           ·rw [if_pos c19] at H
            have c19b0 : decide ((ji17) < (a0.size : Int)) = true := decide_eq_true c19
            clear c19
            by_cases c21 : (bt a0 (ji17)) = 93
            ·rw [if_pos c21] at H
             have c21b0 : ((bt a0 (ji17)) == 93) = true := beq_iff_eq.mpr c21
             have c21b1 : ((bt a0 (ji17)) != 93) = false := bne_eq_false_iff_eq.mpr c21
             clear c21
             replace H := Option.bind_eq_some_iff.mp H
             obtain ⟨t248, A220, H⟩ := H
             replace H : (burinlaw07_BracketBehind.j1 kj5 a0 a1 a2 t243 t244 (t248 != 0)) = some r := H
             have A22 := Aside0.mk A220
             clear A220
             have H' := Aside0.mk H
             clear H
             have p20 : 0 ≤ ((ji17) : Int) := of_decide_eq_true (by first | (with_reducible assumption) | assumption)
             have q20 : (ji17) < (a0.size : Int) := of_decide_eq_true (by first | (with_reducible assumption) | assumption)
             have hx20 := bt_at a0 (ji17)
             replace p20 := eq_true p20
             replace q20 := eq_true q20
             obtain ⟨Ao23, co23, eo23⟩ := Kd.R_slice HO247.out
             subst eo23
             go_wp2_with (first | (go_at_call 21; (with_reducible refine (ranges_Check.calls kj5 _ _ t243 t248 _ ?side1 ?side2 A22.out).mono ?_); (case side1 => repeat (first | exact (Kd.R_reads' HO247.out).2.2 | (with_reducible refine Kd.C_alloc ?_ _) | (with_reducible refine Kd.C_drewN ?_ _) | (with_reducible refine Kd.C_drew ?_))); (case side2 => exact (Kd.R_reads' HO247.out).2.1); rintro e w24 ⟨rfl, hb⟩; have n0_ := Aside0.mk (Kd.R_below (by (with_reducible repeat (first | apply Kd.R_alloc | apply Kd.R_drewN | apply Kd.R_drew)); exact HO247.out) hb); have n1_ := Aside0.mk (below_step (by repeat (first | (with_reducible first | exact HB.out | apply below_alloc | apply pw_below_drewN | apply below_drew1) | exact HB.out)) hb); clear HO247; clear HB; have HO247 := n0_; have HB := n1_; clear n0_ n1_; (try clear hb); (try clear hb2); (try clear hk); (try clear hi)))
             go_meet
             case rel => exact ⟨_, ((t248 != 0)), (by first | rfl | (simp; done) | (simp [*]; done)), H', ⟨by have := HJ5.out; first | omega | exact Nat.le_refl _⟩, ⟨by (with_reducible repeat (first | apply Kd.R_alloc | apply Kd.R_drewN | apply Kd.R_drew)); exact HO247.out⟩, ⟨by repeat (first | (with_reducible first | exact HB.out | apply below_alloc | apply pw_below_drewN | apply below_drew1) | exact HB.out)⟩⟩
            ·rw [if_neg c21] at H
             have c21b0 : ((bt a0 (ji17)) == 93) = false := beq_eq_false_iff_ne.mpr c21
             have c21b1 : ((bt a0 (ji17)) != 93) = true := bne_iff_ne.mpr c21
             have H' := Aside0.mk H
             clear H
             have p20 : 0 ≤ ((ji17) : Int) := of_decide_eq_true (by first | (with_reducible assumption) | assumption)
             have q20 : (ji17) < (a0.size : Int) := of_decide_eq_true (by first | (with_reducible assumption) | assumption)
             have hx20 := bt_at a0 (ji17)
             replace p20 := eq_true p20
             replace q20 := eq_true q20
             go_wp2
             go_meet
             case rel => exact ⟨_, (true), (by first | rfl | (simp; done) | (simp [*]; done)), H', ⟨by have := HJ5.out; first | omega | exact Nat.le_refl _⟩, ⟨by (with_reducible repeat (first | apply Kd.R_alloc | apply Kd.R_drewN | apply Kd.R_drew)); exact HO247.out⟩, ⟨by repeat (first | (with_reducible first | exact HB.out | apply below_alloc | apply pw_below_drewN | apply below_drew1) | exact HB.out)⟩⟩
           ·rw [if_neg c19] at H
            exact absurd H (by simp)
          ·rw [if_neg c18] at H
           exact absurd H (by simp)
       case rest =>
        clear HC14
        try clear c1
        try clear c2
        try clear p2
        try clear q2
        try clear hx2
        try clear c5
        try clear c6
        try clear p6
        try clear c8
        try clear c8b0
        try clear c8b1
        try clear c9
        try clear c13
        try clear c13b0
        try clear c13b1
        try clear c14
        try clear c15
        try clear c15b0
        try clear c16
        try clear c16b0
        try clear c18
        try clear c18b0
        try clear c19
        try clear c19b0
        try clear p20
        try clear q20
        try clear hx20
        try clear c21
        try clear c21b0
        try clear c21b1
        try clear p2
        try clear p20
        try clear q20
        obtain ⟨kq, x57_13, rfl, HA, HJ13, HO_7, HB⟩ := hcut
        cases kq with
        | zero => exact absurd HA.out (by simp [burinlaw07_BracketBehind.j1])
        | succ kj13 =>
         have H := HA.out
         clear HA
         simp only [burinlaw07_BracketBehind.j1] at H
         by_cases c25 : x57_13 = true
         ·subst c25
          have H1 : (some false) = some r := by rw [if_pos rfl] at H; exact H
          clear H
          have H := H1
          clear H1
          obtain rfl := Option.some.inj H
          go_wp2
          go_ret
          exact ⟨by first | rfl | (simp [errW_none, errW_some] <;> rfl) | (simp [*, errW_none, errW_some] <;> rfl), by repeat (first | (with_reducible first | exact HB.out | apply below_alloc | apply pw_below_drewN | apply below_drew1) | exact HB.out)⟩
         ·replace c25 := Bool.eq_false_iff.mpr c25
          subst c25
          have H1 : (if 0 ≤ t244 then (if t244 ≤ (a0.size : Int) then (if (a0.extract 0 (t244 : Int).toNat).size + a1.size ≤ 9223372036854775807 then ((bracket_Bracket.f kj13 ((a0.extract 0 (t244 : Int).toNat) ++ a1) a2).bind fun bt249 => (if bt249.2.2 = 0 then (if bt249.2.1 = t244 then ((burinbook_SameRanges.f kj13 t243 bt249.1).bind fun t254 => (if t254 = true then (burinlaw07_BracketBehind.j2 kj13 a0 a1) else (some false))) else (some false)) else (some false))) else (none)) else (none)) else (none)) = some r := by rw [if_neg (show ¬ (false = true) by decide)] at H; exact H
          clear H
          have H := H1
          clear H1
          by_cases c26 : 0 ≤ t244
          ·rw [if_pos c26] at H
           have c26b0 := eq_true c26
           have c26b1 : decide (0 ≤ t244) = true := decide_eq_true c26
           clear c26
           by_cases c27 : t244 ≤ (a0.size : Int)
           ·rw [if_pos c27] at H
            have c27b0 := eq_true c27
            have c27b1 : decide (t244 ≤ (a0.size : Int)) = true := decide_eq_true c27
            clear c27
            by_cases c28 : (a0.extract 0 (t244 : Int).toNat).size + a1.size ≤ 9223372036854775807
            ·rw [if_pos c28] at H
             have c28b0 := eq_true c28
             have c28b1 : decide ((a0.extract 0 (t244 : Int).toNat).size + a1.size ≤ 9223372036854775807) = true := decide_eq_true c28
             try have c28b2 : (9223372036854775807 < (a0.extract 0 (t244 : Int).toNat).size + a1.size) = False := eq_false (Nat.not_lt.2 c28)
             replace H := Option.bind_eq_some_iff.mp H
             obtain ⟨⟨t249, t250, t251⟩, A290, H⟩ := H
             replace H : (if t251 = 0 then (if t250 = t244 then ((burinbook_SameRanges.f kj13 t243 t249).bind fun t254 => (if t254 = true then (burinlaw07_BracketBehind.j2 kj13 a0 a1) else (some false))) else (some false)) else (some false)) = some r := H
             have A29 := Aside0.mk A290
             clear A290
             by_cases c30 : t251 = 0
             ·rw [if_pos c30] at H
              have c30b0 : (t251 == 0) = true := beq_iff_eq.mpr c30
              have c30b1 : (t251 != 0) = false := bne_eq_false_iff_eq.mpr c30
              clear c30
              by_cases c31 : t250 = t244
              ·rw [if_pos c31] at H
               have c31b0 : (t250 == t244) = true := beq_iff_eq.mpr c31
               have c31b1 : (t250 != t244) = false := bne_eq_false_iff_eq.mpr c31
               clear c31
               replace H := Option.bind_eq_some_iff.mp H
               obtain ⟨t254, A320, H⟩ := H
               replace H : (if t254 = true then (burinlaw07_BracketBehind.j2 kj13 a0 a1) else (some false)) = some r := H
               have A32 := Aside0.mk A320
               clear A320
               by_cases c33 : t254 = true
               ·subst c33
                have H1 : (burinlaw07_BracketBehind.j2 kj13 a0 a1) = some r := by rw [if_pos rfl] at H; exact H
                clear H
                have H := H1
                clear H1
                have H' := Aside0.mk H
                clear H
                go_wp2_with (first | ((with_reducible refine gate_callee (f := 14) rfl ?_); refine goesL_ (some 65) rfl rfl Tryz.func14 (by kernel_rfl) rfl #[.string ((a0.extract 0 (t244 : Int).toNat) ++ a1), .int .i64 a2] rfl (by (try simp only [List.map_toArray, List.map_cons, List.map_nil]); first | done | rfl | (simp only [List.length_drop, List.length_take]; rfl)) ?_; (with_reducible refine (bracket_Bracket.calls (hM := MaxAt.below HM.out (by repeat (first | (with_reducible first | exact HB.out | apply below_alloc | apply pw_below_drewN | apply below_drew1) | exact HB.out))) kj13 ((a0.extract 0 (t244 : Int).toNat) ++ a1) a2 t249 t250 t251 _ A29.out).mono ?_); rintro e w34 ⟨v252, rfl, ho0, hb⟩; refine ⟨_, rfl, ?_⟩; have n0_ := Aside0.mk (Kd.R_elder' (by (with_reducible repeat (first | apply Kd.R_alloc | apply Kd.R_drewN | apply Kd.R_drew)); exact HO_7.out) (Kd.R_base ho0) hb); have n1_ := Aside0.mk (Kd.R_lower (Kd.R_new' ho0 (Kd.R_lt (by (with_reducible repeat (first | apply Kd.R_alloc | apply Kd.R_drewN | apply Kd.R_drew)); exact HO_7.out))) (below_size (by repeat (first | (with_reducible first | exact HB.out | apply below_alloc | apply pw_below_drewN | apply below_drew1) | exact HB.out)))); have n2_ := Aside0.mk (below_step (by repeat (first | (with_reducible first | exact HB.out | apply below_alloc | apply pw_below_drewN | apply below_drew1) | exact HB.out)) hb); clear HO_7; clear HB; have HO_7 := n0_; have HO253 := n1_; have HB := n2_; clear n0_ n1_ n2_; (try clear hb); (try clear hb2); (try clear hk); (try clear hi); (try clear ho0); obtain ⟨Ao35, co35, eo35⟩ := Kd.R_slice HO_7.out; subst eo35; obtain ⟨Ao36, co36, eo36⟩ := Kd.R_slice HO253.out; subst eo36) | (go_at_call 13; (with_reducible refine (burinbook_SameRanges.calls kj13 _ _ t243 _ _ t249 true _ ?side1 ?side2 ?side3 ?side4 A32.out).mono ?_); (case side1 => repeat (first | exact (Kd.R_reads' HO_7.out).2.2 | (with_reducible refine Kd.C_alloc ?_ _) | (with_reducible refine Kd.C_drewN ?_ _) | (with_reducible refine Kd.C_drew ?_))); (case side2 => exact (Kd.R_reads' HO_7.out).2.1); (case side3 => repeat (first | exact (Kd.R_reads' HO253.out).2.2 | (with_reducible refine Kd.C_alloc ?_ _) | (with_reducible refine Kd.C_drewN ?_ _) | (with_reducible refine Kd.C_drew ?_))); (case side4 => exact (Kd.R_reads' HO253.out).2.1); rintro e w' ⟨rfl, ⟨nd, rfl⟩⟩))
                go_meet
                case rel => exact ⟨_, H', ⟨by have := HJ5.out; have := HJ13.out; first | omega | exact Nat.le_refl _⟩, ⟨by repeat (first | (with_reducible first | exact HB.out | apply below_alloc | apply pw_below_drewN | apply below_drew1) | exact HB.out)⟩⟩
               ·replace c33 := Bool.eq_false_iff.mpr c33
                subst c33
                have H1 : (some false) = some r := by rw [if_neg (show ¬ (false = true) by decide)] at H; exact H
                clear H
                have H := H1
                clear H1
                obtain rfl := Option.some.inj H
                go_wp2_with (first | ((with_reducible refine gate_callee (f := 14) rfl ?_); refine goesL_ (some 65) rfl rfl Tryz.func14 (by kernel_rfl) rfl #[.string ((a0.extract 0 (t244 : Int).toNat) ++ a1), .int .i64 a2] rfl (by (try simp only [List.map_toArray, List.map_cons, List.map_nil]); first | done | rfl | (simp only [List.length_drop, List.length_take]; rfl)) ?_; (with_reducible refine (bracket_Bracket.calls (hM := MaxAt.below HM.out (by repeat (first | (with_reducible first | exact HB.out | apply below_alloc | apply pw_below_drewN | apply below_drew1) | exact HB.out))) kj13 ((a0.extract 0 (t244 : Int).toNat) ++ a1) a2 t249 t250 t251 _ A29.out).mono ?_); rintro e w37 ⟨v252, rfl, ho0, hb⟩; refine ⟨_, rfl, ?_⟩; have n0_ := Aside0.mk (Kd.R_elder' (by (with_reducible repeat (first | apply Kd.R_alloc | apply Kd.R_drewN | apply Kd.R_drew)); exact HO_7.out) (Kd.R_base ho0) hb); have n1_ := Aside0.mk (Kd.R_lower (Kd.R_new' ho0 (Kd.R_lt (by (with_reducible repeat (first | apply Kd.R_alloc | apply Kd.R_drewN | apply Kd.R_drew)); exact HO_7.out))) (below_size (by repeat (first | (with_reducible first | exact HB.out | apply below_alloc | apply pw_below_drewN | apply below_drew1) | exact HB.out)))); have n2_ := Aside0.mk (below_step (by repeat (first | (with_reducible first | exact HB.out | apply below_alloc | apply pw_below_drewN | apply below_drew1) | exact HB.out)) hb); clear HO_7; clear HB; have HO_7 := n0_; have HO253 := n1_; have HB := n2_; clear n0_ n1_ n2_; (try clear hb); (try clear hb2); (try clear hk); (try clear hi); (try clear ho0); obtain ⟨Ao38, co38, eo38⟩ := Kd.R_slice HO_7.out; subst eo38; obtain ⟨Ao39, co39, eo39⟩ := Kd.R_slice HO253.out; subst eo39) | (go_at_call 13; (with_reducible refine (burinbook_SameRanges.calls kj13 _ _ t243 _ _ t249 false _ ?side1 ?side2 ?side3 ?side4 A32.out).mono ?_); (case side1 => repeat (first | exact (Kd.R_reads' HO_7.out).2.2 | (with_reducible refine Kd.C_alloc ?_ _) | (with_reducible refine Kd.C_drewN ?_ _) | (with_reducible refine Kd.C_drew ?_))); (case side2 => exact (Kd.R_reads' HO_7.out).2.1); (case side3 => repeat (first | exact (Kd.R_reads' HO253.out).2.2 | (with_reducible refine Kd.C_alloc ?_ _) | (with_reducible refine Kd.C_drewN ?_ _) | (with_reducible refine Kd.C_drew ?_))); (case side4 => exact (Kd.R_reads' HO253.out).2.1); rintro e w' ⟨rfl, ⟨nd, rfl⟩⟩))
                go_ret
                exact ⟨by first | rfl | (simp [errW_none, errW_some] <;> rfl) | (simp [*, errW_none, errW_some] <;> rfl), by repeat (first | (with_reducible first | exact HB.out | apply below_alloc | apply pw_below_drewN | apply below_drew1) | exact HB.out)⟩
              ·rw [if_neg c31] at H
               have c31b0 : (t250 == t244) = false := beq_eq_false_iff_ne.mpr c31
               have c31b1 : (t250 != t244) = true := bne_iff_ne.mpr c31
               obtain rfl := Option.some.inj H
               go_wp2_with (first | ((with_reducible refine gate_callee (f := 14) rfl ?_); refine goesL_ (some 65) rfl rfl Tryz.func14 (by kernel_rfl) rfl #[.string ((a0.extract 0 (t244 : Int).toNat) ++ a1), .int .i64 a2] rfl (by (try simp only [List.map_toArray, List.map_cons, List.map_nil]); first | done | rfl | (simp only [List.length_drop, List.length_take]; rfl)) ?_; (with_reducible refine (bracket_Bracket.calls (hM := MaxAt.below HM.out (by repeat (first | (with_reducible first | exact HB.out | apply below_alloc | apply pw_below_drewN | apply below_drew1) | exact HB.out))) kj13 ((a0.extract 0 (t244 : Int).toNat) ++ a1) a2 t249 t250 t251 _ A29.out).mono ?_); rintro e w40 ⟨v252, rfl, ho0, hb⟩; refine ⟨_, rfl, ?_⟩; have n0_ := Aside0.mk (Kd.R_elder' (by (with_reducible repeat (first | apply Kd.R_alloc | apply Kd.R_drewN | apply Kd.R_drew)); exact HO_7.out) (Kd.R_base ho0) hb); have n1_ := Aside0.mk (Kd.R_lower (Kd.R_new' ho0 (Kd.R_lt (by (with_reducible repeat (first | apply Kd.R_alloc | apply Kd.R_drewN | apply Kd.R_drew)); exact HO_7.out))) (below_size (by repeat (first | (with_reducible first | exact HB.out | apply below_alloc | apply pw_below_drewN | apply below_drew1) | exact HB.out)))); have n2_ := Aside0.mk (below_step (by repeat (first | (with_reducible first | exact HB.out | apply below_alloc | apply pw_below_drewN | apply below_drew1) | exact HB.out)) hb); clear HO_7; clear HB; have HO_7 := n0_; have HO253 := n1_; have HB := n2_; clear n0_ n1_ n2_; (try clear hb); (try clear hb2); (try clear hk); (try clear hi); (try clear ho0)))
               go_ret
               exact ⟨by first | rfl | (simp [errW_none, errW_some] <;> rfl) | (simp [*, errW_none, errW_some] <;> rfl), by repeat (first | (with_reducible first | exact HB.out | apply below_alloc | apply pw_below_drewN | apply below_drew1) | exact HB.out)⟩
             ·rw [if_neg c30] at H
              have c30b0 : (t251 == 0) = false := beq_eq_false_iff_ne.mpr c30
              have c30b1 : (t251 != 0) = true := bne_iff_ne.mpr c30
              obtain rfl := Option.some.inj H
              go_wp2_with (first | ((with_reducible refine gate_callee (f := 14) rfl ?_); refine goesL_ (some 65) rfl rfl Tryz.func14 (by kernel_rfl) rfl #[.string ((a0.extract 0 (t244 : Int).toNat) ++ a1), .int .i64 a2] rfl (by (try simp only [List.map_toArray, List.map_cons, List.map_nil]); first | done | rfl | (simp only [List.length_drop, List.length_take]; rfl)) ?_; (with_reducible refine (bracket_Bracket.calls (hM := MaxAt.below HM.out (by repeat (first | (with_reducible first | exact HB.out | apply below_alloc | apply pw_below_drewN | apply below_drew1) | exact HB.out))) kj13 ((a0.extract 0 (t244 : Int).toNat) ++ a1) a2 t249 t250 t251 _ A29.out).mono ?_); rintro e w41 ⟨v252, rfl, ho0, hb⟩; refine ⟨_, rfl, ?_⟩; have n0_ := Aside0.mk (Kd.R_elder' (by (with_reducible repeat (first | apply Kd.R_alloc | apply Kd.R_drewN | apply Kd.R_drew)); exact HO_7.out) (Kd.R_base ho0) hb); have n1_ := Aside0.mk (Kd.R_lower (Kd.R_new' ho0 (Kd.R_lt (by (with_reducible repeat (first | apply Kd.R_alloc | apply Kd.R_drewN | apply Kd.R_drew)); exact HO_7.out))) (below_size (by repeat (first | (with_reducible first | exact HB.out | apply below_alloc | apply pw_below_drewN | apply below_drew1) | exact HB.out)))); have n2_ := Aside0.mk (below_step (by repeat (first | (with_reducible first | exact HB.out | apply below_alloc | apply pw_below_drewN | apply below_drew1) | exact HB.out)) hb); clear HO_7; clear HB; have HO_7 := n0_; have HO253 := n1_; have HB := n2_; clear n0_ n1_ n2_; (try clear hb); (try clear hb2); (try clear hk); (try clear hi); (try clear ho0)))
              go_ret
              exact ⟨by first | rfl | (simp [errW_none, errW_some] <;> rfl) | (simp [*, errW_none, errW_some] <;> rfl), by repeat (first | (with_reducible first | exact HB.out | apply below_alloc | apply pw_below_drewN | apply below_drew1) | exact HB.out)⟩
            ·rw [if_neg c28] at H
             exact absurd H (by simp)
           ·rw [if_neg c27] at H
            exact absurd H (by simp)
          ·rw [if_neg c26] at H
           exact absurd H (by simp)
      ·rw [if_neg c13] at H
       have c13b0 : (t245 == 0) = false := beq_eq_false_iff_ne.mpr c13
       have c13b1 : (t245 != 0) = true := bne_iff_ne.mpr c13
       (first | rw [c13b0] | (simp only [i64_w, i32_w]; rw [c13b0]) | skip)
       by_cases c42 : t244 < 0
       ·rw [if_pos c42] at H
        have c42b0 : decide (t244 < 0) = true := decide_eq_true c42
        clear c42
        obtain rfl := Option.some.inj H
        go_wp2
        go_ret
        exact ⟨by first | rfl | (simp [errW_none, errW_some] <;> rfl) | (simp [*, errW_none, errW_some] <;> rfl), by repeat (first | (with_reducible first | exact HB.out | apply below_alloc | apply pw_below_drewN | apply below_drew1) | exact HB.out)⟩
       ·rw [if_neg c42] at H
        have c42b0 : decide (t244 < 0) = false := decide_eq_false c42
        clear c42
        by_cases c43 : t244 > (a0.size : Int)
        ·rw [if_pos c43] at H
         have c43b0 : decide ((a0.size : Int) < t244) = true := decide_eq_true c43
         clear c43
         obtain rfl := Option.some.inj H
         go_wp2
         go_ret
         exact ⟨by first | rfl | (simp [errW_none, errW_some] <;> rfl) | (simp [*, errW_none, errW_some] <;> rfl), by repeat (first | (with_reducible first | exact HB.out | apply below_alloc | apply pw_below_drewN | apply below_drew1) | exact HB.out)⟩
        ·rw [if_neg c43] at H
         have c43b0 : decide ((a0.size : Int) < t244) = false := decide_eq_false c43
         clear c43
         by_cases c44 : (t243.length : Int) > 0
         ·rw [if_pos c44] at H
          have c44b0 : decide (0 < (t243.length : Int)) = true := decide_eq_true c44
          have c44b1 : decide (0 < t243.length) = true := decide_eq_true (by omega)
          clear c44
          obtain rfl := Option.some.inj H
          obtain ⟨Ao45, co45, eo45⟩ := Kd.R_slice HO247.out
          subst eo45
          go_wp2
          go_ret
          exact ⟨by first | rfl | (simp [errW_none, errW_some] <;> rfl) | (simp [*, errW_none, errW_some] <;> rfl), by repeat (first | (with_reducible first | exact HB.out | apply below_alloc | apply pw_below_drewN | apply below_drew1) | exact HB.out)⟩
         ·rw [if_neg c44] at H
          have c44b0 : decide (0 < (t243.length : Int)) = false := decide_eq_false c44
          have c44b1 : decide (0 < t243.length) = false := decide_eq_false (by omega)
          clear c44
          have H' := Aside0.mk H
          clear H
          obtain ⟨Ao46, co46, eo46⟩ := Kd.R_slice HO247.out
          subst eo46
          go_wp2
          go_meet
          case rel => exact ⟨_, H', ⟨by have := HJ5.out; first | omega | exact Nat.le_refl _⟩, ⟨by repeat (first | (with_reducible first | exact HB.out | apply below_alloc | apply pw_below_drewN | apply below_drew1) | exact HB.out)⟩⟩
     case rest =>
      clear HC11
      try clear c1
      try clear c2
      try clear p2
      try clear q2
      try clear hx2
      try clear c3
      try clear c4
      try clear c5
      try clear c6
      try clear p6
      try clear c8
      try clear c8b0
      try clear c8b1
      try clear c9
      try clear c13
      try clear c13b0
      try clear c13b1
      try clear c14
      try clear c15
      try clear c15b0
      try clear c16
      try clear c16b0
      try clear c18
      try clear c18b0
      try clear c19
      try clear c19b0
      try clear p20
      try clear q20
      try clear hx20
      try clear c21
      try clear c21b0
      try clear c21b1
      try clear c25
      try clear c26
      try clear c26b0
      try clear c26b1
      try clear c27
      try clear c27b0
      try clear c27b1
      try clear c28
      try clear c28b0
      try clear c28b1
      try clear c28b2
      try clear c30
      try clear c30b0
      try clear c30b1
      try clear c31
      try clear c31b0
      try clear c31b1
      try clear c33
      try clear c42
      try clear c42b0
      try clear c43
      try clear c43b0
      try clear c44
      try clear c44b0
      try clear c44b1
      try clear p2
      try clear p20
      try clear p6
      try clear q2
      try clear q20
      obtain ⟨kq, HA, HJ10, HB⟩ := hcut
      cases kq with
      | zero => exact absurd HA.out (by simp [burinlaw07_BracketBehind.j2])
      | succ kj10 =>
       have H := HA.out
       clear HA
       simp only [burinlaw07_BracketBehind.j2] at H
       replace H := Option.bind_eq_some_iff.mp H
       obtain ⟨⟨t255, t256, t257⟩, A470, H⟩ := H
       replace H : (if t257 = 0 then (if t256 < 2 then (some false) else (if t256 > (a0.size : Int) then (some false) else (if 0 ≤ t256 then (if t256 ≤ (a0.size : Int) then (if (a0.extract 0 (t256 : Int).toNat).size + a1.size ≤ 9223372036854775807 then ((bracket_Number.f kj10 ((a0.extract 0 (t256 : Int).toNat) ++ a1)).bind fun bt258 => (if bt258.2.2 = 0 then (if bt258.1 = t255 then (if bt258.2.1 = t256 then (if t255 ≥ 0 then (some (decide (t255 ≤ 1114111))) else (some false)) else (some false)) else (some false)) else (some false))) else (none)) else (none)) else (none)))) else (if t255 = 0 then (some (t256 == 0)) else (some false))) = some r := H
       have A47 := Aside0.mk A470
       clear A470
       by_cases c48 : t257 = 0
       ·rw [if_pos c48] at H
        have c48b0 : (t257 == 0) = true := beq_iff_eq.mpr c48
        have c48b1 : (t257 != 0) = false := bne_eq_false_iff_eq.mpr c48
        clear c48
        by_cases c49 : t256 < 2
        ·rw [if_pos c49] at H
         have c49b0 : decide (t256 < 2) = true := decide_eq_true c49
         clear c49
         obtain rfl := Option.some.inj H
         go_wp2_with (first | ((with_reducible refine gate_callee (f := 9) rfl ?_); refine goesL_ (some 97) rfl rfl Tryz.func9 (by kernel_rfl) rfl #[.string a0] rfl (by (try simp only [List.map_toArray, List.map_cons, List.map_nil]); first | done | rfl | (simp only [List.length_drop, List.length_take]; rfl)) ?_; (with_reducible refine (bracket_Number.calls kj10 a0 t255 t256 t257 _ A47.out).mono ?_); rintro e w50 ⟨rfl, hb⟩; refine ⟨_, rfl, ?_⟩; have n0_ := Aside0.mk (below_step (by repeat (first | (with_reducible first | exact HB.out | apply below_alloc | apply pw_below_drewN | apply below_drew1) | exact HB.out)) hb); clear HB; have HB := n0_; clear n0_; (try clear hb); (try clear hb2); (try clear hk); (try clear hi)))
         go_ret
         exact ⟨by first | rfl | (simp [errW_none, errW_some] <;> rfl) | (simp [*, errW_none, errW_some] <;> rfl), by repeat (first | (with_reducible first | exact HB.out | apply below_alloc | apply pw_below_drewN | apply below_drew1) | exact HB.out)⟩
        ·rw [if_neg c49] at H
         have c49b0 : decide (t256 < 2) = false := decide_eq_false c49
         clear c49
         by_cases c51 : t256 > (a0.size : Int)
         ·rw [if_pos c51] at H
          have c51b0 : decide ((a0.size : Int) < t256) = true := decide_eq_true c51
          clear c51
          obtain rfl := Option.some.inj H
          go_wp2_with (first | ((with_reducible refine gate_callee (f := 9) rfl ?_); refine goesL_ (some 97) rfl rfl Tryz.func9 (by kernel_rfl) rfl #[.string a0] rfl (by (try simp only [List.map_toArray, List.map_cons, List.map_nil]); first | done | rfl | (simp only [List.length_drop, List.length_take]; rfl)) ?_; (with_reducible refine (bracket_Number.calls kj10 a0 t255 t256 t257 _ A47.out).mono ?_); rintro e w52 ⟨rfl, hb⟩; refine ⟨_, rfl, ?_⟩; have n0_ := Aside0.mk (below_step (by repeat (first | (with_reducible first | exact HB.out | apply below_alloc | apply pw_below_drewN | apply below_drew1) | exact HB.out)) hb); clear HB; have HB := n0_; clear n0_; (try clear hb); (try clear hb2); (try clear hk); (try clear hi)))
          go_ret
          exact ⟨by first | rfl | (simp [errW_none, errW_some] <;> rfl) | (simp [*, errW_none, errW_some] <;> rfl), by repeat (first | (with_reducible first | exact HB.out | apply below_alloc | apply pw_below_drewN | apply below_drew1) | exact HB.out)⟩
         ·rw [if_neg c51] at H
          have c51b0 : decide ((a0.size : Int) < t256) = false := decide_eq_false c51
          clear c51
          by_cases c53 : 0 ≤ t256
          ·rw [if_pos c53] at H
           have c53b0 := eq_true c53
           have c53b1 : decide (0 ≤ t256) = true := decide_eq_true c53
           clear c53
           by_cases c54 : t256 ≤ (a0.size : Int)
           ·rw [if_pos c54] at H
            have c54b0 := eq_true c54
            have c54b1 : decide (t256 ≤ (a0.size : Int)) = true := decide_eq_true c54
            clear c54
            by_cases c55 : (a0.extract 0 (t256 : Int).toNat).size + a1.size ≤ 9223372036854775807
            ·rw [if_pos c55] at H
             have c55b0 := eq_true c55
             have c55b1 : decide ((a0.extract 0 (t256 : Int).toNat).size + a1.size ≤ 9223372036854775807) = true := decide_eq_true c55
             try have c55b2 : (9223372036854775807 < (a0.extract 0 (t256 : Int).toNat).size + a1.size) = False := eq_false (Nat.not_lt.2 c55)
             replace H := Option.bind_eq_some_iff.mp H
             obtain ⟨⟨t258, t259, t260⟩, A560, H⟩ := H
             replace H : (if t260 = 0 then (if t258 = t255 then (if t259 = t256 then (if t255 ≥ 0 then (some (decide (t255 ≤ 1114111))) else (some false)) else (some false)) else (some false)) else (some false)) = some r := H
             have A56 := Aside0.mk A560
             clear A560
             by_cases c57 : t260 = 0
             ·rw [if_pos c57] at H
              have c57b0 : (t260 == 0) = true := beq_iff_eq.mpr c57
              have c57b1 : (t260 != 0) = false := bne_eq_false_iff_eq.mpr c57
              clear c57
              by_cases c58 : t258 = t255
              ·rw [if_pos c58] at H
               have c58b0 : (t258 == t255) = true := beq_iff_eq.mpr c58
               have c58b1 : (t258 != t255) = false := bne_eq_false_iff_eq.mpr c58
               clear c58
               by_cases c59 : t259 = t256
               ·rw [if_pos c59] at H
                have c59b0 : (t259 == t256) = true := beq_iff_eq.mpr c59
                have c59b1 : (t259 != t256) = false := bne_eq_false_iff_eq.mpr c59
                clear c59
                by_cases c60 : t255 ≥ 0
                ·rw [if_pos c60] at H
                 have c60b0 : decide (0 ≤ t255) = true := decide_eq_true c60
                 clear c60
                 obtain rfl := Option.some.inj H
                 go_wp2_with (first | ((with_reducible refine gate_callee (f := 9) rfl ?_); refine goesL_ (some 97) rfl rfl Tryz.func9 (by kernel_rfl) rfl #[.string a0] rfl (by (try simp only [List.map_toArray, List.map_cons, List.map_nil]); first | done | rfl | (simp only [List.length_drop, List.length_take]; rfl)) ?_; (with_reducible refine (bracket_Number.calls kj10 a0 t255 t256 t257 _ A47.out).mono ?_); rintro e w61 ⟨rfl, hb⟩; refine ⟨_, rfl, ?_⟩; have n0_ := Aside0.mk (below_step (by repeat (first | (with_reducible first | exact HB.out | apply below_alloc | apply pw_below_drewN | apply below_drew1) | exact HB.out)) hb); clear HB; have HB := n0_; clear n0_; (try clear hb); (try clear hb2); (try clear hk); (try clear hi)) | ((with_reducible refine gate_callee (f := 9) rfl ?_); refine goesL_ (some 123) rfl rfl Tryz.func9 (by kernel_rfl) rfl #[.string ((a0.extract 0 (t256 : Int).toNat) ++ a1)] rfl (by (try simp only [List.map_toArray, List.map_cons, List.map_nil]); first | done | rfl | (simp only [List.length_drop, List.length_take]; rfl)) ?_; (with_reducible refine (bracket_Number.calls kj10 ((a0.extract 0 (t256 : Int).toNat) ++ a1) t258 t259 t260 _ A56.out).mono ?_); rintro e w62 ⟨rfl, hb⟩; refine ⟨_, rfl, ?_⟩; have n0_ := Aside0.mk (below_step (by repeat (first | (with_reducible first | exact HB.out | apply below_alloc | apply pw_below_drewN | apply below_drew1) | exact HB.out)) hb); clear HB; have HB := n0_; clear n0_; (try clear hb); (try clear hb2); (try clear hk); (try clear hi)))
                 go_ret
                 exact ⟨by first | rfl | (simp [errW_none, errW_some] <;> rfl) | (simp [*, errW_none, errW_some] <;> rfl), by repeat (first | (with_reducible first | exact HB.out | apply below_alloc | apply pw_below_drewN | apply below_drew1) | exact HB.out)⟩
                ·rw [if_neg c60] at H
                 have c60b0 : decide (0 ≤ t255) = false := decide_eq_false c60
                 clear c60
                 obtain rfl := Option.some.inj H
                 go_wp2_with (first | ((with_reducible refine gate_callee (f := 9) rfl ?_); refine goesL_ (some 97) rfl rfl Tryz.func9 (by kernel_rfl) rfl #[.string a0] rfl (by (try simp only [List.map_toArray, List.map_cons, List.map_nil]); first | done | rfl | (simp only [List.length_drop, List.length_take]; rfl)) ?_; (with_reducible refine (bracket_Number.calls kj10 a0 t255 t256 t257 _ A47.out).mono ?_); rintro e w63 ⟨rfl, hb⟩; refine ⟨_, rfl, ?_⟩; have n0_ := Aside0.mk (below_step (by repeat (first | (with_reducible first | exact HB.out | apply below_alloc | apply pw_below_drewN | apply below_drew1) | exact HB.out)) hb); clear HB; have HB := n0_; clear n0_; (try clear hb); (try clear hb2); (try clear hk); (try clear hi)) | ((with_reducible refine gate_callee (f := 9) rfl ?_); refine goesL_ (some 123) rfl rfl Tryz.func9 (by kernel_rfl) rfl #[.string ((a0.extract 0 (t256 : Int).toNat) ++ a1)] rfl (by (try simp only [List.map_toArray, List.map_cons, List.map_nil]); first | done | rfl | (simp only [List.length_drop, List.length_take]; rfl)) ?_; (with_reducible refine (bracket_Number.calls kj10 ((a0.extract 0 (t256 : Int).toNat) ++ a1) t258 t259 t260 _ A56.out).mono ?_); rintro e w64 ⟨rfl, hb⟩; refine ⟨_, rfl, ?_⟩; have n0_ := Aside0.mk (below_step (by repeat (first | (with_reducible first | exact HB.out | apply below_alloc | apply pw_below_drewN | apply below_drew1) | exact HB.out)) hb); clear HB; have HB := n0_; clear n0_; (try clear hb); (try clear hb2); (try clear hk); (try clear hi)))
                 go_ret
                 exact ⟨by first | rfl | (simp [errW_none, errW_some] <;> rfl) | (simp [*, errW_none, errW_some] <;> rfl), by repeat (first | (with_reducible first | exact HB.out | apply below_alloc | apply pw_below_drewN | apply below_drew1) | exact HB.out)⟩
               ·rw [if_neg c59] at H
                have c59b0 : (t259 == t256) = false := beq_eq_false_iff_ne.mpr c59
                have c59b1 : (t259 != t256) = true := bne_iff_ne.mpr c59
                obtain rfl := Option.some.inj H
                go_wp2_with (first | ((with_reducible refine gate_callee (f := 9) rfl ?_); refine goesL_ (some 97) rfl rfl Tryz.func9 (by kernel_rfl) rfl #[.string a0] rfl (by (try simp only [List.map_toArray, List.map_cons, List.map_nil]); first | done | rfl | (simp only [List.length_drop, List.length_take]; rfl)) ?_; (with_reducible refine (bracket_Number.calls kj10 a0 t255 t256 t257 _ A47.out).mono ?_); rintro e w65 ⟨rfl, hb⟩; refine ⟨_, rfl, ?_⟩; have n0_ := Aside0.mk (below_step (by repeat (first | (with_reducible first | exact HB.out | apply below_alloc | apply pw_below_drewN | apply below_drew1) | exact HB.out)) hb); clear HB; have HB := n0_; clear n0_; (try clear hb); (try clear hb2); (try clear hk); (try clear hi)) | ((with_reducible refine gate_callee (f := 9) rfl ?_); refine goesL_ (some 123) rfl rfl Tryz.func9 (by kernel_rfl) rfl #[.string ((a0.extract 0 (t256 : Int).toNat) ++ a1)] rfl (by (try simp only [List.map_toArray, List.map_cons, List.map_nil]); first | done | rfl | (simp only [List.length_drop, List.length_take]; rfl)) ?_; (with_reducible refine (bracket_Number.calls kj10 ((a0.extract 0 (t256 : Int).toNat) ++ a1) t258 t259 t260 _ A56.out).mono ?_); rintro e w66 ⟨rfl, hb⟩; refine ⟨_, rfl, ?_⟩; have n0_ := Aside0.mk (below_step (by repeat (first | (with_reducible first | exact HB.out | apply below_alloc | apply pw_below_drewN | apply below_drew1) | exact HB.out)) hb); clear HB; have HB := n0_; clear n0_; (try clear hb); (try clear hb2); (try clear hk); (try clear hi)))
                go_ret
                exact ⟨by first | rfl | (simp [errW_none, errW_some] <;> rfl) | (simp [*, errW_none, errW_some] <;> rfl), by repeat (first | (with_reducible first | exact HB.out | apply below_alloc | apply pw_below_drewN | apply below_drew1) | exact HB.out)⟩
              ·rw [if_neg c58] at H
               have c58b0 : (t258 == t255) = false := beq_eq_false_iff_ne.mpr c58
               have c58b1 : (t258 != t255) = true := bne_iff_ne.mpr c58
               obtain rfl := Option.some.inj H
               go_wp2_with (first | ((with_reducible refine gate_callee (f := 9) rfl ?_); refine goesL_ (some 97) rfl rfl Tryz.func9 (by kernel_rfl) rfl #[.string a0] rfl (by (try simp only [List.map_toArray, List.map_cons, List.map_nil]); first | done | rfl | (simp only [List.length_drop, List.length_take]; rfl)) ?_; (with_reducible refine (bracket_Number.calls kj10 a0 t255 t256 t257 _ A47.out).mono ?_); rintro e w67 ⟨rfl, hb⟩; refine ⟨_, rfl, ?_⟩; have n0_ := Aside0.mk (below_step (by repeat (first | (with_reducible first | exact HB.out | apply below_alloc | apply pw_below_drewN | apply below_drew1) | exact HB.out)) hb); clear HB; have HB := n0_; clear n0_; (try clear hb); (try clear hb2); (try clear hk); (try clear hi)) | ((with_reducible refine gate_callee (f := 9) rfl ?_); refine goesL_ (some 123) rfl rfl Tryz.func9 (by kernel_rfl) rfl #[.string ((a0.extract 0 (t256 : Int).toNat) ++ a1)] rfl (by (try simp only [List.map_toArray, List.map_cons, List.map_nil]); first | done | rfl | (simp only [List.length_drop, List.length_take]; rfl)) ?_; (with_reducible refine (bracket_Number.calls kj10 ((a0.extract 0 (t256 : Int).toNat) ++ a1) t258 t259 t260 _ A56.out).mono ?_); rintro e w68 ⟨rfl, hb⟩; refine ⟨_, rfl, ?_⟩; have n0_ := Aside0.mk (below_step (by repeat (first | (with_reducible first | exact HB.out | apply below_alloc | apply pw_below_drewN | apply below_drew1) | exact HB.out)) hb); clear HB; have HB := n0_; clear n0_; (try clear hb); (try clear hb2); (try clear hk); (try clear hi)))
               go_ret
               exact ⟨by first | rfl | (simp [errW_none, errW_some] <;> rfl) | (simp [*, errW_none, errW_some] <;> rfl), by repeat (first | (with_reducible first | exact HB.out | apply below_alloc | apply pw_below_drewN | apply below_drew1) | exact HB.out)⟩
             ·rw [if_neg c57] at H
              have c57b0 : (t260 == 0) = false := beq_eq_false_iff_ne.mpr c57
              have c57b1 : (t260 != 0) = true := bne_iff_ne.mpr c57
              obtain rfl := Option.some.inj H
              go_wp2_with (first | ((with_reducible refine gate_callee (f := 9) rfl ?_); refine goesL_ (some 97) rfl rfl Tryz.func9 (by kernel_rfl) rfl #[.string a0] rfl (by (try simp only [List.map_toArray, List.map_cons, List.map_nil]); first | done | rfl | (simp only [List.length_drop, List.length_take]; rfl)) ?_; (with_reducible refine (bracket_Number.calls kj10 a0 t255 t256 t257 _ A47.out).mono ?_); rintro e w69 ⟨rfl, hb⟩; refine ⟨_, rfl, ?_⟩; have n0_ := Aside0.mk (below_step (by repeat (first | (with_reducible first | exact HB.out | apply below_alloc | apply pw_below_drewN | apply below_drew1) | exact HB.out)) hb); clear HB; have HB := n0_; clear n0_; (try clear hb); (try clear hb2); (try clear hk); (try clear hi)) | ((with_reducible refine gate_callee (f := 9) rfl ?_); refine goesL_ (some 123) rfl rfl Tryz.func9 (by kernel_rfl) rfl #[.string ((a0.extract 0 (t256 : Int).toNat) ++ a1)] rfl (by (try simp only [List.map_toArray, List.map_cons, List.map_nil]); first | done | rfl | (simp only [List.length_drop, List.length_take]; rfl)) ?_; (with_reducible refine (bracket_Number.calls kj10 ((a0.extract 0 (t256 : Int).toNat) ++ a1) t258 t259 t260 _ A56.out).mono ?_); rintro e w70 ⟨rfl, hb⟩; refine ⟨_, rfl, ?_⟩; have n0_ := Aside0.mk (below_step (by repeat (first | (with_reducible first | exact HB.out | apply below_alloc | apply pw_below_drewN | apply below_drew1) | exact HB.out)) hb); clear HB; have HB := n0_; clear n0_; (try clear hb); (try clear hb2); (try clear hk); (try clear hi)))
              go_ret
              exact ⟨by first | rfl | (simp [errW_none, errW_some] <;> rfl) | (simp [*, errW_none, errW_some] <;> rfl), by repeat (first | (with_reducible first | exact HB.out | apply below_alloc | apply pw_below_drewN | apply below_drew1) | exact HB.out)⟩
            ·rw [if_neg c55] at H
             exact absurd H (by simp)
           ·rw [if_neg c54] at H
            exact absurd H (by simp)
          ·rw [if_neg c53] at H
           exact absurd H (by simp)
       ·rw [if_neg c48] at H
        have c48b0 : (t257 == 0) = false := beq_eq_false_iff_ne.mpr c48
        have c48b1 : (t257 != 0) = true := bne_iff_ne.mpr c48
        by_cases c71 : t255 = 0
        ·rw [if_pos c71] at H
         have c71b0 : (t255 == 0) = true := beq_iff_eq.mpr c71
         have c71b1 : (t255 != 0) = false := bne_eq_false_iff_eq.mpr c71
         clear c71
         obtain rfl := Option.some.inj H
         go_wp2_with (first | ((with_reducible refine gate_callee (f := 9) rfl ?_); refine goesL_ (some 97) rfl rfl Tryz.func9 (by kernel_rfl) rfl #[.string a0] rfl (by (try simp only [List.map_toArray, List.map_cons, List.map_nil]); first | done | rfl | (simp only [List.length_drop, List.length_take]; rfl)) ?_; (with_reducible refine (bracket_Number.calls kj10 a0 t255 t256 t257 _ A47.out).mono ?_); rintro e w72 ⟨rfl, hb⟩; refine ⟨_, rfl, ?_⟩; have n0_ := Aside0.mk (below_step (by repeat (first | (with_reducible first | exact HB.out | apply below_alloc | apply pw_below_drewN | apply below_drew1) | exact HB.out)) hb); clear HB; have HB := n0_; clear n0_; (try clear hb); (try clear hb2); (try clear hk); (try clear hi)))
         go_ret
         exact ⟨by first | rfl | (simp [errW_none, errW_some] <;> rfl) | (simp [*, errW_none, errW_some] <;> rfl), by repeat (first | (with_reducible first | exact HB.out | apply below_alloc | apply pw_below_drewN | apply below_drew1) | exact HB.out)⟩
        ·rw [if_neg c71] at H
         have c71b0 : (t255 == 0) = false := beq_eq_false_iff_ne.mpr c71
         have c71b1 : (t255 != 0) = true := bne_iff_ne.mpr c71
         obtain rfl := Option.some.inj H
         go_wp2_with (first | ((with_reducible refine gate_callee (f := 9) rfl ?_); refine goesL_ (some 97) rfl rfl Tryz.func9 (by kernel_rfl) rfl #[.string a0] rfl (by (try simp only [List.map_toArray, List.map_cons, List.map_nil]); first | done | rfl | (simp only [List.length_drop, List.length_take]; rfl)) ?_; (with_reducible refine (bracket_Number.calls kj10 a0 t255 t256 t257 _ A47.out).mono ?_); rintro e w73 ⟨rfl, hb⟩; refine ⟨_, rfl, ?_⟩; have n0_ := Aside0.mk (below_step (by repeat (first | (with_reducible first | exact HB.out | apply below_alloc | apply pw_below_drewN | apply below_drew1) | exact HB.out)) hb); clear HB; have HB := n0_; clear n0_; (try clear hb); (try clear hb2); (try clear hk); (try clear hi)))
         go_ret
         exact ⟨by first | rfl | (simp [errW_none, errW_some] <;> rfl) | (simp [*, errW_none, errW_some] <;> rfl), by repeat (first | (with_reducible first | exact HB.out | apply below_alloc | apply pw_below_drewN | apply below_drew1) | exact HB.out)⟩
 ·replace c5 := Bool.eq_false_iff.mpr c5
  subst c5
  have H1 : (some false) = some r := by rw [if_neg (show ¬ (false = true) by decide)] at H; exact H
  clear H
  have H := H1
  clear H1
  obtain rfl := Option.some.inj H
  go_enter Tryz.func6, Tryz.ntmps6
  go_wp2_with (first | ((with_reducible refine gate_callee (f := 8) rfl ?_); refine goesL_ (some 19) rfl rfl Tryz.func8 (by kernel_rfl) rfl #[] rfl (by (try simp only [List.map_toArray, List.map_cons, List.map_nil]); first | done | rfl | (simp only [List.length_drop, List.length_take]; rfl)) ?_; (with_reducible refine (burinlaw07_works.calls (hM := MaxAt.below HM.out (by repeat (first | (with_reducible first | exact HB.out | apply below_alloc | apply pw_below_drewN | apply below_drew1) | exact HB.out))) k  false _ A4.out).mono ?_); rintro e w74 ⟨rfl, hb⟩; refine ⟨_, rfl, ?_⟩; have n0_ := Aside0.mk (below_step (by repeat (first | (with_reducible first | exact HB.out | apply below_alloc | apply pw_below_drewN | apply below_drew1) | exact HB.out)) hb); clear HB; have HB := n0_; clear n0_; (try clear hb); (try clear hb2); (try clear hk); (try clear hi)))
  go_ret
  exact ⟨by first | rfl | (simp [errW_none, errW_some] <;> rfl) | (simp [*, errW_none, errW_some] <;> rfl), by repeat (first | (with_reducible first | exact HB.out | apply below_alloc | apply pw_below_drewN | apply below_drew1) | exact HB.out)⟩
/-- THE ONE PURE STATEMENT of burinlaw07_BracketBehind: yours. -/
def burinlaw07_BracketBehind.Pure : Prop := ∀ (a0 : ByteArray) (a1 : ByteArray) (a2 : Int), a0.size ≤ 140737488351232 → a1.size ≤ 140737488351232 → (Lit.int .i64 a2).wf = true → ∃ k, burinlaw07_BracketBehind.f k a0 a1 a2 = some true
theorem burinlaw07_BracketBehind.walk (P : burinlaw07_BracketBehind.Pure) (a0 : ByteArray) (a1 : ByteArray) (a2 : Int) (w : World) (hM : MaxAt w) (w0 : a0.size ≤ 140737488351232) (w1 : a1.size ≤ 140737488351232) (w2 : (Lit.int .i64 a2).wf = true) :
  Calls Tryz.prog 6 #[.string a0, .string a1, .int .i64 a2] w fun e w' => e = .returned (.bool true) ∧ Below w.heap.size w w' := by
 obtain ⟨k, h⟩ := P a0 a1 a2 w0 w1 w2
 refine (burinlaw07_BracketBehind.calls (hM := hM) k a0 a1 a2 true w h).mono ?_
 rintro e w' ⟨rfl, hd⟩
 exact ⟨rfl, hd⟩
end Go.Proofs.YtheheijhijeljaaGreatDoor.HBracketBehind

