-- Made by wip/hyb (a program of this session over the kit's print); its parts marked 'own text' are typed by hand.
import Derived.Test.YtheheijhijeljaaGreatDoorHBracketWritesx0
import Derived.Test.YtheheijhijeljaaGreatDoorHBracketWritesx2
import Derived.Test.YtheheijhijeljaaGreatDoorHBracketWritesx3
import Derived.Test.YtheheijhijeljaaGreatDoorHBracketWritesx4
import Derived.Test.YtheheijhijeljaaGreatDoorHBracketWritesx7
import Derived.Test.YtheheijhijeljaaGreatDoorHBracketWritesx11
import Derived.Test.YtheheijhijeljaaGreatDoorHBracketWritesx12
namespace Go.Proofs.YtheheijhijeljaaGreatDoor.HBracketWrites
open Go.RowKit Go.Proofs.YtheheijhijeljaaGreatDoorW.PrintWords Go.Proofs.YtheheijhijeljaaGreatDoorW.PrintLast Go.Proofs.YtheheijhijeljaaGreatDoorW.PrintMore
attribute [local go_sem] max2_int min2_int max_two min_two max_three min_three max_four min_four   -- for this text's walks alone
set_option linter.unusedVariables false
set_option linter.unusedSimpArgs false
mutual
def burinlaw07_BracketWrites.j0 : Nat → ByteArray → List (S36) → Bool → Option (Bool)
 | 0, _, _, _ => none
 | k + 1, x1, x5, x34 => if x34 = true then (some true) else (burinlaw07_BracketWrites.l0 k x1 x5 (⟨#[]⟩ : ByteArray) x5 (x5.length : Int) 0)
def burinlaw07_BracketWrites.l0 : Nat → ByteArray → List (S36) → ByteArray → List (S36) → Int → Int → Option (Bool)
 | 0, _, _, _, _, _, _ => none
 | k + 1, x1, x5, x6, x35, x36, x37 => if x37 < x36 then (if 0 ≤ x37 then (if x37 < (x35.length : Int) then ((burinlaw07_hex.f ((rd_T36 x35 x37).f0)).bind fun t246 => (if 3 + t246.size ≤ 9223372036854775807 then (if ((⟨#[92, 120, 123]⟩ : ByteArray) ++ t246).size + 5 ≤ 9223372036854775807 then ((burinlaw07_hex.f ((rd_T36 x35 x37).f1)).bind fun t247 => (if (((⟨#[92, 120, 123]⟩ : ByteArray) ++ t246) ++ (⟨#[125, 45, 92, 120, 123]⟩ : ByteArray)).size + t247.size ≤ 9223372036854775807 then (if ((((⟨#[92, 120, 123]⟩ : ByteArray) ++ t246) ++ (⟨#[125, 45, 92, 120, 123]⟩ : ByteArray)) ++ t247).size + 1 ≤ 9223372036854775807 then (if x6.size + (((((⟨#[92, 120, 123]⟩ : ByteArray) ++ t246) ++ (⟨#[125, 45, 92, 120, 123]⟩ : ByteArray)) ++ t247) ++ (⟨#[125]⟩ : ByteArray)).size ≤ 9223372036854775807 then (burinlaw07_BracketWrites.l0 k x1 x5 (x6 ++ (((((⟨#[92, 120, 123]⟩ : ByteArray) ++ t246) ++ (⟨#[125, 45, 92, 120, 123]⟩ : ByteArray)) ++ t247) ++ (⟨#[125]⟩ : ByteArray))) x35 x36 (wrap64 (x37 + 1))) else (none)) else (none)) else (none))) else (none)) else (none))) else (none)) else (none)) else (if 1 + x6.size ≤ 9223372036854775807 then (if ((⟨#[91]⟩ : ByteArray) ++ x6).size + 1 ≤ 9223372036854775807 then (if (((⟨#[91]⟩ : ByteArray) ++ x6) ++ (⟨#[93]⟩ : ByteArray)).size + x1.size ≤ 9223372036854775807 then ((bracket_Bracket.f k ((((⟨#[91]⟩ : ByteArray) ++ x6) ++ (⟨#[93]⟩ : ByteArray)) ++ x1) 0).bind fun bt248 => (if 2 + x6.size ≤ 9223372036854775807 then (if ((⟨#[91, 94]⟩ : ByteArray) ++ x6).size + 1 ≤ 9223372036854775807 then (if (((⟨#[91, 94]⟩ : ByteArray) ++ x6) ++ (⟨#[93]⟩ : ByteArray)).size + x1.size ≤ 9223372036854775807 then ((bracket_Bracket.f k ((((⟨#[91, 94]⟩ : ByteArray) ++ x6) ++ (⟨#[93]⟩ : ByteArray)) ++ x1) 0).bind fun bt253 => ((bracket_Bracket.f k (((⟨#[91]⟩ : ByteArray) ++ x6) ++ (⟨#[93]⟩ : ByteArray)) 1).bind fun bt258 => (if bt248.2.2 = 0 then (if bt253.2.2 = 0 then (if bt258.2.2 = 0 then (if bt248.2.1 = (wrap64 ((x6.size : Int) + 2)) then (if bt253.2.1 = (wrap64 ((x6.size : Int) + 3)) then (burinlaw07_BracketWrites.j2 k x5 bt248.1 bt253.1 bt258.1 (bt258.2.1 != bt248.2.1)) else (burinlaw07_BracketWrites.j2 k x5 bt248.1 bt253.1 bt258.1 true)) else (burinlaw07_BracketWrites.j2 k x5 bt248.1 bt253.1 bt258.1 true)) else (burinlaw07_BracketWrites.j2 k x5 bt248.1 bt253.1 bt258.1 true)) else (burinlaw07_BracketWrites.j2 k x5 bt248.1 bt253.1 bt258.1 true)) else (burinlaw07_BracketWrites.j2 k x5 bt248.1 bt253.1 bt258.1 true)))) else (none)) else (none)) else (none))) else (none)) else (none)) else (none))
def burinlaw07_BracketWrites.j2 : Nat → List (S36) → List (S36) → List (S36) → List (S36) → Bool → Option (Bool)
 | 0, _, _, _, _, _ => none
 | k + 1, x5, x9, x12, x15, x110 => if x110 = true then (some false) else ((burinbook_SameRanges.f k x9 x5).bind fun t263 => (if t263 = true then ((ranges_Not.f k x5).bind fun t264 => ((burinbook_SameRanges.f k x12 t264).bind fun t267 => (if t267 = true then ((fold_Close.f x5).bind fun t268 => ((burinbook_SameRanges.f k x15 t268).bind fun t271 => (some t271))) else (some false)))) else (some false)))
end
def burinlaw07_BracketWrites.f (k : Nat) (l0 : List (S36)) (a1 : ByteArray) : Option (Bool) := (burinlaw07_works.f k).bind fun t240 => (if t240 = true then ((ranges_Norm.f k l0).bind fun t241 => (if (t241.length : Int) = 0 then (burinlaw07_BracketWrites.j0 k a1 t241 true) else (if (t241.length : Int) > 10 then (burinlaw07_BracketWrites.j0 k a1 t241 true) else (burinlaw07_BracketWrites.j0 k a1 t241 (decide ((a1.size : Int) > 100)))))) else (some false))
def burinlaw07_BracketWrites.T10 : Bool × List (List Nat × List Nat) := (true, [([], []), ([], []), ([1], [1]), ([2], [2]), ([3], [3]), ([4], [4]), ([], []), ([6], [6]), ([7, 3], [7]), ([5, 8], [5, 8]), ([9], [9]), ([0, 10], [0, 10]), ([11, 8, 0, 1, 2, 3, 4, 5, 6, 7, 8, 9, 10, 11], [0, 11])])
def burinlaw07_BracketWrites.B10 : List Nat := [0, 0, 2, 6, 14, 30, 0, 64, 206, 510, 1022, 2047, 4095]
theorem burinlaw07_BracketWrites.tab10 : rtab .any (opsOf Tryz.f5 10) = burinlaw07_BracketWrites.T10 := by kernel_rfl
theorem burinlaw07_BracketWrites.bits10 : waitsOk burinlaw07_BracketWrites.T10.2 burinlaw07_BracketWrites.B10 = true := by kernel_rfl
set_option maxHeartbeats 8000000 in
set_option maxRecDepth 100000 in
theorem burinlaw07_BracketWrites.calls (k : Nat) (A0 : Option Addr) (c0 : Nat) (l0 : List (S36)) (a1 : ByteArray) (r : Bool) (w : World) (hM : MaxAt w) (hr0 : Kd.C k36 w A0 l0.length l0) (hc0 : l0.length ≤ c0) (h : burinlaw07_BracketWrites.f k l0 a1 = some r) :
  Calls Tryz.prog 5 #[.slice A0 l0.length c0, .string a1] w fun e w' => e = .returned (.bool r) ∧ Below w.heap.size w w' := by
 have HM := Aside0.mk hM
 clear hM
 have hu36 := Tryz.underlying36
 have HR0 := Aside0.mk hr0
 have HC0 := Aside0.mk hc0
 clear hr0 hc0
 have HB := Aside0.mk (Below.refl w.heap.size w)
 have H : ((burinlaw07_works.f k).bind fun t240 => (if t240 = true then ((ranges_Norm.f k l0).bind fun t241 => (if (t241.length : Int) = 0 then (burinlaw07_BracketWrites.j0 k a1 t241 true) else (if (t241.length : Int) > 10 then (burinlaw07_BracketWrites.j0 k a1 t241 true) else (burinlaw07_BracketWrites.j0 k a1 t241 (decide ((a1.size : Int) > 100)))))) else (some false))) = some r := h
 clear h
 replace H := Option.bind_eq_some_iff.mp H
 obtain ⟨t240, A30, H⟩ := H
 replace H : (if t240 = true then ((ranges_Norm.f k l0).bind fun t241 => (if (t241.length : Int) = 0 then (burinlaw07_BracketWrites.j0 k a1 t241 true) else (if (t241.length : Int) > 10 then (burinlaw07_BracketWrites.j0 k a1 t241 true) else (burinlaw07_BracketWrites.j0 k a1 t241 (decide ((a1.size : Int) > 100)))))) else (some false)) = some r := H
 have A3 := Aside0.mk A30
 clear A30
 by_cases c4 : t240 = true
 ·subst c4
  have H1 : ((ranges_Norm.f k l0).bind fun t241 => (if (t241.length : Int) = 0 then (burinlaw07_BracketWrites.j0 k a1 t241 true) else (if (t241.length : Int) > 10 then (burinlaw07_BracketWrites.j0 k a1 t241 true) else (burinlaw07_BracketWrites.j0 k a1 t241 (decide ((a1.size : Int) > 100)))))) = some r := by rw [if_pos rfl] at H; exact H
  clear H
  have H := H1
  clear H1
  replace H := Option.bind_eq_some_iff.mp H
  obtain ⟨t241, A50, H⟩ := H
  replace H : (if (t241.length : Int) = 0 then (burinlaw07_BracketWrites.j0 k a1 t241 true) else (if (t241.length : Int) > 10 then (burinlaw07_BracketWrites.j0 k a1 t241 true) else (burinlaw07_BracketWrites.j0 k a1 t241 (decide ((a1.size : Int) > 100))))) = some r := H
  have A5 := Aside0.mk A50
  clear A50
  have HC6 := Aside0.mk H
  clear H
  go_enter Tryz.func5, Tryz.ntmps5
  go_upto_region 4 with (first | ((with_reducible refine gate_callee (f := 8) rfl ?_); refine goesL_ (some 18) rfl rfl Tryz.func8 (by kernel_rfl) rfl #[] rfl (by (try simp only [List.map_toArray, List.map_cons, List.map_nil]); first | done | rfl | (simp only [List.length_drop, List.length_take]; rfl)) ?_; (with_reducible refine (burinlaw07_works.calls (hM := MaxAt.below HM.out (by repeat (first | (with_reducible first | exact HB.out | apply below_alloc | apply pw_below_drewN | apply below_drew1) | exact HB.out))) k  true _ A3.out).mono ?_); rintro e w7 ⟨rfl, hb⟩; refine ⟨_, rfl, ?_⟩; have n0_ := Aside0.mk (below_step (by repeat (first | (with_reducible first | exact HB.out | apply below_alloc | apply pw_below_drewN | apply below_drew1) | exact HB.out)) hb); clear HB; have HB := n0_; clear n0_; (try clear hb); (try clear hb2); (try clear hk); (try clear hi)) | ((with_reducible refine gate_callee (f := 17) rfl ?_); refine goesL_ (some 21) rfl rfl Tryz.func17 (by kernel_rfl) rfl #[.slice A0 l0.length c0] rfl (by (try simp only [List.map_toArray, List.map_cons, List.map_nil]); first | done | rfl | (simp only [List.length_drop, List.length_take]; rfl)) ?_; (with_reducible refine (ranges_Norm.calls k _ _ l0 t241 _ ?side1 ?side2 A5.out).mono ?_); (case side1 => repeat (first | exact (Kd.C_below HR0.out HB.out) | (with_reducible refine Kd.C_alloc ?_ _) | (with_reducible refine Kd.C_drewN ?_ _) | (with_reducible refine Kd.C_drew ?_))); (case side2 => exact HC0.out); rintro e w8 ⟨v242, rfl, ho0, hb⟩; refine ⟨_, rfl, ?_⟩; have n0_ := Aside0.mk (Kd.R_lower ho0 (below_size (by repeat (first | (with_reducible first | exact HB.out | apply below_alloc | apply pw_below_drewN | apply below_drew1) | exact HB.out)))); have n1_ := Aside0.mk (below_step (by repeat (first | (with_reducible first | exact HB.out | apply below_alloc | apply pw_below_drewN | apply below_drew1) | exact HB.out)) hb); clear HB; have HO243 := n0_; have HB := n1_; clear n0_ n1_; (try clear hb); (try clear hb2); (try clear hk); (try clear hi); (try clear ho0)))
  (try simp only [Act.put, List.setIfInBounds_toArray, List.set_cons_zero, List.set_cons_succ])
  go_cut [34] (fun v34 wc => ∃ (kq : Nat) (x34_5 : Bool), v34 = .bool x34_5 ∧ Aside0 (burinlaw07_BracketWrites.j0 kq a1 t241 x34_5 = some r) ∧ Aside0 (kq ≤ k) ∧ Aside0 (Kd.R k36 36 wc w.heap.size (fun _ => True) v242 t241) ∧ Aside0 (Below w.heap.size w wc))
  case first =>
   have H := HC6.out
   clear HC6
   by_cases c9 : (t241.length : Int) = 0
   ·rw [if_pos c9] at H
    have c9b0 : ((t241.length : Int) == 0) = true := beq_iff_eq.mpr c9
    have c9b1 : ((t241.length : Int) != 0) = false := bne_eq_false_iff_eq.mpr c9
    clear c9
    (first | rw [c9b0] | (simp only [i64_w, i32_w]; rw [c9b0]) | skip)
    have H' := Aside0.mk H
    clear H
    obtain ⟨Ao10, co10, eo10⟩ := Kd.R_slice HO243.out
    subst eo10
    go_wp2
    go_meet
    case rel => exact ⟨_, (true), (by first | rfl | (simp; done) | (simp [*]; done)), H', ⟨by first | omega | exact Nat.le_refl _⟩, ⟨by (with_reducible repeat (first | apply Kd.R_alloc | apply Kd.R_drewN | apply Kd.R_drew)); exact HO243.out⟩, ⟨by repeat (first | (with_reducible first | exact HB.out | apply below_alloc | apply pw_below_drewN | apply below_drew1) | exact HB.out)⟩⟩
   ·rw [if_neg c9] at H
    have c9b0 : ((t241.length : Int) == 0) = false := beq_eq_false_iff_ne.mpr c9
    have c9b1 : ((t241.length : Int) != 0) = true := bne_iff_ne.mpr c9
    have c9b2 : ¬ (t241 = []) := fun h_ => c9 (by rw [h_]; rfl)
    (first | rw [c9b0] | (simp only [i64_w, i32_w]; rw [c9b0]) | skip)
    by_cases c11 : (t241.length : Int) > 10
    ·rw [if_pos c11] at H
     have c11b0 : decide (10 < (t241.length : Int)) = true := decide_eq_true c11
     have c11b1 : decide (10 < t241.length) = true := decide_eq_true (by omega)
     clear c11
     have H' := Aside0.mk H
     clear H
     obtain ⟨Ao12, co12, eo12⟩ := Kd.R_slice HO243.out
     subst eo12
     go_wp2
     go_meet
     case rel => exact ⟨_, (true), (by first | rfl | (simp; done) | (simp [*]; done)), H', ⟨by first | omega | exact Nat.le_refl _⟩, ⟨by (with_reducible repeat (first | apply Kd.R_alloc | apply Kd.R_drewN | apply Kd.R_drew)); exact HO243.out⟩, ⟨by repeat (first | (with_reducible first | exact HB.out | apply below_alloc | apply pw_below_drewN | apply below_drew1) | exact HB.out)⟩⟩
    ·rw [if_neg c11] at H
     have c11b0 : decide (10 < (t241.length : Int)) = false := decide_eq_false c11
     have c11b1 : decide (10 < t241.length) = false := decide_eq_false (by omega)
     clear c11
     have H' := Aside0.mk H
     clear H
     obtain ⟨Ao13, co13, eo13⟩ := Kd.R_slice HO243.out
     subst eo13
     go_wp2
     go_meet
     case rel => exact ⟨_, (decide ((a1.size : Int) > 100)), (by first | rfl | (simp; done) | (simp [*]; done)), H', ⟨by first | omega | exact Nat.le_refl _⟩, ⟨by (with_reducible repeat (first | apply Kd.R_alloc | apply Kd.R_drewN | apply Kd.R_drew)); exact HO243.out⟩, ⟨by repeat (first | (with_reducible first | exact HB.out | apply below_alloc | apply pw_below_drewN | apply below_drew1) | exact HB.out)⟩⟩
  case rest =>
   clear HC6
   try clear c1
   try clear p2
   try clear c4
   try clear c5
   try clear c8
   try clear c9
   try clear c9b0
   try clear c9b1
   try clear c9b2
   try clear c11
   try clear c11b0
   try clear c11b1
   obtain ⟨kq, x34_5, rfl, HA, HJ5, HO_5, HB⟩ := hcut
   cases kq with
   | zero => exact absurd HA.out (by simp [burinlaw07_BracketWrites.j0])
   | succ kj5 =>
    have H := HA.out
    clear HA
    simp only [burinlaw07_BracketWrites.j0] at H
    by_cases c14 : x34_5 = true
    ·subst c14
     have H1 : (some true) = some r := by rw [if_pos rfl] at H; exact H
     clear H
     have H := H1
     clear H1
     obtain rfl := Option.some.inj H
     go_wp2
     go_ret
     exact ⟨by first | rfl | (simp [errW_none, errW_some] <;> rfl) | (simp [*, errW_none, errW_some] <;> rfl), by repeat (first | (with_reducible first | exact HB.out | apply below_alloc | apply pw_below_drewN | apply below_drew1) | exact HB.out)⟩
    ·replace c14 := Bool.eq_false_iff.mpr c14
     subst c14
     have H1 : (burinlaw07_BracketWrites.l0 kj5 a1 t241 (⟨#[]⟩ : ByteArray) t241 (t241.length : Int) 0) = some r := by rw [if_neg (show ¬ (false = true) by decide)] at H; exact H
     clear H
     have H := H1
     clear H1
     have H' := Aside0.mk H
     clear H
     obtain ⟨Ao15, co15, eo15⟩ := Kd.R_slice HO_5.out
     subst eo15
     go_wp2
     go_loopg [6, 37] kj5 (fun kq v6 v37 w' => ∃ (x6_2 : ByteArray) (x37_2 : Int), v6 = .string x6_2 ∧ v37 = .int .i64 x37_2 ∧ Aside0 (burinlaw07_BracketWrites.l0 kq a1 t241 x6_2 t241 (t241.length : Int) x37_2 = some r) ∧ Aside0 (kq ≤ kj5) ∧ Aside0 (Kd.R k36 36 w' w.heap.size (fun _ => True) (.slice Ao15 t241.length co15) t241) ∧ Aside0 (Kd.R k36 36 w' w.heap.size (fun _ => True) (.slice Ao15 t241.length co15) t241) ∧ Aside0 (Below w.heap.size w w'))
     case atStart => exact ⟨((⟨#[]⟩ : ByteArray)), (0), (by first | rfl | (simp; done) | (simp [*]; done)), (by first | rfl | (simp; done) | (simp [*]; done)), H', ⟨Nat.le_refl _⟩, ⟨by (with_reducible repeat (first | apply Kd.R_alloc | apply Kd.R_drewN | apply Kd.R_drew)); exact HO_5.out⟩, ⟨by (with_reducible repeat (first | apply Kd.R_alloc | apply Kd.R_drewN | apply Kd.R_drew)); exact HO_5.out⟩, ⟨by repeat (first | (with_reducible first | exact HB.out | apply below_alloc | apply pw_below_drewN | apply below_drew1) | exact HB.out)⟩⟩
     case round =>
      clear H'
      try clear c1
      try clear p2
      try clear c4
      try clear c5
      try clear c8
      try clear c9
      try clear c9b0
      try clear c9b1
      try clear c9b2
      try clear c11
      try clear c11b0
      try clear c11b1
      try clear c14
      try clear p2
      obtain ⟨x6_2, x37_2, rfl, rfl, HA, HK2, HO_5, HO_35, HB⟩ := hrel
      cases gk with
      | zero => exact absurd HA.out (by simp [burinlaw07_BracketWrites.l0])
      | succ k2 =>
       have H := HA.out
       clear HA
       simp only [burinlaw07_BracketWrites.l0] at H
       by_cases c16 : x37_2 < (t241.length : Int)
       ·rw [if_pos c16] at H
        have c16b0 : decide (x37_2 < (t241.length : Int)) = true := decide_eq_true c16
        clear c16
        by_cases c17 : 0 ≤ x37_2
        ·rw [if_pos c17] at H
         have c17b0 : decide (0 ≤ x37_2) = true := decide_eq_true c17
         clear c17
         by_cases c18 : x37_2 < (t241.length : Int)
         ·rw [if_pos c18] at H
          have c18b0 : decide (x37_2 < (t241.length : Int)) = true := decide_eq_true c18
          clear c18
          replace H := Option.bind_eq_some_iff.mp H
          obtain ⟨t246, A190, H⟩ := H
          replace H : (if 3 + t246.size ≤ 9223372036854775807 then (if ((⟨#[92, 120, 123]⟩ : ByteArray) ++ t246).size + 5 ≤ 9223372036854775807 then ((burinlaw07_hex.f ((rd_T36 t241 x37_2).f1)).bind fun t247 => (if (((⟨#[92, 120, 123]⟩ : ByteArray) ++ t246) ++ (⟨#[125, 45, 92, 120, 123]⟩ : ByteArray)).size + t247.size ≤ 9223372036854775807 then (if ((((⟨#[92, 120, 123]⟩ : ByteArray) ++ t246) ++ (⟨#[125, 45, 92, 120, 123]⟩ : ByteArray)) ++ t247).size + 1 ≤ 9223372036854775807 then (if x6_2.size + (((((⟨#[92, 120, 123]⟩ : ByteArray) ++ t246) ++ (⟨#[125, 45, 92, 120, 123]⟩ : ByteArray)) ++ t247) ++ (⟨#[125]⟩ : ByteArray)).size ≤ 9223372036854775807 then (burinlaw07_BracketWrites.l0 k2 a1 t241 (x6_2 ++ (((((⟨#[92, 120, 123]⟩ : ByteArray) ++ t246) ++ (⟨#[125, 45, 92, 120, 123]⟩ : ByteArray)) ++ t247) ++ (⟨#[125]⟩ : ByteArray))) t241 (t241.length : Int) (wrap64 (x37_2 + 1))) else (none)) else (none)) else (none))) else (none)) else (none)) = some r := H
          have A19 := Aside0.mk A190
          clear A190
          by_cases c20 : 3 + t246.size ≤ 9223372036854775807
          ·rw [if_pos c20] at H
           have c20b0 := eq_true c20
           have c20b1 : decide (3 + t246.size ≤ 9223372036854775807) = true := decide_eq_true c20
           try have c20b2 : (9223372036854775807 < 3 + t246.size) = False := eq_false (Nat.not_lt.2 c20)
           by_cases c21 : ((⟨#[92, 120, 123]⟩ : ByteArray) ++ t246).size + 5 ≤ 9223372036854775807
           ·rw [if_pos c21] at H
            have c21b0 := eq_true c21
            have c21b1 : decide (((⟨#[92, 120, 123]⟩ : ByteArray) ++ t246).size + 5 ≤ 9223372036854775807) = true := decide_eq_true c21
            try have c21b2 : (9223372036854775807 < ((⟨#[92, 120, 123]⟩ : ByteArray) ++ t246).size + 5) = False := eq_false (Nat.not_lt.2 c21)
            try (have c21b3 := c21b2; simp only [ByteArray.size_append, show (⟨#[92, 120, 123]⟩ : ByteArray).size = 3 from rfl] at c21b3)
            replace H := Option.bind_eq_some_iff.mp H
            obtain ⟨t247, A220, H⟩ := H
            replace H : (if (((⟨#[92, 120, 123]⟩ : ByteArray) ++ t246) ++ (⟨#[125, 45, 92, 120, 123]⟩ : ByteArray)).size + t247.size ≤ 9223372036854775807 then (if ((((⟨#[92, 120, 123]⟩ : ByteArray) ++ t246) ++ (⟨#[125, 45, 92, 120, 123]⟩ : ByteArray)) ++ t247).size + 1 ≤ 9223372036854775807 then (if x6_2.size + (((((⟨#[92, 120, 123]⟩ : ByteArray) ++ t246) ++ (⟨#[125, 45, 92, 120, 123]⟩ : ByteArray)) ++ t247) ++ (⟨#[125]⟩ : ByteArray)).size ≤ 9223372036854775807 then (burinlaw07_BracketWrites.l0 k2 a1 t241 (x6_2 ++ (((((⟨#[92, 120, 123]⟩ : ByteArray) ++ t246) ++ (⟨#[125, 45, 92, 120, 123]⟩ : ByteArray)) ++ t247) ++ (⟨#[125]⟩ : ByteArray))) t241 (t241.length : Int) (wrap64 (x37_2 + 1))) else (none)) else (none)) else (none)) = some r := H
            have A22 := Aside0.mk A220
            clear A220
            by_cases c23 : (((⟨#[92, 120, 123]⟩ : ByteArray) ++ t246) ++ (⟨#[125, 45, 92, 120, 123]⟩ : ByteArray)).size + t247.size ≤ 9223372036854775807
            ·rw [if_pos c23] at H
             have c23b0 := eq_true c23
             have c23b1 : decide ((((⟨#[92, 120, 123]⟩ : ByteArray) ++ t246) ++ (⟨#[125, 45, 92, 120, 123]⟩ : ByteArray)).size + t247.size ≤ 9223372036854775807) = true := decide_eq_true c23
             try have c23b2 : (9223372036854775807 < (((⟨#[92, 120, 123]⟩ : ByteArray) ++ t246) ++ (⟨#[125, 45, 92, 120, 123]⟩ : ByteArray)).size + t247.size) = False := eq_false (Nat.not_lt.2 c23)
             try (have c23b3 := c23b2; simp only [ByteArray.size_append, show (⟨#[92, 120, 123]⟩ : ByteArray).size = 3 from rfl, show (⟨#[125, 45, 92, 120, 123]⟩ : ByteArray).size = 5 from rfl] at c23b3)
             by_cases c24 : ((((⟨#[92, 120, 123]⟩ : ByteArray) ++ t246) ++ (⟨#[125, 45, 92, 120, 123]⟩ : ByteArray)) ++ t247).size + 1 ≤ 9223372036854775807
             ·rw [if_pos c24] at H
              have c24b0 := eq_true c24
              have c24b1 : decide (((((⟨#[92, 120, 123]⟩ : ByteArray) ++ t246) ++ (⟨#[125, 45, 92, 120, 123]⟩ : ByteArray)) ++ t247).size + 1 ≤ 9223372036854775807) = true := decide_eq_true c24
              try have c24b2 : (9223372036854775807 < ((((⟨#[92, 120, 123]⟩ : ByteArray) ++ t246) ++ (⟨#[125, 45, 92, 120, 123]⟩ : ByteArray)) ++ t247).size + 1) = False := eq_false (Nat.not_lt.2 c24)
              try (have c24b3 := c24b2; simp only [ByteArray.size_append, show (⟨#[92, 120, 123]⟩ : ByteArray).size = 3 from rfl, show (⟨#[125, 45, 92, 120, 123]⟩ : ByteArray).size = 5 from rfl] at c24b3)
              by_cases c25 : x6_2.size + (((((⟨#[92, 120, 123]⟩ : ByteArray) ++ t246) ++ (⟨#[125, 45, 92, 120, 123]⟩ : ByteArray)) ++ t247) ++ (⟨#[125]⟩ : ByteArray)).size ≤ 9223372036854775807
              ·rw [if_pos c25] at H
               have c25b0 := eq_true c25
               have c25b1 : decide (x6_2.size + (((((⟨#[92, 120, 123]⟩ : ByteArray) ++ t246) ++ (⟨#[125, 45, 92, 120, 123]⟩ : ByteArray)) ++ t247) ++ (⟨#[125]⟩ : ByteArray)).size ≤ 9223372036854775807) = true := decide_eq_true c25
               try have c25b2 : (9223372036854775807 < x6_2.size + (((((⟨#[92, 120, 123]⟩ : ByteArray) ++ t246) ++ (⟨#[125, 45, 92, 120, 123]⟩ : ByteArray)) ++ t247) ++ (⟨#[125]⟩ : ByteArray)).size) = False := eq_false (Nat.not_lt.2 c25)
               try (have c25b3 := c25b2; simp only [ByteArray.size_append, show (⟨#[92, 120, 123]⟩ : ByteArray).size = 3 from rfl, show (⟨#[125, 45, 92, 120, 123]⟩ : ByteArray).size = 5 from rfl, show (⟨#[125]⟩ : ByteArray).size = 1 from rfl] at c25b3)
               have H' := Aside0.mk H
               clear H
               have p244 : 0 ≤ (x37_2 : Int) := of_decide_eq_true (by first | (with_reducible assumption) | assumption)
               have q244 : x37_2 < (t241.length : Int) := of_decide_eq_true (by first | (with_reducible assumption) | assumption)
               obtain ⟨ad244, e244, hx244_0, hx244_1⟩ := at_T36 (Kd.R_reads' HO_35.out).2.2 x37_2 p244 q244
               cases e244
               replace p244 := eq_true p244
               replace q244 := eq_true q244
               try go_wp2_with (first | ((with_reducible refine gate_dst (N := 8) rfl ?_); (try (refine gate_guard (by rfl) ?_; dsimp only)); refine box_event ?hg (N := 8) ?hd (cs := #[.int .i64 0, .int .i64 0]) (t := 36) ?hr ?_; (case hd => rfl); (case hg => rfl); (case hr => first | (go_simp; done) | (go_simp; rfl)); intro gb245 hg w26 hbox hb; have n0_ := Aside0.mk (Kd.R_below (Kd.R_elderB (by (with_reducible repeat (first | apply Kd.R_alloc | apply Kd.R_drewN | apply Kd.R_drew)); exact HO_5.out) gb245 (Nat.le_of_eq hg.symm)) hb); have n1_ := Aside0.mk (Kd.R_below (Kd.R_elderB (by (with_reducible repeat (first | apply Kd.R_alloc | apply Kd.R_drewN | apply Kd.R_drew)); exact HO_35.out) gb245 (Nat.le_of_eq hg.symm)) hb); have n2_ := Aside0.mk (below_step (by repeat (first | (with_reducible first | exact HB.out | apply below_alloc | apply pw_below_drewN | apply below_drew1) | exact HB.out)) hb); have n3_ := Aside0.mk (hbox); have n4_ := Aside0.mk ((by rw [hg]; exact (below_size (by repeat (first | (with_reducible first | exact HB.out | apply below_alloc | apply pw_below_drewN | apply below_drew1) | exact HB.out))) : w.heap.size ≤ gb245)); have n5_ := Aside0.mk ((by rw [hg]; exact (below_size (by repeat (first | (with_reducible first | exact HB.out | apply below_alloc | apply pw_below_drewN | apply below_drew1) | exact HB.out))) : w.heap.size ≤ gb245)); clear HO_5; clear HO_35; clear HB; have HO_5 := n0_; have HO_35 := n1_; have HB := n2_; have BK245 := n3_; have GW245 := n4_; have GE245 := n5_; clear n0_ n1_ n2_ n3_ n4_ n5_; clear hb hbox hg; have hcz27_0 : w26.cell? ⟨gb245, 0, none⟩ = some (.int .i64 0) := (blk_cell BK245.out 0).trans rfl; have hcz27_1 : w26.cell? ⟨gb245, 1, none⟩ = some (.int .i64 0) := (blk_cell BK245.out 1).trans rfl; have hfz27_0 := blk_frozen BK245.out 0; have hfz27_1 := blk_frozen BK245.out 1; have hcy27_a : ∀ u, (w26.setCell ⟨gb245, 0, none⟩ u).cell? ⟨gb245, 1, none⟩ = some (.int .i64 0) := fun u => (blk_cell (blk_put BK245.out 0 u rfl) 1).trans rfl; have hcy27_b : ∀ u v, ((w26.setCell ⟨gb245, 0, none⟩ u).setCell ⟨gb245, 1, none⟩ v).cell? ⟨gb245, 0, none⟩ = some u := fun u v => (blk_cell (blk_put (blk_put BK245.out 0 u rfl) 1 v rfl) 0).trans rfl; have hcy27_c : ∀ u v u1, (((w26.setCell ⟨gb245, 0, none⟩ u).setCell ⟨gb245, 1, none⟩ v).setCell ⟨gb245, 0, none⟩ u1).cell? ⟨gb245, 1, none⟩ = some v := fun u v u1 => (blk_cell (blk_put (blk_put (blk_put BK245.out 0 u rfl) 1 v rfl) 0 u1 rfl) 1).trans rfl))
               have n0_ : Aside0 (Kd.R k36 36 ((w26.setCell ⟨gb245, 0, none⟩ (.int .i64 ((rd_T36 t241 x37_2).f0))).setCell ⟨gb245, 1, none⟩ (.int .i64 ((rd_T36 t241 x37_2).f1))) w.heap.size (fun k_ => k_ ≠ gb245) (.slice (some ad244) t241.length co15) t241) := ⟨by (with_reducible repeat (first | apply Kd.R_alloc | apply Kd.R_drewN | apply Kd.R_drew)); exact Kd.R_mono (Kd.R_far (p := ⟨gb245, 1, none⟩) (Kd.R_far (p := ⟨gb245, 0, none⟩) (Kd.R_mono HO_5.out (fun k_ hk => (⟨hk, hk.2⟩ : _ ∧ k_ ≠ gb245))) (fun _ hk => hk.2) (.int .i64 ((rd_T36 t241 x37_2).f0))) (fun _ hk => hk.2) (.int .i64 ((rd_T36 t241 x37_2).f1))) (fun _ hk => hk.1.2)⟩
               have n1_ : Aside0 (Kd.R k36 36 ((w26.setCell ⟨gb245, 0, none⟩ (.int .i64 ((rd_T36 t241 x37_2).f0))).setCell ⟨gb245, 1, none⟩ (.int .i64 ((rd_T36 t241 x37_2).f1))) w.heap.size (fun k_ => k_ ≠ gb245) (.slice (some ad244) t241.length co15) t241) := ⟨by (with_reducible repeat (first | apply Kd.R_alloc | apply Kd.R_drewN | apply Kd.R_drew)); exact Kd.R_mono (Kd.R_far (p := ⟨gb245, 1, none⟩) (Kd.R_far (p := ⟨gb245, 0, none⟩) (Kd.R_mono HO_35.out (fun k_ hk => (⟨hk, hk.2⟩ : _ ∧ k_ ≠ gb245))) (fun _ hk => hk.2) (.int .i64 ((rd_T36 t241 x37_2).f0))) (fun _ hk => hk.2) (.int .i64 ((rd_T36 t241 x37_2).f1))) (fun _ hk => hk.1.2)⟩
               have n2_ : Aside0 (((w26.setCell ⟨gb245, 0, none⟩ (.int .i64 ((rd_T36 t241 x37_2).f0))).setCell ⟨gb245, 1, none⟩ (.int .i64 ((rd_T36 t241 x37_2).f1))).heap[gb245]? = some (.cells #[.int .i64 ((rd_T36 t241 x37_2).f0), .int .i64 ((rd_T36 t241 x37_2).f1)] 36 (0, 0))) := ⟨by (with_reducible repeat (first | refine blk_drewN ?_ _ | refine blk_drew ?_ | refine blk_alloc ?_ _)); refine blk_put (cs := #[.int .i64 ((rd_T36 t241 x37_2).f0), .int .i64 0]) ?_ 1 _ rfl; (with_reducible repeat (first | refine blk_drewN ?_ _ | refine blk_drew ?_ | refine blk_alloc ?_ _)); refine blk_put (cs := #[.int .i64 0, .int .i64 0]) ?_ 0 _ rfl; (with_reducible repeat (first | refine blk_drewN ?_ _ | refine blk_drew ?_ | refine blk_alloc ?_ _)); exact BK245.out⟩
               have n3_ : Aside0 (Below w.heap.size w ((w26.setCell ⟨gb245, 0, none⟩ (.int .i64 ((rd_T36 t241 x37_2).f0))).setCell ⟨gb245, 1, none⟩ (.int .i64 ((rd_T36 t241 x37_2).f1)))) := ⟨by repeat (first | (with_reducible first | exact HB.out | apply below_alloc | apply pw_below_drewN | apply below_drew1 | refine below_set ?_ GE245.out) | exact HB.out)⟩
               (try clear HO_5)
               (try clear HO_35)
               (try clear BK245)
               (try clear HB)
               generalize ((w26.setCell ⟨gb245, 0, none⟩ (.int .i64 ((rd_T36 t241 x37_2).f0))).setCell ⟨gb245, 1, none⟩ (.int .i64 ((rd_T36 t241 x37_2).f1))) = w28 at n0_ n1_ n2_ n3_ ⊢
               have HO_5 := n0_
               have HO_35 := n1_
               have BK245 := n2_
               have HB := n3_
               clear n0_ n1_ n2_ n3_
               have n0_ := Aside0.mk (Kd.R_drew HO_5.out)
               have n1_ := Aside0.mk (Kd.R_drew HO_35.out)
               have n2_ := Aside0.mk (blk_drew BK245.out)
               have n3_ := Aside0.mk (below_drew1 HB.out)
               clear HO_5
               clear HO_35
               clear BK245
               clear HB
               have HO_5 := n0_
               have HO_35 := n1_
               have BK245 := n2_
               have HB := n3_
               clear n0_ n1_ n2_ n3_
               refine start_ (n := 13) (S := fun w' => w'.cell? ⟨gb245, 0, none⟩ = some (.int .i64 ((rd_T36 t241 x37_2).f0)) ∧ w'.cell? ⟨gb245, 1, none⟩ = some (.int .i64 ((rd_T36 t241 x37_2).f1))) (ds := []) #[false, false, false, false, false, false, false, false, false, false, false, false, false] (by kernel_rfl) rfl rfl ⟨(blk_cell BK245.out 0).trans rfl, (blk_cell BK245.out 1).trans rfl⟩ (fun hHeld => ?_); refine with_tabW burinlaw07_BracketWrites.tab10 burinlaw07_BracketWrites.bits10 (fun HT_ HW_ => ?_)
               generalize w28.drew = w29 at HO_5 HO_35 BK245 HB hHeld ⊢
               refine pure_ (i := 0) (N := some 41) (v := ?_) (a' := ?_) #[true, false, false, false, false, false, false, false, false, false, false, false, false] rfl rfl (any_of HT_.out (by kernel_rfl)) (fun _ _ _ h => h) (Or.inl ⟨by rfl, ?_⟩) ?_ ?_
               rotate_left
               ·intro w'
                go_simp
                with_reducible rfl
               rotate_left
               ·simp only [Act.put, List.setIfInBounds_toArray, List.set_cons_zero, List.set_cons_succ, i64_w, i32_w]
                rfl
               refine pure_ (i := 1) (N := some 42) (v := ?_) (a' := ?_) #[true, true, false, false, false, false, false, false, false, false, false, false, false] rfl rfl (any_of HT_.out (by kernel_rfl)) (fun _ _ _ h => h) (Or.inl ⟨by rfl, ?_⟩) ?_ ?_
               rotate_left
               ·intro w'
                go_simp
                with_reducible rfl
               rotate_left
               ·simp only [Act.put, List.setIfInBounds_toArray, List.set_cons_zero, List.set_cons_succ, i64_w, i32_w]
                rfl
               refine pure_ (i := 6) (N := some 47) (v := ?_) (a' := ?_) #[true, true, false, false, false, false, true, false, false, false, false, false, false] rfl rfl (any_of HT_.out (by kernel_rfl)) (fun _ _ _ h => h) (Or.inl ⟨by rfl, ?_⟩) ?_ ?_
               rotate_left
               ·intro w'
                go_simp
                with_reducible rfl
               rotate_left
               ·simp only [Act.put, List.setIfInBounds_toArray, List.set_cons_zero, List.set_cons_succ, i64_w, i32_w]
                rfl
               refine take_ (i := 2) (N := some 43) (v := ?_) (a' := ?_) #[true, true, true, false, false, false, true, false, false, false, false, false, false] rfl rfl (take_ofW HT_.out HW_.out (by kernel_rfl)) (fun _ _ _ h => h) (Or.inl ⟨by rfl, ?_⟩) hHeld ?_ ?_
               rotate_left
               ·rintro w' ⟨s0, s1⟩
                go_simp
                with_reducible rfl
               rotate_left
               ·simp only [Act.put, List.setIfInBounds_toArray, List.set_cons_zero, List.set_cons_succ, i64_w, i32_w]
                rfl
               refine take_ (i := 7) (N := some 48) (v := ?_) (a' := ?_) #[true, true, true, false, false, false, true, true, false, false, false, false, false] rfl rfl (take_ofW HT_.out HW_.out (by kernel_rfl)) (fun _ _ _ h => h) (Or.inl ⟨by rfl, ?_⟩) hHeld ?_ ?_
               rotate_left
               ·rintro w' ⟨s0, s1⟩
                go_simp
                with_reducible rfl
               rotate_left
               ·simp only [Act.put, List.setIfInBounds_toArray, List.set_cons_zero, List.set_cons_succ, i64_w, i32_w]
                rfl
               refine one_ (i := 3) (N := some 44) #[true, true, true, true, false, false, true, true, false, false, false, false, false] rfl rfl (one_of HT_.out (by kernel_rfl)) (by decide) (fun K hK => ?_)
               refine goes_ Tryz.func18 (by kernel_rfl) rfl #[.int .i64 ((rd_T36 t241 x37_2).f0)] (by rfl) rfl rfl (by (try simp only [List.map_toArray, List.map_cons, List.map_nil]); first | done | rfl | (simp only [List.length_drop, List.length_take]; rfl)) ?_
               with_reducible refine (burinlaw07_hex.calls ((rd_T36 t241 x37_2).f0) t246 _ A19.out).mono ?_
               rintro e w30 ⟨rfl, hb⟩
               refine ⟨_, rfl, ?_⟩
               have n0_ := Aside0.mk (Kd.R_below (by (with_reducible repeat (first | apply Kd.R_alloc | apply Kd.R_drewN | apply Kd.R_drew)); exact HO_5.out) hb)
               have n1_ := Aside0.mk (Kd.R_below (by (with_reducible repeat (first | apply Kd.R_alloc | apply Kd.R_drewN | apply Kd.R_drew)); exact HO_35.out) hb)
               have n2_ := Aside0.mk (blk_below (g := gb245) (o := .cells #[.int .i64 ((rd_T36 t241 x37_2).f0), .int .i64 ((rd_T36 t241 x37_2).f1)] 36 (0, 0)) (by (with_reducible repeat (first | refine blk_drewN ?_ _ | refine blk_drew ?_ | refine blk_alloc ?_ _)); exact BK245.out) hb)
               have n3_ := Aside0.mk (below_step (by repeat (first | (with_reducible first | exact HB.out | apply below_alloc | apply pw_below_drewN | apply below_drew1 | refine below_set ?_ GE245.out) | exact HB.out)) hb)
               clear HO_5
               clear HO_35
               clear BK245
               clear HB
               have HO_5 := n0_
               have HO_35 := n1_
               have BK245 := n2_
               have HB := n3_
               clear n0_ n1_ n2_ n3_
               (try clear hb)
               (try clear hb2)
               (try clear hk)
               (try clear hi)
               refine hK.out _ _ ⟨(blk_cell BK245.out 0).trans rfl, (blk_cell BK245.out 1).trans rfl⟩ (fun hHeld => ?_)
               clear hK K
               refine norm_ (a' := ?_) ?_ ?_
               rotate_left
               ·show Act.put _ (some 44) _ = _
                simp only [Act.put, List.setIfInBounds_toArray, List.set_cons_zero, List.set_cons_succ, i64_w, i32_w]
                rfl
               refine pure_ (i := 4) (N := some 45) (v := ?_) (a' := ?_) #[true, true, true, true, true, false, true, true, false, false, false, false, false] rfl rfl (any_of HT_.out (by kernel_rfl)) (fun _ _ _ h => h) (Or.inl ⟨by rfl, ?_⟩) ?_ ?_
               rotate_left
               ·intro w'
                go_simp
                with_reducible rfl
               rotate_left
               ·simp only [Act.put, List.setIfInBounds_toArray, List.set_cons_zero, List.set_cons_succ, i64_w, i32_w]
                rfl
               refine pure_ (i := 5) (N := some 46) (v := ?_) (a' := ?_) #[true, true, true, true, true, true, true, true, false, false, false, false, false] rfl rfl (any_of HT_.out (by kernel_rfl)) (fun _ _ _ h => h) (Or.inl ⟨by rfl, ?_⟩) ?_ ?_
               rotate_left
               ·intro w'
                go_simp
                with_reducible rfl
               rotate_left
               ·simp only [Act.put, List.setIfInBounds_toArray, List.set_cons_zero, List.set_cons_succ, i64_w, i32_w]
                rfl
               refine one_ (i := 8) (N := some 49) #[true, true, true, true, true, true, true, true, true, false, false, false, false] rfl rfl (one_of HT_.out (by kernel_rfl)) (by decide) (fun K hK => ?_)
               refine goes_ Tryz.func18 (by kernel_rfl) rfl #[.int .i64 ((rd_T36 t241 x37_2).f1)] (by rfl) rfl rfl (by (try simp only [List.map_toArray, List.map_cons, List.map_nil]); first | done | rfl | (simp only [List.length_drop, List.length_take]; rfl)) ?_
               with_reducible refine (burinlaw07_hex.calls ((rd_T36 t241 x37_2).f1) t247 _ A22.out).mono ?_
               rintro e w31 ⟨rfl, hb⟩
               refine ⟨_, rfl, ?_⟩
               have n0_ := Aside0.mk (Kd.R_below (by (with_reducible repeat (first | apply Kd.R_alloc | apply Kd.R_drewN | apply Kd.R_drew)); exact HO_5.out) hb)
               have n1_ := Aside0.mk (Kd.R_below (by (with_reducible repeat (first | apply Kd.R_alloc | apply Kd.R_drewN | apply Kd.R_drew)); exact HO_35.out) hb)
               have n2_ := Aside0.mk (blk_below (g := gb245) (o := .cells #[.int .i64 ((rd_T36 t241 x37_2).f0), .int .i64 ((rd_T36 t241 x37_2).f1)] 36 (0, 0)) (by (with_reducible repeat (first | refine blk_drewN ?_ _ | refine blk_drew ?_ | refine blk_alloc ?_ _)); exact BK245.out) hb)
               have n3_ := Aside0.mk (below_step (by repeat (first | (with_reducible first | exact HB.out | apply below_alloc | apply pw_below_drewN | apply below_drew1 | refine below_set ?_ GE245.out) | exact HB.out)) hb)
               clear HO_5
               clear HO_35
               clear BK245
               clear HB
               have HO_5 := n0_
               have HO_35 := n1_
               have BK245 := n2_
               have HB := n3_
               clear n0_ n1_ n2_ n3_
               (try clear hb)
               (try clear hb2)
               (try clear hk)
               (try clear hi)
               refine hK.out _ _ ⟨(blk_cell BK245.out 0).trans rfl, (blk_cell BK245.out 1).trans rfl⟩ (fun hHeld => ?_)
               clear hK K
               refine norm_ (a' := ?_) ?_ ?_
               rotate_left
               ·show Act.put _ (some 49) _ = _
                simp only [Act.put, List.setIfInBounds_toArray, List.set_cons_zero, List.set_cons_succ, i64_w, i32_w]
                rfl
               refine pure_ (i := 9) (N := some 50) (v := ?_) (a' := ?_) #[true, true, true, true, true, true, true, true, true, true, false, false, false] rfl rfl (any_of HT_.out (by kernel_rfl)) (fun _ _ _ h => h) (Or.inl ⟨by rfl, ?_⟩) ?_ ?_
               rotate_left
               ·intro w'
                go_simp
                with_reducible rfl
               rotate_left
               ·simp only [Act.put, List.setIfInBounds_toArray, List.set_cons_zero, List.set_cons_succ, i64_w, i32_w]
                rfl
               refine pure_ (i := 10) (N := some 51) (v := ?_) (a' := ?_) #[true, true, true, true, true, true, true, true, true, true, true, false, false] rfl rfl (any_of HT_.out (by kernel_rfl)) (fun _ _ _ h => h) (Or.inl ⟨by rfl, ?_⟩) ?_ ?_
               rotate_left
               ·intro w'
                go_simp
                with_reducible rfl
               rotate_left
               ·simp only [Act.put, List.setIfInBounds_toArray, List.set_cons_zero, List.set_cons_succ, i64_w, i32_w]
                rfl
               refine pure_ (i := 11) (N := some 52) (v := ?_) (a' := ?_) #[true, true, true, true, true, true, true, true, true, true, true, true, false] rfl rfl (any_of HT_.out (by kernel_rfl)) (fun _ _ _ h => h) (Or.inl ⟨by rfl, ?_⟩) ?_ ?_
               rotate_left
               ·intro w'
                go_simp
                with_reducible rfl
               rotate_left
               ·simp only [Act.put, List.setIfInBounds_toArray, List.set_cons_zero, List.set_cons_succ, i64_w, i32_w]
                rfl
               refine pure_ (i := 12) (N := some 6) (v := ?_) (a' := ?_) #[true, true, true, true, true, true, true, true, true, true, true, true, true] rfl rfl (any_of HT_.out (by kernel_rfl)) (fun _ _ _ h => h) (Or.inl ⟨by rfl, ?_⟩) ?_ ?_
               rotate_left
               ·intro w'
                go_simp
                with_reducible rfl
               rotate_left
               ·simp only [Act.put, List.setIfInBounds_toArray, List.set_cons_zero, List.set_cons_succ, i64_w, i32_w]
                rfl
               refine done_ (done_of HT_.out (by kernel_rfl)) ?_
               try go_wp2
               go_roundg k2
               case measure => have := HJ5.out; have := HK2.out; omega
               case rel => exact ⟨(x6_2 ++ (((((⟨#[92, 120, 123]⟩ : ByteArray) ++ t246) ++ (⟨#[125, 45, 92, 120, 123]⟩ : ByteArray)) ++ t247) ++ (⟨#[125]⟩ : ByteArray))), (wrap64 (x37_2 + 1)), (by first | rfl | (simp; done) | (simp [*]; done)), (by first | rfl | (simp; done) | (simp [*]; done)), H', ⟨by have := HJ5.out; have := HK2.out; omega⟩, ⟨by (with_reducible repeat (first | apply Kd.R_alloc | apply Kd.R_drewN | apply Kd.R_drew)); exact Kd.R_mono HO_5.out (fun _ hk => trivial)⟩, ⟨by (with_reducible repeat (first | apply Kd.R_alloc | apply Kd.R_drewN | apply Kd.R_drew)); exact Kd.R_mono HO_35.out (fun _ hk => trivial)⟩, ⟨by repeat (first | (with_reducible first | exact HB.out | apply below_alloc | apply pw_below_drewN | apply below_drew1 | refine below_set ?_ GE245.out) | exact HB.out)⟩⟩
              ·rw [if_neg c25] at H
               exact absurd H (by simp)
             ·rw [if_neg c24] at H
              exact absurd H (by simp)
            ·rw [if_neg c23] at H
             exact absurd H (by simp)
           ·rw [if_neg c21] at H
            exact absurd H (by simp)
          ·rw [if_neg c20] at H
           exact absurd H (by simp)
         ·rw [if_neg c18] at H
          exact absurd H (by simp)
        ·rw [if_neg c17] at H
         exact absurd H (by simp)
       ·rw [if_neg c16] at H
        have c16b0 : decide (x37_2 < (t241.length : Int)) = false := decide_eq_false c16
        clear c16
        by_cases c32 : 1 + x6_2.size ≤ 9223372036854775807
        ·rw [if_pos c32] at H
         have c32b0 := eq_true c32
         have c32b1 : decide (1 + x6_2.size ≤ 9223372036854775807) = true := decide_eq_true c32
         try have c32b2 : (9223372036854775807 < 1 + x6_2.size) = False := eq_false (Nat.not_lt.2 c32)
         by_cases c33 : ((⟨#[91]⟩ : ByteArray) ++ x6_2).size + 1 ≤ 9223372036854775807
         ·rw [if_pos c33] at H
          have c33b0 := eq_true c33
          have c33b1 : decide (((⟨#[91]⟩ : ByteArray) ++ x6_2).size + 1 ≤ 9223372036854775807) = true := decide_eq_true c33
          try have c33b2 : (9223372036854775807 < ((⟨#[91]⟩ : ByteArray) ++ x6_2).size + 1) = False := eq_false (Nat.not_lt.2 c33)
          try (have c33b3 := c33b2; simp only [ByteArray.size_append, show (⟨#[91]⟩ : ByteArray).size = 1 from rfl] at c33b3)
          by_cases c34 : (((⟨#[91]⟩ : ByteArray) ++ x6_2) ++ (⟨#[93]⟩ : ByteArray)).size + a1.size ≤ 9223372036854775807
          ·rw [if_pos c34] at H
           have c34b0 := eq_true c34
           have c34b1 : decide ((((⟨#[91]⟩ : ByteArray) ++ x6_2) ++ (⟨#[93]⟩ : ByteArray)).size + a1.size ≤ 9223372036854775807) = true := decide_eq_true c34
           try have c34b2 : (9223372036854775807 < (((⟨#[91]⟩ : ByteArray) ++ x6_2) ++ (⟨#[93]⟩ : ByteArray)).size + a1.size) = False := eq_false (Nat.not_lt.2 c34)
           try (have c34b3 := c34b2; simp only [ByteArray.size_append, show (⟨#[91]⟩ : ByteArray).size = 1 from rfl, show (⟨#[93]⟩ : ByteArray).size = 1 from rfl] at c34b3)
           replace H := Option.bind_eq_some_iff.mp H
           obtain ⟨⟨t248, t249, t250⟩, A350, H⟩ := H
           replace H : (if 2 + x6_2.size ≤ 9223372036854775807 then (if ((⟨#[91, 94]⟩ : ByteArray) ++ x6_2).size + 1 ≤ 9223372036854775807 then (if (((⟨#[91, 94]⟩ : ByteArray) ++ x6_2) ++ (⟨#[93]⟩ : ByteArray)).size + a1.size ≤ 9223372036854775807 then ((bracket_Bracket.f k2 ((((⟨#[91, 94]⟩ : ByteArray) ++ x6_2) ++ (⟨#[93]⟩ : ByteArray)) ++ a1) 0).bind fun bt253 => ((bracket_Bracket.f k2 (((⟨#[91]⟩ : ByteArray) ++ x6_2) ++ (⟨#[93]⟩ : ByteArray)) 1).bind fun bt258 => (if t250 = 0 then (if bt253.2.2 = 0 then (if bt258.2.2 = 0 then (if t249 = (wrap64 ((x6_2.size : Int) + 2)) then (if bt253.2.1 = (wrap64 ((x6_2.size : Int) + 3)) then (burinlaw07_BracketWrites.j2 k2 t241 t248 bt253.1 bt258.1 (bt258.2.1 != t249)) else (burinlaw07_BracketWrites.j2 k2 t241 t248 bt253.1 bt258.1 true)) else (burinlaw07_BracketWrites.j2 k2 t241 t248 bt253.1 bt258.1 true)) else (burinlaw07_BracketWrites.j2 k2 t241 t248 bt253.1 bt258.1 true)) else (burinlaw07_BracketWrites.j2 k2 t241 t248 bt253.1 bt258.1 true)) else (burinlaw07_BracketWrites.j2 k2 t241 t248 bt253.1 bt258.1 true)))) else (none)) else (none)) else (none)) = some r := H
           have A35 := Aside0.mk A350
           clear A350
           by_cases c36 : 2 + x6_2.size ≤ 9223372036854775807
           ·rw [if_pos c36] at H
            have c36b0 := eq_true c36
            have c36b1 : decide (2 + x6_2.size ≤ 9223372036854775807) = true := decide_eq_true c36
            try have c36b2 : (9223372036854775807 < 2 + x6_2.size) = False := eq_false (Nat.not_lt.2 c36)
            by_cases c37 : ((⟨#[91, 94]⟩ : ByteArray) ++ x6_2).size + 1 ≤ 9223372036854775807
            ·rw [if_pos c37] at H
             have c37b0 := eq_true c37
             have c37b1 : decide (((⟨#[91, 94]⟩ : ByteArray) ++ x6_2).size + 1 ≤ 9223372036854775807) = true := decide_eq_true c37
             try have c37b2 : (9223372036854775807 < ((⟨#[91, 94]⟩ : ByteArray) ++ x6_2).size + 1) = False := eq_false (Nat.not_lt.2 c37)
             try (have c37b3 := c37b2; simp only [ByteArray.size_append, show (⟨#[91, 94]⟩ : ByteArray).size = 2 from rfl] at c37b3)
             by_cases c38 : (((⟨#[91, 94]⟩ : ByteArray) ++ x6_2) ++ (⟨#[93]⟩ : ByteArray)).size + a1.size ≤ 9223372036854775807
             ·rw [if_pos c38] at H
              have c38b0 := eq_true c38
              have c38b1 : decide ((((⟨#[91, 94]⟩ : ByteArray) ++ x6_2) ++ (⟨#[93]⟩ : ByteArray)).size + a1.size ≤ 9223372036854775807) = true := decide_eq_true c38
              try have c38b2 : (9223372036854775807 < (((⟨#[91, 94]⟩ : ByteArray) ++ x6_2) ++ (⟨#[93]⟩ : ByteArray)).size + a1.size) = False := eq_false (Nat.not_lt.2 c38)
              try (have c38b3 := c38b2; simp only [ByteArray.size_append, show (⟨#[91, 94]⟩ : ByteArray).size = 2 from rfl, show (⟨#[93]⟩ : ByteArray).size = 1 from rfl] at c38b3)
              replace H := Option.bind_eq_some_iff.mp H
              obtain ⟨⟨t253, t254, t255⟩, A390, H⟩ := H
              replace H : ((bracket_Bracket.f k2 (((⟨#[91]⟩ : ByteArray) ++ x6_2) ++ (⟨#[93]⟩ : ByteArray)) 1).bind fun bt258 => (if t250 = 0 then (if t255 = 0 then (if bt258.2.2 = 0 then (if t249 = (wrap64 ((x6_2.size : Int) + 2)) then (if t254 = (wrap64 ((x6_2.size : Int) + 3)) then (burinlaw07_BracketWrites.j2 k2 t241 t248 t253 bt258.1 (bt258.2.1 != t249)) else (burinlaw07_BracketWrites.j2 k2 t241 t248 t253 bt258.1 true)) else (burinlaw07_BracketWrites.j2 k2 t241 t248 t253 bt258.1 true)) else (burinlaw07_BracketWrites.j2 k2 t241 t248 t253 bt258.1 true)) else (burinlaw07_BracketWrites.j2 k2 t241 t248 t253 bt258.1 true)) else (burinlaw07_BracketWrites.j2 k2 t241 t248 t253 bt258.1 true))) = some r := H
              have A39 := Aside0.mk A390
              clear A390
              replace H := Option.bind_eq_some_iff.mp H
              obtain ⟨⟨t258, t259, t260⟩, A400, H⟩ := H
              replace H : (if t250 = 0 then (if t255 = 0 then (if t260 = 0 then (if t249 = (wrap64 ((x6_2.size : Int) + 2)) then (if t254 = (wrap64 ((x6_2.size : Int) + 3)) then (burinlaw07_BracketWrites.j2 k2 t241 t248 t253 t258 (t259 != t249)) else (burinlaw07_BracketWrites.j2 k2 t241 t248 t253 t258 true)) else (burinlaw07_BracketWrites.j2 k2 t241 t248 t253 t258 true)) else (burinlaw07_BracketWrites.j2 k2 t241 t248 t253 t258 true)) else (burinlaw07_BracketWrites.j2 k2 t241 t248 t253 t258 true)) else (burinlaw07_BracketWrites.j2 k2 t241 t248 t253 t258 true)) = some r := H
              have A40 := Aside0.mk A400
              clear A400
              have HC41 := Aside0.mk H
              clear H
              go_upto_region 15 with (first | ((with_reducible refine gate_callee (f := 14) rfl ?_); refine goesL_ (some 60) rfl rfl Tryz.func14 (by kernel_rfl) rfl #[.string ((((⟨#[91]⟩ : ByteArray) ++ x6_2) ++ (⟨#[93]⟩ : ByteArray)) ++ a1), .int .i64 0] rfl (by (try simp only [List.map_toArray, List.map_cons, List.map_nil]); first | done | rfl | (simp only [List.length_drop, List.length_take]; rfl)) ?_; (with_reducible refine (bracket_Bracket.calls (hM := MaxAt.below HM.out (by repeat (first | (with_reducible first | exact HB.out | apply below_alloc | apply pw_below_drewN | apply below_drew1) | exact HB.out))) k2 ((((⟨#[91]⟩ : ByteArray) ++ x6_2) ++ (⟨#[93]⟩ : ByteArray)) ++ a1) 0 t248 t249 t250 _ A35.out).mono ?_); rintro e w42 ⟨v251, rfl, ho0, hb⟩; refine ⟨_, rfl, ?_⟩; have n0_ := Aside0.mk (Kd.R_elder' (by (with_reducible repeat (first | apply Kd.R_alloc | apply Kd.R_drewN | apply Kd.R_drew)); exact HO_5.out) (Kd.R_base ho0) hb); have n1_ := Aside0.mk (Kd.R_elder' (by (with_reducible repeat (first | apply Kd.R_alloc | apply Kd.R_drewN | apply Kd.R_drew)); exact HO_35.out) (Kd.R_base ho0) hb); have n2_ := Aside0.mk (Kd.R_lower (Kd.R_new' (Kd.R_new' ho0 (Kd.R_lt (by (with_reducible repeat (first | apply Kd.R_alloc | apply Kd.R_drewN | apply Kd.R_drew)); exact HO_5.out))) (Kd.R_lt (by (with_reducible repeat (first | apply Kd.R_alloc | apply Kd.R_drewN | apply Kd.R_drew)); exact HO_35.out))) (below_size (by repeat (first | (with_reducible first | exact HB.out | apply below_alloc | apply pw_below_drewN | apply below_drew1) | exact HB.out)))); have n3_ := Aside0.mk (below_step (by repeat (first | (with_reducible first | exact HB.out | apply below_alloc | apply pw_below_drewN | apply below_drew1) | exact HB.out)) hb); clear HO_5; clear HO_35; clear HB; have HO_5 := n0_; have HO_35 := n1_; have HO252 := n2_; have HB := n3_; clear n0_ n1_ n2_ n3_; (try clear hb); (try clear hb2); (try clear hk); (try clear hi); (try clear ho0)) | ((with_reducible refine gate_callee (f := 14) rfl ?_); refine goesL_ (some 70) rfl rfl Tryz.func14 (by kernel_rfl) rfl #[.string ((((⟨#[91, 94]⟩ : ByteArray) ++ x6_2) ++ (⟨#[93]⟩ : ByteArray)) ++ a1), .int .i64 0] rfl (by (try simp only [List.map_toArray, List.map_cons, List.map_nil]); first | done | rfl | (simp only [List.length_drop, List.length_take]; rfl)) ?_; (with_reducible refine (bracket_Bracket.calls (hM := MaxAt.below HM.out (by repeat (first | (with_reducible first | exact HB.out | apply below_alloc | apply pw_below_drewN | apply below_drew1) | exact HB.out))) k2 ((((⟨#[91, 94]⟩ : ByteArray) ++ x6_2) ++ (⟨#[93]⟩ : ByteArray)) ++ a1) 0 t253 t254 t255 _ A39.out).mono ?_); rintro e w43 ⟨v256, rfl, ho0, hb⟩; refine ⟨_, rfl, ?_⟩; have n0_ := Aside0.mk (Kd.R_elder' (by (with_reducible repeat (first | apply Kd.R_alloc | apply Kd.R_drewN | apply Kd.R_drew)); exact HO_5.out) (Kd.R_base ho0) hb); have n1_ := Aside0.mk (Kd.R_elder' (by (with_reducible repeat (first | apply Kd.R_alloc | apply Kd.R_drewN | apply Kd.R_drew)); exact HO_35.out) (Kd.R_base ho0) hb); have n2_ := Aside0.mk (Kd.R_elder' (by (with_reducible repeat (first | apply Kd.R_alloc | apply Kd.R_drewN | apply Kd.R_drew)); exact HO252.out) (Kd.R_base ho0) hb); have n3_ := Aside0.mk (Kd.R_lower (Kd.R_new' (Kd.R_new' (Kd.R_new' ho0 (Kd.R_lt (by (with_reducible repeat (first | apply Kd.R_alloc | apply Kd.R_drewN | apply Kd.R_drew)); exact HO_5.out))) (Kd.R_lt (by (with_reducible repeat (first | apply Kd.R_alloc | apply Kd.R_drewN | apply Kd.R_drew)); exact HO_35.out))) (Kd.R_lt (by (with_reducible repeat (first | apply Kd.R_alloc | apply Kd.R_drewN | apply Kd.R_drew)); exact HO252.out))) (below_size (by repeat (first | (with_reducible first | exact HB.out | apply below_alloc | apply pw_below_drewN | apply below_drew1) | exact HB.out)))); have n4_ := Aside0.mk (below_step (by repeat (first | (with_reducible first | exact HB.out | apply below_alloc | apply pw_below_drewN | apply below_drew1) | exact HB.out)) hb); clear HO_5; clear HO_35; clear HO252; clear HB; have HO_5 := n0_; have HO_35 := n1_; have HO252 := n2_; have HO257 := n3_; have HB := n4_; clear n0_ n1_ n2_ n3_ n4_; (try clear hb); (try clear hb2); (try clear hk); (try clear hi); (try clear ho0)) | ((with_reducible refine gate_callee (f := 14) rfl ?_); refine goesL_ (some 78) rfl rfl Tryz.func14 (by kernel_rfl) rfl #[.string (((⟨#[91]⟩ : ByteArray) ++ x6_2) ++ (⟨#[93]⟩ : ByteArray)), .int .i64 1] rfl (by (try simp only [List.map_toArray, List.map_cons, List.map_nil]); first | done | rfl | (simp only [List.length_drop, List.length_take]; rfl)) ?_; (with_reducible refine (bracket_Bracket.calls (hM := MaxAt.below HM.out (by repeat (first | (with_reducible first | exact HB.out | apply below_alloc | apply pw_below_drewN | apply below_drew1) | exact HB.out))) k2 (((⟨#[91]⟩ : ByteArray) ++ x6_2) ++ (⟨#[93]⟩ : ByteArray)) 1 t258 t259 t260 _ A40.out).mono ?_); rintro e w44 ⟨v261, rfl, ho0, hb⟩; refine ⟨_, rfl, ?_⟩; have n0_ := Aside0.mk (Kd.R_elder' (by (with_reducible repeat (first | apply Kd.R_alloc | apply Kd.R_drewN | apply Kd.R_drew)); exact HO_5.out) (Kd.R_base ho0) hb); have n1_ := Aside0.mk (Kd.R_elder' (by (with_reducible repeat (first | apply Kd.R_alloc | apply Kd.R_drewN | apply Kd.R_drew)); exact HO_35.out) (Kd.R_base ho0) hb); have n2_ := Aside0.mk (Kd.R_elder' (by (with_reducible repeat (first | apply Kd.R_alloc | apply Kd.R_drewN | apply Kd.R_drew)); exact HO252.out) (Kd.R_base ho0) hb); have n3_ := Aside0.mk (Kd.R_elder' (by (with_reducible repeat (first | apply Kd.R_alloc | apply Kd.R_drewN | apply Kd.R_drew)); exact HO257.out) (Kd.R_base ho0) hb); have n4_ := Aside0.mk (Kd.R_lower (Kd.R_new' (Kd.R_new' (Kd.R_new' (Kd.R_new' ho0 (Kd.R_lt (by (with_reducible repeat (first | apply Kd.R_alloc | apply Kd.R_drewN | apply Kd.R_drew)); exact HO_5.out))) (Kd.R_lt (by (with_reducible repeat (first | apply Kd.R_alloc | apply Kd.R_drewN | apply Kd.R_drew)); exact HO_35.out))) (Kd.R_lt (by (with_reducible repeat (first | apply Kd.R_alloc | apply Kd.R_drewN | apply Kd.R_drew)); exact HO252.out))) (Kd.R_lt (by (with_reducible repeat (first | apply Kd.R_alloc | apply Kd.R_drewN | apply Kd.R_drew)); exact HO257.out))) (below_size (by repeat (first | (with_reducible first | exact HB.out | apply below_alloc | apply pw_below_drewN | apply below_drew1) | exact HB.out)))); have n5_ := Aside0.mk (below_step (by repeat (first | (with_reducible first | exact HB.out | apply below_alloc | apply pw_below_drewN | apply below_drew1) | exact HB.out)) hb); clear HO_5; clear HO_35; clear HO252; clear HO257; clear HB; have HO_5 := n0_; have HO_35 := n1_; have HO252 := n2_; have HO257 := n3_; have HO262 := n4_; have HB := n5_; clear n0_ n1_ n2_ n3_ n4_ n5_; (try clear hb); (try clear hb2); (try clear hk); (try clear hi); (try clear ho0)))
              (try simp only [Act.put, List.setIfInBounds_toArray, List.set_cons_zero, List.set_cons_succ])
              go_cut [110] (fun v110 wc => ∃ (kq : Nat) (x110_40 : Bool), v110 = .bool x110_40 ∧ Aside0 (burinlaw07_BracketWrites.j2 kq t241 t248 t253 t258 x110_40 = some r) ∧ Aside0 (kq ≤ k2) ∧ Aside0 (Kd.R k36 36 wc w.heap.size (fun k_ => some k_ ≠ (v251 : Value).ownBlock ∧ some k_ ≠ (v256 : Value).ownBlock ∧ some k_ ≠ (v261 : Value).ownBlock) (.slice Ao15 t241.length co15) t241) ∧ Aside0 (Kd.R k36 36 wc w.heap.size (fun k_ => some k_ ≠ ((.slice Ao15 t241.length co15) : Value).ownBlock ∧ some k_ ≠ (v256 : Value).ownBlock ∧ some k_ ≠ (v261 : Value).ownBlock) v251 t248) ∧ Aside0 (Kd.R k36 36 wc w.heap.size (fun k_ => some k_ ≠ ((.slice Ao15 t241.length co15) : Value).ownBlock ∧ some k_ ≠ (v251 : Value).ownBlock ∧ some k_ ≠ (v261 : Value).ownBlock) v256 t253) ∧ Aside0 (Kd.R k36 36 wc w.heap.size (fun k_ => some k_ ≠ ((.slice Ao15 t241.length co15) : Value).ownBlock ∧ some k_ ≠ (v251 : Value).ownBlock ∧ some k_ ≠ (v256 : Value).ownBlock) v261 t258) ∧ Aside0 (Below w.heap.size w wc))
              case first =>
               have H := HC41.out
               clear HC41
               by_cases c45 : t250 = 0
               ·rw [if_pos c45] at H
                have c45b0 : (t250 == 0) = true := beq_iff_eq.mpr c45
                have c45b1 : (t250 != 0) = false := bne_eq_false_iff_eq.mpr c45
                clear c45
                (first | rw [c45b0] | (simp only [i64_w, i32_w]; rw [c45b0]) | skip)
                by_cases c46 : t255 = 0
                ·rw [if_pos c46] at H
                 have c46b0 : (t255 == 0) = true := beq_iff_eq.mpr c46
                 have c46b1 : (t255 != 0) = false := bne_eq_false_iff_eq.mpr c46
                 clear c46
                 by_cases c47 : t260 = 0
                 ·rw [if_pos c47] at H
                  have c47b0 : (t260 == 0) = true := beq_iff_eq.mpr c47
                  have c47b1 : (t260 != 0) = false := bne_eq_false_iff_eq.mpr c47
                  clear c47
                  by_cases c48 : t249 = (wrap64 ((x6_2.size : Int) + 2))
                  ·rw [if_pos c48] at H
                   have hw_ : wrap64 ((x6_2.size : Int) + 2) = (x6_2.size : Int) + 2 := by have hq := c33; rw [ByteArray.size_append, show (⟨#[91]⟩ : ByteArray).size = 1 from rfl] at hq; unfold wrap64; omega
                   rw [hw_] at c48
                   clear hw_
                   subst c48
                   by_cases c49 : t254 = (wrap64 ((x6_2.size : Int) + 3))
                   ·rw [if_pos c49] at H
                    subst c49
                    have H' := Aside0.mk H
                    clear H
                    go_wp2
                    go_meet
                    case rel => exact ⟨_, ((t259 != ((x6_2.size : Int) + 2))), (by first | rfl | (simp; done) | (simp [*]; done)), H', ⟨by have := HJ5.out; have := HK2.out; first | omega | exact Nat.le_refl _⟩, ⟨by (with_reducible repeat (first | apply Kd.R_alloc | apply Kd.R_drewN | apply Kd.R_drew)); exact Kd.R_mono HO_5.out (fun _ hk => ⟨hk.1.1.2, ⟨hk.1.2, hk.2⟩⟩)⟩, ⟨by (with_reducible repeat (first | apply Kd.R_alloc | apply Kd.R_drewN | apply Kd.R_drew)); exact Kd.R_mono HO252.out (fun _ hk => ⟨hk.1.1.1.2, ⟨hk.1.2, hk.2⟩⟩)⟩, ⟨by (with_reducible repeat (first | apply Kd.R_alloc | apply Kd.R_drewN | apply Kd.R_drew)); exact Kd.R_mono HO257.out (fun _ hk => ⟨hk.1.1.1.2, ⟨hk.1.2, hk.2⟩⟩)⟩, ⟨by (with_reducible repeat (first | apply Kd.R_alloc | apply Kd.R_drewN | apply Kd.R_drew)); exact Kd.R_mono HO262.out (fun _ hk => ⟨hk.1.1.1.2, ⟨hk.1.2, hk.2⟩⟩)⟩, ⟨by repeat (first | (with_reducible first | exact HB.out | apply below_alloc | apply pw_below_drewN | apply below_drew1) | exact HB.out)⟩⟩
                   ·rw [if_neg c49] at H
                    have c49b0 : (t254 == (wrap64 ((x6_2.size : Int) + 3))) = false := beq_eq_false_iff_ne.mpr c49
                    have c49b1 : (t254 != (wrap64 ((x6_2.size : Int) + 3))) = true := bne_iff_ne.mpr c49
                    have H' := Aside0.mk H
                    clear H
                    go_wp2
                    go_meet
                    case rel => exact ⟨_, (true), (by first | rfl | (simp; done) | (simp [*]; done)), H', ⟨by have := HJ5.out; have := HK2.out; first | omega | exact Nat.le_refl _⟩, ⟨by (with_reducible repeat (first | apply Kd.R_alloc | apply Kd.R_drewN | apply Kd.R_drew)); exact Kd.R_mono HO_5.out (fun _ hk => ⟨hk.1.1.2, ⟨hk.1.2, hk.2⟩⟩)⟩, ⟨by (with_reducible repeat (first | apply Kd.R_alloc | apply Kd.R_drewN | apply Kd.R_drew)); exact Kd.R_mono HO252.out (fun _ hk => ⟨hk.1.1.1.2, ⟨hk.1.2, hk.2⟩⟩)⟩, ⟨by (with_reducible repeat (first | apply Kd.R_alloc | apply Kd.R_drewN | apply Kd.R_drew)); exact Kd.R_mono HO257.out (fun _ hk => ⟨hk.1.1.1.2, ⟨hk.1.2, hk.2⟩⟩)⟩, ⟨by (with_reducible repeat (first | apply Kd.R_alloc | apply Kd.R_drewN | apply Kd.R_drew)); exact Kd.R_mono HO262.out (fun _ hk => ⟨hk.1.1.1.2, ⟨hk.1.2, hk.2⟩⟩)⟩, ⟨by repeat (first | (with_reducible first | exact HB.out | apply below_alloc | apply pw_below_drewN | apply below_drew1) | exact HB.out)⟩⟩
                  ·rw [if_neg c48] at H
                   have hw_ : wrap64 ((x6_2.size : Int) + 2) = (x6_2.size : Int) + 2 := by have hq := c33; rw [ByteArray.size_append, show (⟨#[91]⟩ : ByteArray).size = 1 from rfl] at hq; unfold wrap64; omega
                   rw [hw_] at c48
                   have c48b1 : (t249 != ((x6_2.size : Int) + 2)) = true := bne_iff_ne.mpr c48
                   clear hw_
                   have H' := Aside0.mk H
                   clear H
                   go_wp2
                   go_meet
                   case rel => exact ⟨_, (true), (by first | rfl | (simp; done) | (simp [*]; done)), H', ⟨by have := HJ5.out; have := HK2.out; first | omega | exact Nat.le_refl _⟩, ⟨by (with_reducible repeat (first | apply Kd.R_alloc | apply Kd.R_drewN | apply Kd.R_drew)); exact Kd.R_mono HO_5.out (fun _ hk => ⟨hk.1.1.2, ⟨hk.1.2, hk.2⟩⟩)⟩, ⟨by (with_reducible repeat (first | apply Kd.R_alloc | apply Kd.R_drewN | apply Kd.R_drew)); exact Kd.R_mono HO252.out (fun _ hk => ⟨hk.1.1.1.2, ⟨hk.1.2, hk.2⟩⟩)⟩, ⟨by (with_reducible repeat (first | apply Kd.R_alloc | apply Kd.R_drewN | apply Kd.R_drew)); exact Kd.R_mono HO257.out (fun _ hk => ⟨hk.1.1.1.2, ⟨hk.1.2, hk.2⟩⟩)⟩, ⟨by (with_reducible repeat (first | apply Kd.R_alloc | apply Kd.R_drewN | apply Kd.R_drew)); exact Kd.R_mono HO262.out (fun _ hk => ⟨hk.1.1.1.2, ⟨hk.1.2, hk.2⟩⟩)⟩, ⟨by repeat (first | (with_reducible first | exact HB.out | apply below_alloc | apply pw_below_drewN | apply below_drew1) | exact HB.out)⟩⟩
                 ·rw [if_neg c47] at H
                  have c47b0 : (t260 == 0) = false := beq_eq_false_iff_ne.mpr c47
                  have c47b1 : (t260 != 0) = true := bne_iff_ne.mpr c47
                  have H' := Aside0.mk H
                  clear H
                  go_wp2
                  go_meet
                  case rel => exact ⟨_, (true), (by first | rfl | (simp; done) | (simp [*]; done)), H', ⟨by have := HJ5.out; have := HK2.out; first | omega | exact Nat.le_refl _⟩, ⟨by (with_reducible repeat (first | apply Kd.R_alloc | apply Kd.R_drewN | apply Kd.R_drew)); exact Kd.R_mono HO_5.out (fun _ hk => ⟨hk.1.1.2, ⟨hk.1.2, hk.2⟩⟩)⟩, ⟨by (with_reducible repeat (first | apply Kd.R_alloc | apply Kd.R_drewN | apply Kd.R_drew)); exact Kd.R_mono HO252.out (fun _ hk => ⟨hk.1.1.1.2, ⟨hk.1.2, hk.2⟩⟩)⟩, ⟨by (with_reducible repeat (first | apply Kd.R_alloc | apply Kd.R_drewN | apply Kd.R_drew)); exact Kd.R_mono HO257.out (fun _ hk => ⟨hk.1.1.1.2, ⟨hk.1.2, hk.2⟩⟩)⟩, ⟨by (with_reducible repeat (first | apply Kd.R_alloc | apply Kd.R_drewN | apply Kd.R_drew)); exact Kd.R_mono HO262.out (fun _ hk => ⟨hk.1.1.1.2, ⟨hk.1.2, hk.2⟩⟩)⟩, ⟨by repeat (first | (with_reducible first | exact HB.out | apply below_alloc | apply pw_below_drewN | apply below_drew1) | exact HB.out)⟩⟩
                ·rw [if_neg c46] at H
                 have c46b0 : (t255 == 0) = false := beq_eq_false_iff_ne.mpr c46
                 have c46b1 : (t255 != 0) = true := bne_iff_ne.mpr c46
                 have H' := Aside0.mk H
                 clear H
                 go_wp2
                 go_meet
                 case rel => exact ⟨_, (true), (by first | rfl | (simp; done) | (simp [*]; done)), H', ⟨by have := HJ5.out; have := HK2.out; first | omega | exact Nat.le_refl _⟩, ⟨by (with_reducible repeat (first | apply Kd.R_alloc | apply Kd.R_drewN | apply Kd.R_drew)); exact Kd.R_mono HO_5.out (fun _ hk => ⟨hk.1.1.2, ⟨hk.1.2, hk.2⟩⟩)⟩, ⟨by (with_reducible repeat (first | apply Kd.R_alloc | apply Kd.R_drewN | apply Kd.R_drew)); exact Kd.R_mono HO252.out (fun _ hk => ⟨hk.1.1.1.2, ⟨hk.1.2, hk.2⟩⟩)⟩, ⟨by (with_reducible repeat (first | apply Kd.R_alloc | apply Kd.R_drewN | apply Kd.R_drew)); exact Kd.R_mono HO257.out (fun _ hk => ⟨hk.1.1.1.2, ⟨hk.1.2, hk.2⟩⟩)⟩, ⟨by (with_reducible repeat (first | apply Kd.R_alloc | apply Kd.R_drewN | apply Kd.R_drew)); exact Kd.R_mono HO262.out (fun _ hk => ⟨hk.1.1.1.2, ⟨hk.1.2, hk.2⟩⟩)⟩, ⟨by repeat (first | (with_reducible first | exact HB.out | apply below_alloc | apply pw_below_drewN | apply below_drew1) | exact HB.out)⟩⟩
               ·rw [if_neg c45] at H
                have c45b0 : (t250 == 0) = false := beq_eq_false_iff_ne.mpr c45
                have c45b1 : (t250 != 0) = true := bne_iff_ne.mpr c45
                (first | rw [c45b0] | (simp only [i64_w, i32_w]; rw [c45b0]) | skip)
                have H' := Aside0.mk H
                clear H
                go_wp2
                go_meet
                case rel => exact ⟨_, (true), (by first | rfl | (simp; done) | (simp [*]; done)), H', ⟨by have := HJ5.out; have := HK2.out; first | omega | exact Nat.le_refl _⟩, ⟨by (with_reducible repeat (first | apply Kd.R_alloc | apply Kd.R_drewN | apply Kd.R_drew)); exact Kd.R_mono HO_5.out (fun _ hk => ⟨hk.1.1.2, ⟨hk.1.2, hk.2⟩⟩)⟩, ⟨by (with_reducible repeat (first | apply Kd.R_alloc | apply Kd.R_drewN | apply Kd.R_drew)); exact Kd.R_mono HO252.out (fun _ hk => ⟨hk.1.1.1.2, ⟨hk.1.2, hk.2⟩⟩)⟩, ⟨by (with_reducible repeat (first | apply Kd.R_alloc | apply Kd.R_drewN | apply Kd.R_drew)); exact Kd.R_mono HO257.out (fun _ hk => ⟨hk.1.1.1.2, ⟨hk.1.2, hk.2⟩⟩)⟩, ⟨by (with_reducible repeat (first | apply Kd.R_alloc | apply Kd.R_drewN | apply Kd.R_drew)); exact Kd.R_mono HO262.out (fun _ hk => ⟨hk.1.1.1.2, ⟨hk.1.2, hk.2⟩⟩)⟩, ⟨by repeat (first | (with_reducible first | exact HB.out | apply below_alloc | apply pw_below_drewN | apply below_drew1) | exact HB.out)⟩⟩
              case rest =>
               clear HC41
               try clear c1
               try clear c2
               try clear p2
               try clear q2
               try clear hx2
               try clear c3
               try clear c4
               try clear c5
               try clear p6
               try clear c8
               try clear c9
               try clear c9b0
               try clear c9b1
               try clear c9b2
               try clear c11
               try clear c11b0
               try clear c11b1
               try clear c14
               try clear c16
               try clear c16b0
               try clear c17
               try clear c17b0
               try clear c18
               try clear c18b0
               try clear c20
               try clear c20b0
               try clear c20b1
               try clear c20b2
               try clear c21
               try clear c21b0
               try clear c21b1
               try clear c21b2
               try clear c23
               try clear c23b0
               try clear c23b1
               try clear c23b2
               try clear c24
               try clear c24b0
               try clear c24b1
               try clear c24b2
               try clear p24
               try clear q24
               try clear hx24
               try clear c25
               try clear c25b0
               try clear c25b1
               try clear c25b2
               try clear c32
               try clear c32b0
               try clear c32b1
               try clear c32b2
               try clear c33
               try clear c33b0
               try clear c33b1
               try clear c33b2
               try clear c34
               try clear c34b0
               try clear c34b1
               try clear c34b2
               try clear c36
               try clear c36b0
               try clear c36b1
               try clear c36b2
               try clear c37
               try clear c37b0
               try clear c37b1
               try clear c37b2
               try clear c38
               try clear c38b0
               try clear c38b1
               try clear c38b2
               try clear c45
               try clear c45b0
               try clear c45b1
               try clear c46
               try clear c46b0
               try clear c46b1
               try clear c47
               try clear c47b0
               try clear c47b1
               try clear c48
               try clear c48b0
               try clear c48b1
               try clear c49
               try clear c49b0
               try clear c49b1
               try clear hcz27_0
               try clear hcz27_1
               try clear hfz27_0
               try clear hfz27_1
               try clear hx244_0
               try clear hx244_1
               try clear p2
               try clear p244
               try clear q244
               obtain ⟨kq, x110_40, rfl, HA, HJ40, HO_5, HO_9, HO_12, HO_15, HB⟩ := hcut
               cases kq with
               | zero => exact absurd HA.out (by simp [burinlaw07_BracketWrites.j2])
               | succ kj40 =>
                have H := HA.out
                clear HA
                simp only [burinlaw07_BracketWrites.j2] at H
                by_cases c50 : x110_40 = true
                ·subst c50
                 have H1 : (some false) = some r := by rw [if_pos rfl] at H; exact H
                 clear H
                 have H := H1
                 clear H1
                 obtain rfl := Option.some.inj H
                 go_wp2
                 go_ret
                 exact ⟨by first | rfl | (simp [errW_none, errW_some] <;> rfl) | (simp [*, errW_none, errW_some] <;> rfl), by repeat (first | (with_reducible first | exact HB.out | apply below_alloc | apply pw_below_drewN | apply below_drew1) | exact HB.out)⟩
                ·replace c50 := Bool.eq_false_iff.mpr c50
                 subst c50
                 have H1 : ((burinbook_SameRanges.f kj40 t248 t241).bind fun t263 => (if t263 = true then ((ranges_Not.f kj40 t241).bind fun t264 => ((burinbook_SameRanges.f kj40 t253 t264).bind fun t267 => (if t267 = true then ((fold_Close.f t241).bind fun t268 => ((burinbook_SameRanges.f kj40 t258 t268).bind fun t271 => (some t271))) else (some false)))) else (some false))) = some r := by rw [if_neg (show ¬ (false = true) by decide)] at H; exact H
                 clear H
                 have H := H1
                 clear H1
                 replace H := Option.bind_eq_some_iff.mp H
                 obtain ⟨t263, A510, H⟩ := H
                 replace H : (if t263 = true then ((ranges_Not.f kj40 t241).bind fun t264 => ((burinbook_SameRanges.f kj40 t253 t264).bind fun t267 => (if t267 = true then ((fold_Close.f t241).bind fun t268 => ((burinbook_SameRanges.f kj40 t258 t268).bind fun t271 => (some t271))) else (some false)))) else (some false)) = some r := H
                 have A51 := Aside0.mk A510
                 clear A510
                 by_cases c52 : t263 = true
                 ·subst c52
                  have H1 : ((ranges_Not.f kj40 t241).bind fun t264 => ((burinbook_SameRanges.f kj40 t253 t264).bind fun t267 => (if t267 = true then ((fold_Close.f t241).bind fun t268 => ((burinbook_SameRanges.f kj40 t258 t268).bind fun t271 => (some t271))) else (some false)))) = some r := by rw [if_pos rfl] at H; exact H
                  clear H
                  have H := H1
                  clear H1
                  replace H := Option.bind_eq_some_iff.mp H
                  obtain ⟨t264, A530, H⟩ := H
                  replace H : ((burinbook_SameRanges.f kj40 t253 t264).bind fun t267 => (if t267 = true then ((fold_Close.f t241).bind fun t268 => ((burinbook_SameRanges.f kj40 t258 t268).bind fun t271 => (some t271))) else (some false))) = some r := H
                  have A53 := Aside0.mk A530
                  clear A530
                  replace H := Option.bind_eq_some_iff.mp H
                  obtain ⟨t267, A540, H⟩ := H
                  replace H : (if t267 = true then ((fold_Close.f t241).bind fun t268 => ((burinbook_SameRanges.f kj40 t258 t268).bind fun t271 => (some t271))) else (some false)) = some r := H
                  have A54 := Aside0.mk A540
                  clear A540
                  by_cases c55 : t267 = true
                  ·subst c55
                   have H1 : ((fold_Close.f t241).bind fun t268 => ((burinbook_SameRanges.f kj40 t258 t268).bind fun t271 => (some t271))) = some r := by rw [if_pos rfl] at H; exact H
                   clear H
                   have H := H1
                   clear H1
                   replace H := Option.bind_eq_some_iff.mp H
                   obtain ⟨t268, A560, H⟩ := H
                   replace H : ((burinbook_SameRanges.f kj40 t258 t268).bind fun t271 => (some t271)) = some r := H
                   have A56 := Aside0.mk A560
                   clear A560
                   replace H := Option.bind_eq_some_iff.mp H
                   obtain ⟨t271, A570, H⟩ := H
                   replace H : (some t271) = some r := H
                   have A57 := Aside0.mk A570
                   clear A570
                   obtain rfl := Option.some.inj H
                   obtain ⟨Ao58, co58, eo58⟩ := Kd.R_slice HO_9.out
                   subst eo58
                   go_wp2_with (first | ((with_reducible refine gate_callee (f := 13) rfl ?_); refine goesL_ (some 113) rfl rfl Tryz.func13 (by kernel_rfl) rfl #[.slice Ao58 t248.length co58, .slice Ao15 t241.length co15] rfl (by (try simp only [List.map_toArray, List.map_cons, List.map_nil]); first | done | rfl | (simp only [List.length_drop, List.length_take]; rfl)) ?_; (with_reducible refine (burinbook_SameRanges.calls kj40 _ _ t248 _ _ t241 true _ ?side1 ?side2 ?side3 ?side4 A51.out).mono ?_); (case side1 => repeat (first | exact (Kd.R_reads' HO_9.out).2.2 | (with_reducible refine Kd.C_alloc ?_ _) | (with_reducible refine Kd.C_drewN ?_ _) | (with_reducible refine Kd.C_drew ?_))); (case side2 => exact (Kd.R_reads' HO_9.out).2.1); (case side3 => repeat (first | exact (Kd.R_reads' HO_5.out).2.2 | (with_reducible refine Kd.C_alloc ?_ _) | (with_reducible refine Kd.C_drewN ?_ _) | (with_reducible refine Kd.C_drew ?_))); (case side4 => exact (Kd.R_reads' HO_5.out).2.1); rintro e w' ⟨rfl, ⟨nd, rfl⟩⟩; refine ⟨_, rfl, ?_⟩) | (go_at_call 19; (with_reducible refine (ranges_Not.calls kj40 _ _ t241 t264 _ ?side1 ?side2 A53.out).mono ?_); (case side1 => repeat (first | exact (Kd.R_reads' HO_5.out).2.2 | (with_reducible refine Kd.C_alloc ?_ _) | (with_reducible refine Kd.C_drewN ?_ _) | (with_reducible refine Kd.C_drew ?_))); (case side2 => exact (Kd.R_reads' HO_5.out).2.1); rintro e w59 ⟨v265, rfl, ho0, hb⟩; have n0_ := Aside0.mk (Kd.R_elder' (by (with_reducible repeat (first | apply Kd.R_alloc | apply Kd.R_drewN | apply Kd.R_drew)); exact HO_5.out) (Kd.R_base ho0) hb); have n1_ := Aside0.mk (Kd.R_elder' (by (with_reducible repeat (first | apply Kd.R_alloc | apply Kd.R_drewN | apply Kd.R_drew)); exact HO_9.out) (Kd.R_base ho0) hb); have n2_ := Aside0.mk (Kd.R_elder' (by (with_reducible repeat (first | apply Kd.R_alloc | apply Kd.R_drewN | apply Kd.R_drew)); exact HO_12.out) (Kd.R_base ho0) hb); have n3_ := Aside0.mk (Kd.R_elder' (by (with_reducible repeat (first | apply Kd.R_alloc | apply Kd.R_drewN | apply Kd.R_drew)); exact HO_15.out) (Kd.R_base ho0) hb); have n4_ := Aside0.mk (Kd.R_lower (Kd.R_new' (Kd.R_new' (Kd.R_new' (Kd.R_new' ho0 (Kd.R_lt (by (with_reducible repeat (first | apply Kd.R_alloc | apply Kd.R_drewN | apply Kd.R_drew)); exact HO_5.out))) (Kd.R_lt (by (with_reducible repeat (first | apply Kd.R_alloc | apply Kd.R_drewN | apply Kd.R_drew)); exact HO_9.out))) (Kd.R_lt (by (with_reducible repeat (first | apply Kd.R_alloc | apply Kd.R_drewN | apply Kd.R_drew)); exact HO_12.out))) (Kd.R_lt (by (with_reducible repeat (first | apply Kd.R_alloc | apply Kd.R_drewN | apply Kd.R_drew)); exact HO_15.out))) (below_size (by repeat (first | (with_reducible first | exact HB.out | apply below_alloc | apply pw_below_drewN | apply below_drew1) | exact HB.out)))); have n5_ := Aside0.mk (below_step (by repeat (first | (with_reducible first | exact HB.out | apply below_alloc | apply pw_below_drewN | apply below_drew1) | exact HB.out)) hb); clear HO_5; clear HO_9; clear HO_12; clear HO_15; clear HB; have HO_5 := n0_; have HO_9 := n1_; have HO_12 := n2_; have HO_15 := n3_; have HO266 := n4_; have HB := n5_; clear n0_ n1_ n2_ n3_ n4_ n5_; (try clear hb); (try clear hb2); (try clear hk); (try clear hi); (try clear ho0); obtain ⟨Ao60, co60, eo60⟩ := Kd.R_slice HO_12.out; subst eo60; obtain ⟨Ao61, co61, eo61⟩ := Kd.R_slice HO266.out; subst eo61) | (go_at_call 13; (with_reducible refine (burinbook_SameRanges.calls kj40 _ _ t253 _ _ t264 true _ ?side1 ?side2 ?side3 ?side4 A54.out).mono ?_); (case side1 => repeat (first | exact (Kd.R_reads' HO_12.out).2.2 | (with_reducible refine Kd.C_alloc ?_ _) | (with_reducible refine Kd.C_drewN ?_ _) | (with_reducible refine Kd.C_drew ?_))); (case side2 => exact (Kd.R_reads' HO_12.out).2.1); (case side3 => repeat (first | exact (Kd.R_reads' HO266.out).2.2 | (with_reducible refine Kd.C_alloc ?_ _) | (with_reducible refine Kd.C_drewN ?_ _) | (with_reducible refine Kd.C_drew ?_))); (case side4 => exact (Kd.R_reads' HO266.out).2.1); rintro e w' ⟨rfl, ⟨nd, rfl⟩⟩) | (go_at_call 20; (with_reducible refine (fold_Close.calls _ _ t241 t268 _ ?side1 ?side2 A56.out).mono ?_); (case side1 => repeat (first | exact (Kd.R_reads' HO_5.out).2.2 | (with_reducible refine Kd.C_alloc ?_ _) | (with_reducible refine Kd.C_drewN ?_ _) | (with_reducible refine Kd.C_drew ?_))); (case side2 => exact (Kd.R_reads' HO_5.out).2.1); rintro e w62 ⟨v269, rfl, ho0, hb⟩; have n0_ := Aside0.mk (Kd.R_elder' (by (with_reducible repeat (first | apply Kd.R_alloc | apply Kd.R_drewN | apply Kd.R_drew)); exact HO_5.out) (Kd.R_base ho0) hb); have n1_ := Aside0.mk (Kd.R_elder' (by (with_reducible repeat (first | apply Kd.R_alloc | apply Kd.R_drewN | apply Kd.R_drew)); exact HO_9.out) (Kd.R_base ho0) hb); have n2_ := Aside0.mk (Kd.R_elder' (by (with_reducible repeat (first | apply Kd.R_alloc | apply Kd.R_drewN | apply Kd.R_drew)); exact HO_12.out) (Kd.R_base ho0) hb); have n3_ := Aside0.mk (Kd.R_elder' (by (with_reducible repeat (first | apply Kd.R_alloc | apply Kd.R_drewN | apply Kd.R_drew)); exact HO_15.out) (Kd.R_base ho0) hb); have n4_ := Aside0.mk (Kd.R_elder' (by (with_reducible repeat (first | apply Kd.R_alloc | apply Kd.R_drewN | apply Kd.R_drew)); exact HO266.out) (Kd.R_base ho0) hb); have n5_ := Aside0.mk (Kd.R_lower (Kd.R_new' (Kd.R_new' (Kd.R_new' (Kd.R_new' (Kd.R_new' ho0 (Kd.R_lt (by (with_reducible repeat (first | apply Kd.R_alloc | apply Kd.R_drewN | apply Kd.R_drew)); exact HO_5.out))) (Kd.R_lt (by (with_reducible repeat (first | apply Kd.R_alloc | apply Kd.R_drewN | apply Kd.R_drew)); exact HO_9.out))) (Kd.R_lt (by (with_reducible repeat (first | apply Kd.R_alloc | apply Kd.R_drewN | apply Kd.R_drew)); exact HO_12.out))) (Kd.R_lt (by (with_reducible repeat (first | apply Kd.R_alloc | apply Kd.R_drewN | apply Kd.R_drew)); exact HO_15.out))) (Kd.R_lt (by (with_reducible repeat (first | apply Kd.R_alloc | apply Kd.R_drewN | apply Kd.R_drew)); exact HO266.out))) (below_size (by repeat (first | (with_reducible first | exact HB.out | apply below_alloc | apply pw_below_drewN | apply below_drew1) | exact HB.out)))); have n6_ := Aside0.mk (below_step (by repeat (first | (with_reducible first | exact HB.out | apply below_alloc | apply pw_below_drewN | apply below_drew1) | exact HB.out)) hb); clear HO_5; clear HO_9; clear HO_12; clear HO_15; clear HO266; clear HB; have HO_5 := n0_; have HO_9 := n1_; have HO_12 := n2_; have HO_15 := n3_; have HO266 := n4_; have HO270 := n5_; have HB := n6_; clear n0_ n1_ n2_ n3_ n4_ n5_ n6_; (try clear hb); (try clear hb2); (try clear hk); (try clear hi); (try clear ho0); obtain ⟨Ao63, co63, eo63⟩ := Kd.R_slice HO_15.out; subst eo63; obtain ⟨Ao64, co64, eo64⟩ := Kd.R_slice HO270.out; subst eo64) | (go_at_call 13; (with_reducible refine (burinbook_SameRanges.calls kj40 _ _ t258 _ _ t268 t271 _ ?side1 ?side2 ?side3 ?side4 A57.out).mono ?_); (case side1 => repeat (first | exact (Kd.R_reads' HO_15.out).2.2 | (with_reducible refine Kd.C_alloc ?_ _) | (with_reducible refine Kd.C_drewN ?_ _) | (with_reducible refine Kd.C_drew ?_))); (case side2 => exact (Kd.R_reads' HO_15.out).2.1); (case side3 => repeat (first | exact (Kd.R_reads' HO270.out).2.2 | (with_reducible refine Kd.C_alloc ?_ _) | (with_reducible refine Kd.C_drewN ?_ _) | (with_reducible refine Kd.C_drew ?_))); (case side4 => exact (Kd.R_reads' HO270.out).2.1); rintro e w' ⟨rfl, ⟨nd, rfl⟩⟩))
                   go_ret
                   exact ⟨by first | rfl | (simp [errW_none, errW_some] <;> rfl) | (simp [*, errW_none, errW_some] <;> rfl), by repeat (first | (with_reducible first | exact HB.out | apply below_alloc | apply pw_below_drewN | apply below_drew1) | exact HB.out)⟩
                  ·replace c55 := Bool.eq_false_iff.mpr c55
                   subst c55
                   have H1 : (some false) = some r := by rw [if_neg (show ¬ (false = true) by decide)] at H; exact H
                   clear H
                   have H := H1
                   clear H1
                   obtain rfl := Option.some.inj H
                   obtain ⟨Ao65, co65, eo65⟩ := Kd.R_slice HO_9.out
                   subst eo65
                   go_wp2_with (first | ((with_reducible refine gate_callee (f := 13) rfl ?_); refine goesL_ (some 113) rfl rfl Tryz.func13 (by kernel_rfl) rfl #[.slice Ao65 t248.length co65, .slice Ao15 t241.length co15] rfl (by (try simp only [List.map_toArray, List.map_cons, List.map_nil]); first | done | rfl | (simp only [List.length_drop, List.length_take]; rfl)) ?_; (with_reducible refine (burinbook_SameRanges.calls kj40 _ _ t248 _ _ t241 true _ ?side1 ?side2 ?side3 ?side4 A51.out).mono ?_); (case side1 => repeat (first | exact (Kd.R_reads' HO_9.out).2.2 | (with_reducible refine Kd.C_alloc ?_ _) | (with_reducible refine Kd.C_drewN ?_ _) | (with_reducible refine Kd.C_drew ?_))); (case side2 => exact (Kd.R_reads' HO_9.out).2.1); (case side3 => repeat (first | exact (Kd.R_reads' HO_5.out).2.2 | (with_reducible refine Kd.C_alloc ?_ _) | (with_reducible refine Kd.C_drewN ?_ _) | (with_reducible refine Kd.C_drew ?_))); (case side4 => exact (Kd.R_reads' HO_5.out).2.1); rintro e w' ⟨rfl, ⟨nd, rfl⟩⟩; refine ⟨_, rfl, ?_⟩) | (go_at_call 19; (with_reducible refine (ranges_Not.calls kj40 _ _ t241 t264 _ ?side1 ?side2 A53.out).mono ?_); (case side1 => repeat (first | exact (Kd.R_reads' HO_5.out).2.2 | (with_reducible refine Kd.C_alloc ?_ _) | (with_reducible refine Kd.C_drewN ?_ _) | (with_reducible refine Kd.C_drew ?_))); (case side2 => exact (Kd.R_reads' HO_5.out).2.1); rintro e w66 ⟨v265, rfl, ho0, hb⟩; have n0_ := Aside0.mk (Kd.R_elder' (by (with_reducible repeat (first | apply Kd.R_alloc | apply Kd.R_drewN | apply Kd.R_drew)); exact HO_5.out) (Kd.R_base ho0) hb); have n1_ := Aside0.mk (Kd.R_elder' (by (with_reducible repeat (first | apply Kd.R_alloc | apply Kd.R_drewN | apply Kd.R_drew)); exact HO_9.out) (Kd.R_base ho0) hb); have n2_ := Aside0.mk (Kd.R_elder' (by (with_reducible repeat (first | apply Kd.R_alloc | apply Kd.R_drewN | apply Kd.R_drew)); exact HO_12.out) (Kd.R_base ho0) hb); have n3_ := Aside0.mk (Kd.R_elder' (by (with_reducible repeat (first | apply Kd.R_alloc | apply Kd.R_drewN | apply Kd.R_drew)); exact HO_15.out) (Kd.R_base ho0) hb); have n4_ := Aside0.mk (Kd.R_lower (Kd.R_new' (Kd.R_new' (Kd.R_new' (Kd.R_new' ho0 (Kd.R_lt (by (with_reducible repeat (first | apply Kd.R_alloc | apply Kd.R_drewN | apply Kd.R_drew)); exact HO_5.out))) (Kd.R_lt (by (with_reducible repeat (first | apply Kd.R_alloc | apply Kd.R_drewN | apply Kd.R_drew)); exact HO_9.out))) (Kd.R_lt (by (with_reducible repeat (first | apply Kd.R_alloc | apply Kd.R_drewN | apply Kd.R_drew)); exact HO_12.out))) (Kd.R_lt (by (with_reducible repeat (first | apply Kd.R_alloc | apply Kd.R_drewN | apply Kd.R_drew)); exact HO_15.out))) (below_size (by repeat (first | (with_reducible first | exact HB.out | apply below_alloc | apply pw_below_drewN | apply below_drew1) | exact HB.out)))); have n5_ := Aside0.mk (below_step (by repeat (first | (with_reducible first | exact HB.out | apply below_alloc | apply pw_below_drewN | apply below_drew1) | exact HB.out)) hb); clear HO_5; clear HO_9; clear HO_12; clear HO_15; clear HB; have HO_5 := n0_; have HO_9 := n1_; have HO_12 := n2_; have HO_15 := n3_; have HO266 := n4_; have HB := n5_; clear n0_ n1_ n2_ n3_ n4_ n5_; (try clear hb); (try clear hb2); (try clear hk); (try clear hi); (try clear ho0); obtain ⟨Ao67, co67, eo67⟩ := Kd.R_slice HO_12.out; subst eo67; obtain ⟨Ao68, co68, eo68⟩ := Kd.R_slice HO266.out; subst eo68) | (go_at_call 13; (with_reducible refine (burinbook_SameRanges.calls kj40 _ _ t253 _ _ t264 false _ ?side1 ?side2 ?side3 ?side4 A54.out).mono ?_); (case side1 => repeat (first | exact (Kd.R_reads' HO_12.out).2.2 | (with_reducible refine Kd.C_alloc ?_ _) | (with_reducible refine Kd.C_drewN ?_ _) | (with_reducible refine Kd.C_drew ?_))); (case side2 => exact (Kd.R_reads' HO_12.out).2.1); (case side3 => repeat (first | exact (Kd.R_reads' HO266.out).2.2 | (with_reducible refine Kd.C_alloc ?_ _) | (with_reducible refine Kd.C_drewN ?_ _) | (with_reducible refine Kd.C_drew ?_))); (case side4 => exact (Kd.R_reads' HO266.out).2.1); rintro e w' ⟨rfl, ⟨nd, rfl⟩⟩))
                   go_ret
                   exact ⟨by first | rfl | (simp [errW_none, errW_some] <;> rfl) | (simp [*, errW_none, errW_some] <;> rfl), by repeat (first | (with_reducible first | exact HB.out | apply below_alloc | apply pw_below_drewN | apply below_drew1) | exact HB.out)⟩
                 ·replace c52 := Bool.eq_false_iff.mpr c52
                  subst c52
                  have H1 : (some false) = some r := by rw [if_neg (show ¬ (false = true) by decide)] at H; exact H
                  clear H
                  have H := H1
                  clear H1
                  obtain rfl := Option.some.inj H
                  obtain ⟨Ao69, co69, eo69⟩ := Kd.R_slice HO_9.out
                  subst eo69
                  go_wp2_with (first | ((with_reducible refine gate_callee (f := 13) rfl ?_); refine goesL_ (some 113) rfl rfl Tryz.func13 (by kernel_rfl) rfl #[.slice Ao69 t248.length co69, .slice Ao15 t241.length co15] rfl (by (try simp only [List.map_toArray, List.map_cons, List.map_nil]); first | done | rfl | (simp only [List.length_drop, List.length_take]; rfl)) ?_; (with_reducible refine (burinbook_SameRanges.calls kj40 _ _ t248 _ _ t241 false _ ?side1 ?side2 ?side3 ?side4 A51.out).mono ?_); (case side1 => repeat (first | exact (Kd.R_reads' HO_9.out).2.2 | (with_reducible refine Kd.C_alloc ?_ _) | (with_reducible refine Kd.C_drewN ?_ _) | (with_reducible refine Kd.C_drew ?_))); (case side2 => exact (Kd.R_reads' HO_9.out).2.1); (case side3 => repeat (first | exact (Kd.R_reads' HO_5.out).2.2 | (with_reducible refine Kd.C_alloc ?_ _) | (with_reducible refine Kd.C_drewN ?_ _) | (with_reducible refine Kd.C_drew ?_))); (case side4 => exact (Kd.R_reads' HO_5.out).2.1); rintro e w' ⟨rfl, ⟨nd, rfl⟩⟩; refine ⟨_, rfl, ?_⟩))
                  go_ret
                  exact ⟨by first | rfl | (simp [errW_none, errW_some] <;> rfl) | (simp [*, errW_none, errW_some] <;> rfl), by repeat (first | (with_reducible first | exact HB.out | apply below_alloc | apply pw_below_drewN | apply below_drew1) | exact HB.out)⟩
             ·rw [if_neg c38] at H
              exact absurd H (by simp)
            ·rw [if_neg c37] at H
             exact absurd H (by simp)
           ·rw [if_neg c36] at H
            exact absurd H (by simp)
          ·rw [if_neg c34] at H
           exact absurd H (by simp)
         ·rw [if_neg c33] at H
          exact absurd H (by simp)
        ·rw [if_neg c32] at H
         exact absurd H (by simp)
 ·replace c4 := Bool.eq_false_iff.mpr c4
  subst c4
  have H1 : (some false) = some r := by rw [if_neg (show ¬ (false = true) by decide)] at H; exact H
  clear H
  have H := H1
  clear H1
  obtain rfl := Option.some.inj H
  go_enter Tryz.func5, Tryz.ntmps5
  go_wp2_with (first | ((with_reducible refine gate_callee (f := 8) rfl ?_); refine goesL_ (some 18) rfl rfl Tryz.func8 (by kernel_rfl) rfl #[] rfl (by (try simp only [List.map_toArray, List.map_cons, List.map_nil]); first | done | rfl | (simp only [List.length_drop, List.length_take]; rfl)) ?_; (with_reducible refine (burinlaw07_works.calls (hM := MaxAt.below HM.out (by repeat (first | (with_reducible first | exact HB.out | apply below_alloc | apply pw_below_drewN | apply below_drew1) | exact HB.out))) k  false _ A3.out).mono ?_); rintro e w70 ⟨rfl, hb⟩; refine ⟨_, rfl, ?_⟩; have n0_ := Aside0.mk (below_step (by repeat (first | (with_reducible first | exact HB.out | apply below_alloc | apply pw_below_drewN | apply below_drew1) | exact HB.out)) hb); clear HB; have HB := n0_; clear n0_; (try clear hb); (try clear hb2); (try clear hk); (try clear hi)))
  go_ret
  exact ⟨by first | rfl | (simp [errW_none, errW_some] <;> rfl) | (simp [*, errW_none, errW_some] <;> rfl), by repeat (first | (with_reducible first | exact HB.out | apply below_alloc | apply pw_below_drewN | apply below_drew1) | exact HB.out)⟩
end Go.Proofs.YtheheijhijeljaaGreatDoor.HBracketWrites

