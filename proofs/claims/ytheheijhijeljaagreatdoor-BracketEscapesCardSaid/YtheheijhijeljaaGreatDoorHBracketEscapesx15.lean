-- Made by wip/hyb (a program of this session over the kit's print); its parts marked 'own text' are typed by hand.
import Derived.Test.YtheheijhijeljaaGreatDoorHBracketEscapesx0
namespace Go.Proofs.YtheheijhijeljaaGreatDoor.HBracketEscapes
open Go.RowKit Go.Proofs.YtheheijhijeljaaGreatDoorW.PrintWords Go.Proofs.YtheheijhijeljaaGreatDoorW.PrintLast Go.Proofs.YtheheijhijeljaaGreatDoorW.PrintMore
attribute [local go_sem] max2_int min2_int max_two min_two max_three min_three max_four min_four   -- for this text's walks alone
set_option linter.unusedVariables false
set_option linter.unusedSimpArgs false
mutual
def burinref02_edge.l0 : Nat → List (S36) → Int → Int → Int → Option (Int)
 | 0, _, _, _, _ => none
 | k + 1, x0, x1, x5, x6 => if x6 < (x0.length : Int) then (if 0 ≤ x6 then (if ((rd_T36 x0 x6).f0) > x1 then (burinref02_edge.j1 k x0 x1 x5 x6 (decide (((rd_T36 x0 x6).f0) < x5))) else (burinref02_edge.j1 k x0 x1 x5 x6 false)) else (none)) else (some x5)
def burinref02_edge.j1 : Nat → List (S36) → Int → Int → Int → Bool → Option (Int)
 | 0, _, _, _, _, _ => none
 | k + 1, x0, x1, x5, x6, x28 => if x28 = true then (if 0 ≤ x6 then (if x6 < (x0.length : Int) then (if ((rd_T36 x0 x6).f1) ≥ x1 then (if ((rd_T36 x0 x6).f1) < 1114111 then (if (wrap64 (((rd_T36 x0 x6).f1) + 1)) < ((rd_T36 x0 x6).f0) then (burinref02_edge.l0 k x0 x1 (wrap64 (((rd_T36 x0 x6).f1) + 1)) (wrap64 (x6 + 1))) else (burinref02_edge.l0 k x0 x1 ((rd_T36 x0 x6).f0) (wrap64 (x6 + 1)))) else (burinref02_edge.l0 k x0 x1 ((rd_T36 x0 x6).f0) (wrap64 (x6 + 1)))) else (burinref02_edge.l0 k x0 x1 ((rd_T36 x0 x6).f0) (wrap64 (x6 + 1)))) else (none)) else (none)) else (if 0 ≤ x6 then (if x6 < (x0.length : Int) then (if ((rd_T36 x0 x6).f1) ≥ x1 then (if ((rd_T36 x0 x6).f1) < 1114111 then (if (wrap64 (((rd_T36 x0 x6).f1) + 1)) < x5 then (burinref02_edge.l0 k x0 x1 (wrap64 (((rd_T36 x0 x6).f1) + 1)) (wrap64 (x6 + 1))) else (burinref02_edge.l0 k x0 x1 x5 (wrap64 (x6 + 1)))) else (burinref02_edge.l0 k x0 x1 x5 (wrap64 (x6 + 1)))) else (burinref02_edge.l0 k x0 x1 x5 (wrap64 (x6 + 1)))) else (none)) else (none))
end
def burinref02_edge.f (k : Nat) (l0 : List (S36)) (a1 : Int) : Option (Int) := burinref02_edge.l0 k l0 a1 1114112 0
theorem burinref02_edge.mono_l : ∀ k, (∀ y0 y1 y2 y3, LeO (burinref02_edge.l0 k y0 y1 y2 y3) (burinref02_edge.l0 (k + 1) y0 y1 y2 y3)) ∧ (∀ y0 y1 y2 y3 y4, LeO (burinref02_edge.j1 k y0 y1 y2 y3 y4) (burinref02_edge.j1 (k + 1) y0 y1 y2 y3 y4))
 | 0 => ⟨fun _ _ _ _ r h => by simp [burinref02_edge.l0] at h, fun _ _ _ _ _ r h => by simp [burinref02_edge.j1] at h⟩
 | k + 1 => by
  obtain ⟨ih0, ih1⟩ := burinref02_edge.mono_l k
  refine ⟨?_, ?_⟩
  ·intro y0 y1 y2 y3
   unfold burinref02_edge.l0
   repeat' first
   | (with_reducible exact ih0 _ _ _ _)
   | (with_reducible exact ih1 _ _ _ _ _)
   | (with_reducible exact LeO.refl _)
   | (with_reducible exact LeO.none _)
   | (with_reducible refine LeO.ite ?_ ?_)
   | (with_reducible refine LeO.bind ?_ (fun _ => ?_))
   | exact ih0 _ _ _ _
   | exact ih1 _ _ _ _ _
   | exact LeO.none _
   | refine LeO.ite ?_ ?_
   | refine LeO.bind ?_ (fun _ => ?_)
  ·intro y0 y1 y2 y3 y4
   unfold burinref02_edge.j1
   repeat' first
   | (with_reducible exact ih0 _ _ _ _)
   | (with_reducible exact ih1 _ _ _ _ _)
   | (with_reducible exact LeO.refl _)
   | (with_reducible exact LeO.none _)
   | (with_reducible refine LeO.ite ?_ ?_)
   | (with_reducible refine LeO.bind ?_ (fun _ => ?_))
   | exact ih0 _ _ _ _
   | exact ih1 _ _ _ _ _
   | exact LeO.none _
   | refine LeO.ite ?_ ?_
   | refine LeO.bind ?_ (fun _ => ?_)
theorem burinref02_edge.mono : ∀ a0 a1 k, LeO (burinref02_edge.f k a0 a1) (burinref02_edge.f (k + 1) a0 a1) := by
 intro a0 a1 k
 obtain ⟨ih0, ih1⟩ := burinref02_edge.mono_l k
 unfold burinref02_edge.f
 repeat' first
   | (with_reducible exact ih0 _ _ _ _)
   | (with_reducible exact ih1 _ _ _ _ _)
   | (with_reducible exact LeO.refl _)
   | (with_reducible exact LeO.none _)
   | (with_reducible refine LeO.ite ?_ ?_)
   | (with_reducible refine LeO.bind ?_ (fun _ => ?_))
   | exact ih0 _ _ _ _
   | exact ih1 _ _ _ _ _
   | exact LeO.none _
   | refine LeO.ite ?_ ?_
   | refine LeO.bind ?_ (fun _ => ?_)
set_option maxHeartbeats 8000000 in
set_option maxRecDepth 100000 in
theorem burinref02_edge.calls (k : Nat) (A0 : Option Addr) (c0 : Nat) (l0 : List (S36)) (a1 : Int) (r : Int) (w : World) (hr0 : Kd.C k36 w A0 l0.length l0) (hc0 : l0.length ≤ c0) (h : burinref02_edge.f k l0 a1 = some r) :
  Calls Tryz.prog 95 #[.slice A0 l0.length c0, .int .i64 a1] w fun e w' => e = .returned (.int .i64 r) ∧ Drawn0 w w' := by
 have HR0 := Aside0.mk hr0
 have HC0 := Aside0.mk hc0
 clear hr0 hc0
 have H : (burinref02_edge.l0 k l0 a1 1114112 0) = some r := h
 clear h
 have H' := Aside0.mk H
 clear H
 go_enter Tryz.func95, Tryz.ntmps95
 go_wp2
 go_loopg [5, 6] k (fun kq v5 v6 w' => ∃ (x5_1 : Int) (x6_1 : Int), v5 = .int .i64 x5_1 ∧ v6 = .int .i64 x6_1 ∧ Aside0 (burinref02_edge.l0 kq l0 a1 x5_1 x6_1 = some r) ∧ Aside0 (kq ≤ k) ∧ Drawn0 w w')
 case atStart => exact ⟨(1114112), (0), (by first | rfl | (simp; done) | (simp [*]; done)), (by first | rfl | (simp; done) | (simp [*]; done)), H', ⟨Nat.le_refl _⟩, by repeat (first | exact Drawn0.refl _ | apply Drawn0.step)⟩
 case round =>
  clear H'
  try clear p2
  obtain ⟨x5_1, x6_1, rfl, rfl, HA, HK1, ⟨m1, rfl⟩⟩ := hrel
  cases gk with
  | zero => exact absurd HA.out (by simp [burinref02_edge.l0])
  | succ k1 =>
   have H := HA.out
   clear HA
   simp only [burinref02_edge.l0] at H
   by_cases c3 : x6_1 < (l0.length : Int)
   ·rw [if_pos c3] at H
    have c3b0 : decide (x6_1 < (l0.length : Int)) = true := decide_eq_true c3
    clear c3
    have HC4 := Aside0.mk H
    clear H
    go_upto_region 5 with (fail)
    go_cut [28] (fun v28 wc => ∃ (kq : Nat) (x28_3 : Bool), v28 = .bool x28_3 ∧ Aside0 (burinref02_edge.j1 kq l0 a1 x5_1 x6_1 x28_3 = some r) ∧ Aside0 (kq ≤ k1) ∧ Drawn0 w wc)
    case first =>
     have H := HC4.out
     clear HC4
     by_cases c5 : 0 ≤ x6_1
     ·rw [if_pos c5] at H
      have c5b0 : decide (0 ≤ x6_1) = true := decide_eq_true c5
      clear c5
      (first | rw [c5b0] | (simp only [i64_w, i32_w]; rw [c5b0]) | skip)
      by_cases c6 : ((rd_T36 l0 x6_1).f0) > a1
      ·rw [if_pos c6] at H
       have c6b0 : decide (a1 < ((rd_T36 l0 x6_1).f0)) = true := decide_eq_true c6
       clear c6
       have H' := Aside0.mk H
       clear H
       have p247 : 0 ≤ (x6_1 : Int) := of_decide_eq_true (by first | (with_reducible assumption) | assumption)
       have q247 : x6_1 < (l0.length : Int) := of_decide_eq_true (by first | (with_reducible assumption) | assumption)
       obtain ⟨ad247, e247, hx247_0, hx247_1⟩ := at_T36 HR0.out x6_1 p247 q247
       cases e247
       replace p247 := eq_true p247
       replace q247 := eq_true q247
       have p248 : 0 ≤ (x6_1 : Int) := of_decide_eq_true (by first | (with_reducible assumption) | assumption)
       have q248 : x6_1 < (l0.length : Int) := of_decide_eq_true (by first | (with_reducible assumption) | assumption)
       obtain ⟨ad248, e248, hx248_0, hx248_1⟩ := at_T36 HR0.out x6_1 p248 q248
       obtain rfl : ad247 = ad248 := (by injection e248)
       replace p248 := eq_true p248
       replace q248 := eq_true q248
       go_wp2
       go_meet
       case rel => exact ⟨_, (decide (((rd_T36 l0 x6_1).f0) < x5_1)), (by first | rfl | (simp; done) | (simp [*]; done)), H', ⟨by have := HK1.out; first | omega | exact Nat.le_refl _⟩, by repeat (first | exact Drawn0.refl _ | apply Drawn0.step)⟩
      ·rw [if_neg c6] at H
       have c6b0 : decide (a1 < ((rd_T36 l0 x6_1).f0)) = false := decide_eq_false c6
       clear c6
       have H' := Aside0.mk H
       clear H
       have p247 : 0 ≤ (x6_1 : Int) := of_decide_eq_true (by first | (with_reducible assumption) | assumption)
       have q247 : x6_1 < (l0.length : Int) := of_decide_eq_true (by first | (with_reducible assumption) | assumption)
       obtain ⟨ad247, e247, hx247_0, hx247_1⟩ := at_T36 HR0.out x6_1 p247 q247
       cases e247
       replace p247 := eq_true p247
       replace q247 := eq_true q247
       go_wp2
       go_meet
       case rel => exact ⟨_, (false), (by first | rfl | (simp; done) | (simp [*]; done)), H', ⟨by have := HK1.out; first | omega | exact Nat.le_refl _⟩, by repeat (first | exact Drawn0.refl _ | apply Drawn0.step)⟩
     ·rw [if_neg c5] at H
      exact absurd H (by simp)
    case rest =>
     clear HC4
     try clear p2
     try clear q2
     try clear hx2
     try clear c3
     try clear c3b0
     try clear c5
     try clear c5b0
     try clear c6
     try clear c6b0
     try clear hx247_0
     try clear hx247_1
     try clear hx248_0
     try clear hx248_1
     try clear p2
     try clear p247
     try clear p248
     try clear q247
     try clear q248
     obtain ⟨kq, x28_3, rfl, HA, HJ3, ⟨mc3, rfl⟩⟩ := hcut
     cases kq with
     | zero => exact absurd HA.out (by simp [burinref02_edge.j1])
     | succ kj3 =>
      have H := HA.out
      clear HA
      simp only [burinref02_edge.j1] at H
      by_cases c7 : x28_3 = true
      ·subst c7
       have H1 : (if 0 ≤ x6_1 then (if x6_1 < (l0.length : Int) then (if ((rd_T36 l0 x6_1).f1) ≥ a1 then (if ((rd_T36 l0 x6_1).f1) < 1114111 then (if (wrap64 (((rd_T36 l0 x6_1).f1) + 1)) < ((rd_T36 l0 x6_1).f0) then (burinref02_edge.l0 kj3 l0 a1 (wrap64 (((rd_T36 l0 x6_1).f1) + 1)) (wrap64 (x6_1 + 1))) else (burinref02_edge.l0 kj3 l0 a1 ((rd_T36 l0 x6_1).f0) (wrap64 (x6_1 + 1)))) else (burinref02_edge.l0 kj3 l0 a1 ((rd_T36 l0 x6_1).f0) (wrap64 (x6_1 + 1)))) else (burinref02_edge.l0 kj3 l0 a1 ((rd_T36 l0 x6_1).f0) (wrap64 (x6_1 + 1)))) else (none)) else (none)) = some r := by rw [if_pos rfl] at H; exact H
       clear H
       have H := H1
       clear H1
       by_cases c8 : 0 ≤ x6_1
       ·rw [if_pos c8] at H
        have c8b0 : decide (0 ≤ x6_1) = true := decide_eq_true c8
        clear c8
        by_cases c9 : x6_1 < (l0.length : Int)
        ·rw [if_pos c9] at H
         have c9b0 : decide (x6_1 < (l0.length : Int)) = true := decide_eq_true c9
         clear c9
         by_cases c10 : ((rd_T36 l0 x6_1).f1) ≥ a1
         ·rw [if_pos c10] at H
          have c10b0 : decide (a1 ≤ ((rd_T36 l0 x6_1).f1)) = true := decide_eq_true c10
          clear c10
          by_cases c11 : ((rd_T36 l0 x6_1).f1) < 1114111
          ·rw [if_pos c11] at H
           have c11b0 : decide (((rd_T36 l0 x6_1).f1) < 1114111) = true := decide_eq_true c11
           clear c11
           by_cases c12 : (wrap64 (((rd_T36 l0 x6_1).f1) + 1)) < ((rd_T36 l0 x6_1).f0)
           ·rw [if_pos c12] at H
            have c12b0 : decide ((wrap64 (((rd_T36 l0 x6_1).f1) + 1)) < ((rd_T36 l0 x6_1).f0)) = true := decide_eq_true c12
            clear c12
            have H' := Aside0.mk H
            clear H
            have p249 : 0 ≤ (x6_1 : Int) := of_decide_eq_true (by first | (with_reducible assumption) | assumption)
            have q249 : x6_1 < (l0.length : Int) := of_decide_eq_true (by first | (with_reducible assumption) | assumption)
            obtain ⟨ad249, e249, hx249_0, hx249_1⟩ := at_T36 HR0.out x6_1 p249 q249
            cases e249
            replace p249 := eq_true p249
            replace q249 := eq_true q249
            have p250 : 0 ≤ (x6_1 : Int) := of_decide_eq_true (by first | (with_reducible assumption) | assumption)
            have q250 : x6_1 < (l0.length : Int) := of_decide_eq_true (by first | (with_reducible assumption) | assumption)
            obtain ⟨ad250, e250, hx250_0, hx250_1⟩ := at_T36 HR0.out x6_1 p250 q250
            obtain rfl : ad249 = ad250 := (by injection e250)
            replace p250 := eq_true p250
            replace q250 := eq_true q250
            have p251 : 0 ≤ (x6_1 : Int) := of_decide_eq_true (by first | (with_reducible assumption) | assumption)
            have q251 : x6_1 < (l0.length : Int) := of_decide_eq_true (by first | (with_reducible assumption) | assumption)
            obtain ⟨ad251, e251, hx251_0, hx251_1⟩ := at_T36 HR0.out x6_1 p251 q251
            obtain rfl : ad249 = ad251 := (by injection e251)
            replace p251 := eq_true p251
            replace q251 := eq_true q251
            have p252 : 0 ≤ (x6_1 : Int) := of_decide_eq_true (by first | (with_reducible assumption) | assumption)
            have q252 : x6_1 < (l0.length : Int) := of_decide_eq_true (by first | (with_reducible assumption) | assumption)
            obtain ⟨ad252, e252, hx252_0, hx252_1⟩ := at_T36 HR0.out x6_1 p252 q252
            obtain rfl : ad249 = ad252 := (by injection e252)
            replace p252 := eq_true p252
            replace q252 := eq_true q252
            have p253 : 0 ≤ (x6_1 : Int) := of_decide_eq_true (by first | (with_reducible assumption) | assumption)
            have q253 : x6_1 < (l0.length : Int) := of_decide_eq_true (by first | (with_reducible assumption) | assumption)
            obtain ⟨ad253, e253, hx253_0, hx253_1⟩ := at_T36 HR0.out x6_1 p253 q253
            obtain rfl : ad249 = ad253 := (by injection e253)
            replace p253 := eq_true p253
            replace q253 := eq_true q253
            go_wp2
            go_roundg kj3
            case measure => have := HK1.out; have := HJ3.out; omega
            case rel => exact ⟨(wrap64 (((rd_T36 l0 x6_1).f1) + 1)), (wrap64 (x6_1 + 1)), (by first | rfl | (simp; done) | (simp [*]; done)), (by first | rfl | (simp; done) | (simp [*]; done)), H', ⟨by have := HK1.out; have := HJ3.out; omega⟩, by repeat (first | exact Drawn0.refl _ | apply Drawn0.step)⟩
           ·rw [if_neg c12] at H
            have c12b0 : decide ((wrap64 (((rd_T36 l0 x6_1).f1) + 1)) < ((rd_T36 l0 x6_1).f0)) = false := decide_eq_false c12
            clear c12
            have H' := Aside0.mk H
            clear H
            have p249 : 0 ≤ (x6_1 : Int) := of_decide_eq_true (by first | (with_reducible assumption) | assumption)
            have q249 : x6_1 < (l0.length : Int) := of_decide_eq_true (by first | (with_reducible assumption) | assumption)
            obtain ⟨ad249, e249, hx249_0, hx249_1⟩ := at_T36 HR0.out x6_1 p249 q249
            cases e249
            replace p249 := eq_true p249
            replace q249 := eq_true q249
            have p250 : 0 ≤ (x6_1 : Int) := of_decide_eq_true (by first | (with_reducible assumption) | assumption)
            have q250 : x6_1 < (l0.length : Int) := of_decide_eq_true (by first | (with_reducible assumption) | assumption)
            obtain ⟨ad250, e250, hx250_0, hx250_1⟩ := at_T36 HR0.out x6_1 p250 q250
            obtain rfl : ad249 = ad250 := (by injection e250)
            replace p250 := eq_true p250
            replace q250 := eq_true q250
            have p251 : 0 ≤ (x6_1 : Int) := of_decide_eq_true (by first | (with_reducible assumption) | assumption)
            have q251 : x6_1 < (l0.length : Int) := of_decide_eq_true (by first | (with_reducible assumption) | assumption)
            obtain ⟨ad251, e251, hx251_0, hx251_1⟩ := at_T36 HR0.out x6_1 p251 q251
            obtain rfl : ad249 = ad251 := (by injection e251)
            replace p251 := eq_true p251
            replace q251 := eq_true q251
            have p252 : 0 ≤ (x6_1 : Int) := of_decide_eq_true (by first | (with_reducible assumption) | assumption)
            have q252 : x6_1 < (l0.length : Int) := of_decide_eq_true (by first | (with_reducible assumption) | assumption)
            obtain ⟨ad252, e252, hx252_0, hx252_1⟩ := at_T36 HR0.out x6_1 p252 q252
            obtain rfl : ad249 = ad252 := (by injection e252)
            replace p252 := eq_true p252
            replace q252 := eq_true q252
            go_wp2
            go_roundg kj3
            case measure => have := HK1.out; have := HJ3.out; omega
            case rel => exact ⟨((rd_T36 l0 x6_1).f0), (wrap64 (x6_1 + 1)), (by first | rfl | (simp; done) | (simp [*]; done)), (by first | rfl | (simp; done) | (simp [*]; done)), H', ⟨by have := HK1.out; have := HJ3.out; omega⟩, by repeat (first | exact Drawn0.refl _ | apply Drawn0.step)⟩
          ·rw [if_neg c11] at H
           have c11b0 : decide (((rd_T36 l0 x6_1).f1) < 1114111) = false := decide_eq_false c11
           clear c11
           have H' := Aside0.mk H
           clear H
           have p249 : 0 ≤ (x6_1 : Int) := of_decide_eq_true (by first | (with_reducible assumption) | assumption)
           have q249 : x6_1 < (l0.length : Int) := of_decide_eq_true (by first | (with_reducible assumption) | assumption)
           obtain ⟨ad249, e249, hx249_0, hx249_1⟩ := at_T36 HR0.out x6_1 p249 q249
           cases e249
           replace p249 := eq_true p249
           replace q249 := eq_true q249
           have p250 : 0 ≤ (x6_1 : Int) := of_decide_eq_true (by first | (with_reducible assumption) | assumption)
           have q250 : x6_1 < (l0.length : Int) := of_decide_eq_true (by first | (with_reducible assumption) | assumption)
           obtain ⟨ad250, e250, hx250_0, hx250_1⟩ := at_T36 HR0.out x6_1 p250 q250
           obtain rfl : ad249 = ad250 := (by injection e250)
           replace p250 := eq_true p250
           replace q250 := eq_true q250
           have p251 : 0 ≤ (x6_1 : Int) := of_decide_eq_true (by first | (with_reducible assumption) | assumption)
           have q251 : x6_1 < (l0.length : Int) := of_decide_eq_true (by first | (with_reducible assumption) | assumption)
           obtain ⟨ad251, e251, hx251_0, hx251_1⟩ := at_T36 HR0.out x6_1 p251 q251
           obtain rfl : ad249 = ad251 := (by injection e251)
           replace p251 := eq_true p251
           replace q251 := eq_true q251
           go_wp2
           go_roundg kj3
           case measure => have := HK1.out; have := HJ3.out; omega
           case rel => exact ⟨((rd_T36 l0 x6_1).f0), (wrap64 (x6_1 + 1)), (by first | rfl | (simp; done) | (simp [*]; done)), (by first | rfl | (simp; done) | (simp [*]; done)), H', ⟨by have := HK1.out; have := HJ3.out; omega⟩, by repeat (first | exact Drawn0.refl _ | apply Drawn0.step)⟩
         ·rw [if_neg c10] at H
          have c10b0 : decide (a1 ≤ ((rd_T36 l0 x6_1).f1)) = false := decide_eq_false c10
          clear c10
          have H' := Aside0.mk H
          clear H
          have p249 : 0 ≤ (x6_1 : Int) := of_decide_eq_true (by first | (with_reducible assumption) | assumption)
          have q249 : x6_1 < (l0.length : Int) := of_decide_eq_true (by first | (with_reducible assumption) | assumption)
          obtain ⟨ad249, e249, hx249_0, hx249_1⟩ := at_T36 HR0.out x6_1 p249 q249
          cases e249
          replace p249 := eq_true p249
          replace q249 := eq_true q249
          have p250 : 0 ≤ (x6_1 : Int) := of_decide_eq_true (by first | (with_reducible assumption) | assumption)
          have q250 : x6_1 < (l0.length : Int) := of_decide_eq_true (by first | (with_reducible assumption) | assumption)
          obtain ⟨ad250, e250, hx250_0, hx250_1⟩ := at_T36 HR0.out x6_1 p250 q250
          obtain rfl : ad249 = ad250 := (by injection e250)
          replace p250 := eq_true p250
          replace q250 := eq_true q250
          go_wp2
          go_roundg kj3
          case measure => have := HK1.out; have := HJ3.out; omega
          case rel => exact ⟨((rd_T36 l0 x6_1).f0), (wrap64 (x6_1 + 1)), (by first | rfl | (simp; done) | (simp [*]; done)), (by first | rfl | (simp; done) | (simp [*]; done)), H', ⟨by have := HK1.out; have := HJ3.out; omega⟩, by repeat (first | exact Drawn0.refl _ | apply Drawn0.step)⟩
        ·rw [if_neg c9] at H
         exact absurd H (by simp)
       ·rw [if_neg c8] at H
        exact absurd H (by simp)
      ·replace c7 := Bool.eq_false_iff.mpr c7
       subst c7
       have H1 : (if 0 ≤ x6_1 then (if x6_1 < (l0.length : Int) then (if ((rd_T36 l0 x6_1).f1) ≥ a1 then (if ((rd_T36 l0 x6_1).f1) < 1114111 then (if (wrap64 (((rd_T36 l0 x6_1).f1) + 1)) < x5_1 then (burinref02_edge.l0 kj3 l0 a1 (wrap64 (((rd_T36 l0 x6_1).f1) + 1)) (wrap64 (x6_1 + 1))) else (burinref02_edge.l0 kj3 l0 a1 x5_1 (wrap64 (x6_1 + 1)))) else (burinref02_edge.l0 kj3 l0 a1 x5_1 (wrap64 (x6_1 + 1)))) else (burinref02_edge.l0 kj3 l0 a1 x5_1 (wrap64 (x6_1 + 1)))) else (none)) else (none)) = some r := by rw [if_neg (show ¬ (false = true) by decide)] at H; exact H
       clear H
       have H := H1
       clear H1
       by_cases c13 : 0 ≤ x6_1
       ·rw [if_pos c13] at H
        have c13b0 : decide (0 ≤ x6_1) = true := decide_eq_true c13
        clear c13
        by_cases c14 : x6_1 < (l0.length : Int)
        ·rw [if_pos c14] at H
         have c14b0 : decide (x6_1 < (l0.length : Int)) = true := decide_eq_true c14
         clear c14
         by_cases c15 : ((rd_T36 l0 x6_1).f1) ≥ a1
         ·rw [if_pos c15] at H
          have c15b0 : decide (a1 ≤ ((rd_T36 l0 x6_1).f1)) = true := decide_eq_true c15
          clear c15
          by_cases c16 : ((rd_T36 l0 x6_1).f1) < 1114111
          ·rw [if_pos c16] at H
           have c16b0 : decide (((rd_T36 l0 x6_1).f1) < 1114111) = true := decide_eq_true c16
           clear c16
           by_cases c17 : (wrap64 (((rd_T36 l0 x6_1).f1) + 1)) < x5_1
           ·rw [if_pos c17] at H
            have c17b0 : decide ((wrap64 (((rd_T36 l0 x6_1).f1) + 1)) < x5_1) = true := decide_eq_true c17
            clear c17
            have H' := Aside0.mk H
            clear H
            have p254 : 0 ≤ (x6_1 : Int) := of_decide_eq_true (by first | (with_reducible assumption) | assumption)
            have q254 : x6_1 < (l0.length : Int) := of_decide_eq_true (by first | (with_reducible assumption) | assumption)
            obtain ⟨ad254, e254, hx254_0, hx254_1⟩ := at_T36 HR0.out x6_1 p254 q254
            cases e254
            replace p254 := eq_true p254
            replace q254 := eq_true q254
            have p255 : 0 ≤ (x6_1 : Int) := of_decide_eq_true (by first | (with_reducible assumption) | assumption)
            have q255 : x6_1 < (l0.length : Int) := of_decide_eq_true (by first | (with_reducible assumption) | assumption)
            obtain ⟨ad255, e255, hx255_0, hx255_1⟩ := at_T36 HR0.out x6_1 p255 q255
            obtain rfl : ad254 = ad255 := (by injection e255)
            replace p255 := eq_true p255
            replace q255 := eq_true q255
            have p256 : 0 ≤ (x6_1 : Int) := of_decide_eq_true (by first | (with_reducible assumption) | assumption)
            have q256 : x6_1 < (l0.length : Int) := of_decide_eq_true (by first | (with_reducible assumption) | assumption)
            obtain ⟨ad256, e256, hx256_0, hx256_1⟩ := at_T36 HR0.out x6_1 p256 q256
            obtain rfl : ad254 = ad256 := (by injection e256)
            replace p256 := eq_true p256
            replace q256 := eq_true q256
            have p257 : 0 ≤ (x6_1 : Int) := of_decide_eq_true (by first | (with_reducible assumption) | assumption)
            have q257 : x6_1 < (l0.length : Int) := of_decide_eq_true (by first | (with_reducible assumption) | assumption)
            obtain ⟨ad257, e257, hx257_0, hx257_1⟩ := at_T36 HR0.out x6_1 p257 q257
            obtain rfl : ad254 = ad257 := (by injection e257)
            replace p257 := eq_true p257
            replace q257 := eq_true q257
            go_wp2
            go_roundg kj3
            case measure => have := HK1.out; have := HJ3.out; omega
            case rel => exact ⟨(wrap64 (((rd_T36 l0 x6_1).f1) + 1)), (wrap64 (x6_1 + 1)), (by first | rfl | (simp; done) | (simp [*]; done)), (by first | rfl | (simp; done) | (simp [*]; done)), H', ⟨by have := HK1.out; have := HJ3.out; omega⟩, by repeat (first | exact Drawn0.refl _ | apply Drawn0.step)⟩
           ·rw [if_neg c17] at H
            have c17b0 : decide ((wrap64 (((rd_T36 l0 x6_1).f1) + 1)) < x5_1) = false := decide_eq_false c17
            clear c17
            have H' := Aside0.mk H
            clear H
            have p254 : 0 ≤ (x6_1 : Int) := of_decide_eq_true (by first | (with_reducible assumption) | assumption)
            have q254 : x6_1 < (l0.length : Int) := of_decide_eq_true (by first | (with_reducible assumption) | assumption)
            obtain ⟨ad254, e254, hx254_0, hx254_1⟩ := at_T36 HR0.out x6_1 p254 q254
            cases e254
            replace p254 := eq_true p254
            replace q254 := eq_true q254
            have p255 : 0 ≤ (x6_1 : Int) := of_decide_eq_true (by first | (with_reducible assumption) | assumption)
            have q255 : x6_1 < (l0.length : Int) := of_decide_eq_true (by first | (with_reducible assumption) | assumption)
            obtain ⟨ad255, e255, hx255_0, hx255_1⟩ := at_T36 HR0.out x6_1 p255 q255
            obtain rfl : ad254 = ad255 := (by injection e255)
            replace p255 := eq_true p255
            replace q255 := eq_true q255
            have p256 : 0 ≤ (x6_1 : Int) := of_decide_eq_true (by first | (with_reducible assumption) | assumption)
            have q256 : x6_1 < (l0.length : Int) := of_decide_eq_true (by first | (with_reducible assumption) | assumption)
            obtain ⟨ad256, e256, hx256_0, hx256_1⟩ := at_T36 HR0.out x6_1 p256 q256
            obtain rfl : ad254 = ad256 := (by injection e256)
            replace p256 := eq_true p256
            replace q256 := eq_true q256
            go_wp2
            go_roundg kj3
            case measure => have := HK1.out; have := HJ3.out; omega
            case rel => exact ⟨(x5_1), (wrap64 (x6_1 + 1)), (by first | rfl | (simp; done) | (simp [*]; done)), (by first | rfl | (simp; done) | (simp [*]; done)), H', ⟨by have := HK1.out; have := HJ3.out; omega⟩, by repeat (first | exact Drawn0.refl _ | apply Drawn0.step)⟩
          ·rw [if_neg c16] at H
           have c16b0 : decide (((rd_T36 l0 x6_1).f1) < 1114111) = false := decide_eq_false c16
           clear c16
           have H' := Aside0.mk H
           clear H
           have p254 : 0 ≤ (x6_1 : Int) := of_decide_eq_true (by first | (with_reducible assumption) | assumption)
           have q254 : x6_1 < (l0.length : Int) := of_decide_eq_true (by first | (with_reducible assumption) | assumption)
           obtain ⟨ad254, e254, hx254_0, hx254_1⟩ := at_T36 HR0.out x6_1 p254 q254
           cases e254
           replace p254 := eq_true p254
           replace q254 := eq_true q254
           have p255 : 0 ≤ (x6_1 : Int) := of_decide_eq_true (by first | (with_reducible assumption) | assumption)
           have q255 : x6_1 < (l0.length : Int) := of_decide_eq_true (by first | (with_reducible assumption) | assumption)
           obtain ⟨ad255, e255, hx255_0, hx255_1⟩ := at_T36 HR0.out x6_1 p255 q255
           obtain rfl : ad254 = ad255 := (by injection e255)
           replace p255 := eq_true p255
           replace q255 := eq_true q255
           go_wp2
           go_roundg kj3
           case measure => have := HK1.out; have := HJ3.out; omega
           case rel => exact ⟨(x5_1), (wrap64 (x6_1 + 1)), (by first | rfl | (simp; done) | (simp [*]; done)), (by first | rfl | (simp; done) | (simp [*]; done)), H', ⟨by have := HK1.out; have := HJ3.out; omega⟩, by repeat (first | exact Drawn0.refl _ | apply Drawn0.step)⟩
         ·rw [if_neg c15] at H
          have c15b0 : decide (a1 ≤ ((rd_T36 l0 x6_1).f1)) = false := decide_eq_false c15
          clear c15
          have H' := Aside0.mk H
          clear H
          have p254 : 0 ≤ (x6_1 : Int) := of_decide_eq_true (by first | (with_reducible assumption) | assumption)
          have q254 : x6_1 < (l0.length : Int) := of_decide_eq_true (by first | (with_reducible assumption) | assumption)
          obtain ⟨ad254, e254, hx254_0, hx254_1⟩ := at_T36 HR0.out x6_1 p254 q254
          cases e254
          replace p254 := eq_true p254
          replace q254 := eq_true q254
          go_wp2
          go_roundg kj3
          case measure => have := HK1.out; have := HJ3.out; omega
          case rel => exact ⟨(x5_1), (wrap64 (x6_1 + 1)), (by first | rfl | (simp; done) | (simp [*]; done)), (by first | rfl | (simp; done) | (simp [*]; done)), H', ⟨by have := HK1.out; have := HJ3.out; omega⟩, by repeat (first | exact Drawn0.refl _ | apply Drawn0.step)⟩
        ·rw [if_neg c14] at H
         exact absurd H (by simp)
       ·rw [if_neg c13] at H
        exact absurd H (by simp)
   ·rw [if_neg c3] at H
    have c3b0 : decide (x6_1 < (l0.length : Int)) = false := decide_eq_false c3
    clear c3
    obtain rfl := Option.some.inj H
    go_wp2
    go_ret
    exact ⟨by first | rfl | (simp; done) | (simp [*]; done), by repeat (first | exact Drawn0.refl _ | apply Drawn0.step)⟩
end Go.Proofs.YtheheijhijeljaaGreatDoor.HBracketEscapes

