-- Made by wip/hyb (a program of this session over the kit's print); its parts marked 'own text' are typed by hand.
import Derived.Test.YtheheijhijeljaaGreatDoorHBracketReadsx3
import Derived.Test.YtheheijhijeljaaGreatDoorHBracketReadsx13
import Derived.Test.YtheheijhijeljaaGreatDoorHBracketReadsx21
namespace Go.Proofs.YtheheijhijeljaaGreatDoor.HBracketReads
open Go.RowKit Go.Proofs.YtheheijhijeljaaGreatDoorW.PrintWords Go.Proofs.YtheheijhijeljaaGreatDoorW.PrintLast Go.Proofs.YtheheijhijeljaaGreatDoorW.PrintMore
attribute [local go_sem] max2_int min2_int max_two min_two max_three min_three max_four min_four   -- for this text's walks alone
set_option linter.unusedVariables false
set_option linter.unusedSimpArgs false
def burinref03_span.l0 : Nat → Int → Int → List (S95) → Int → Option ((List (S95)))
 | 0, _, _, _, _ => none
 | k + 1, x1, x2, x7, x8 => if x8 ≤ x1 then (if x7.length < 8796093022208 then (burinref03_span.l0 k x1 x2 (x7 ++ [(⟨x8, wrap64 (x8 + x2)⟩ : S95)]) (wrap64 (x8 + 1))) else (none)) else (some x7)
def burinref03_span.f (k : Nat) (a0 : Int) (a1 : Int) (a2 : Int) : Option ((List (S95))) := burinref03_span.l0 k a1 a2 ([] : List (S95)) a0
theorem burinref03_span.mono_l : ∀ k, (∀ y0 y1 y2 y3, LeO (burinref03_span.l0 k y0 y1 y2 y3) (burinref03_span.l0 (k + 1) y0 y1 y2 y3))
 | 0 => fun _ _ _ _ r h => by simp [burinref03_span.l0] at h
 | k + 1 => by
  have ih0 := burinref03_span.mono_l k
  intro y0 y1 y2 y3
  unfold burinref03_span.l0
  repeat' first
  | (with_reducible exact ih0 _ _ _ _)
  | (with_reducible exact LeO.refl _)
  | (with_reducible exact LeO.none _)
  | (with_reducible refine LeO.ite ?_ ?_)
  | (with_reducible refine LeO.bind ?_ (fun _ => ?_))
  | exact ih0 _ _ _ _
  | exact LeO.none _
  | refine LeO.ite ?_ ?_
  | refine LeO.bind ?_ (fun _ => ?_)
theorem burinref03_span.mono : ∀ a0 a1 a2 k, LeO (burinref03_span.f k a0 a1 a2) (burinref03_span.f (k + 1) a0 a1 a2) := by
 intro a0 a1 a2 k
 have ih0 := burinref03_span.mono_l k
 unfold burinref03_span.f
 repeat' first
   | (with_reducible exact ih0 _ _ _ _)
   | (with_reducible exact LeO.refl _)
   | (with_reducible exact LeO.none _)
   | (with_reducible refine LeO.ite ?_ ?_)
   | (with_reducible refine LeO.bind ?_ (fun _ => ?_))
   | exact ih0 _ _ _ _
   | exact LeO.none _
   | refine LeO.ite ?_ ?_
   | refine LeO.bind ?_ (fun _ => ?_)
set_option maxHeartbeats 8000000 in
set_option maxRecDepth 100000 in
theorem burinref03_span.calls (k : Nat) (a0 : Int) (a1 : Int) (a2 : Int) (r : List (S95)) (w : World) (h : burinref03_span.f k a0 a1 a2 = some r) :
  Calls Tryz.prog 102 #[.int .i64 a0, .int .i64 a1, .int .i64 a2] w fun e w' => ∃ v0_ : Value, e = .returned (v0_) ∧ Kd.R k95 95 w' w.heap.size (fun _ => True) v0_ r ∧ Below w.heap.size w w' := by
 have hu95 := Tryz.underlying95
 have HB := Aside0.mk (Below.refl w.heap.size w)
 have H : (burinref03_span.l0 k a1 a2 ([] : List (S95)) a0) = some r := h
 clear h
 have H' := Aside0.mk H
 clear H
 go_enter Tryz.func102, Tryz.ntmps102
 go_wp2
 go_loopg [7, 8] k (fun kq v7 v8 w' => ∃ (x7_1 : List (S95)) (x8_1 : Int), v8 = .int .i64 x8_1 ∧ Aside0 (burinref03_span.l0 kq a1 a2 x7_1 x8_1 = some r) ∧ Aside0 (kq ≤ k) ∧ Aside0 (Kd.R k95 95 w' w.heap.size (fun _ => True) v7 x7_1) ∧ Aside0 (Below w.heap.size w w'))
 case atStart => exact ⟨(([] : List (S95))), (a0), ez, H', ⟨Nat.le_refl _⟩, ⟨by first | exact Kd.R_nil _ _ _ _ _ | exact Kd.N_nil _ _ _ _ _ | exact Kd.V_nil _ _ _ _ _ | exact Kd.Q_nil _ _ _ _ _ | exact Kd.S_nil _ _ _ _ _⟩, ⟨bz⟩⟩
 clear H'
 try clear c1
 try clear p2
 obtain ⟨x7_1, x8_1, rfl, HA, HK1, HO_7, HB⟩ := hrel
 cases gk with
 | zero => exact absurd HA.out (by simp [burinref03_span.l0])
 | succ k1 =>
  have H := HA.out
  clear HA
  simp only [burinref03_span.l0] at H
  by_cases c4 : x8_1 ≤ a1
  ·rw [if_pos c4] at H
   have c4b0 := decide_eq_true c4
   clear c4
   by_cases c5 : x7_1.length < 8796093022208
   rotate_left
   ·exact nomatch (if_neg c5).symm.trans H
   rw [if_pos c5] at H
   have LMc5 := Aside0.mk c5
   clear c5
   obtain ⟨y532, hy532⟩ : ∃ y_ : List (S95), y_ = (x7_1 ++ [(⟨x8_1, wrap64 (x8_1 + a2)⟩ : S95)]) := ⟨_, rfl⟩
   rw [← hy532] at H
   try rw [Option.bind_some] at H
   have Ny532 := Aside0.mk hy532
   clear hy532
   have H' := Aside0.mk H
   clear H
   go_wp2_with (first | ((with_reducible refine gate_builtin (b := .append) (xs := #[.tmp 15, .tmp 21]) rfl ?_); at_builtin; refine Kd.R_append k95 (w0 := w) w.heap.size rfl (.tmp 15) (.tmp 21) 92 95 (.agg #[(.int .i64 0), (.int .i64 0)]) 16 rfl Tryz.underlying92 info95 rfl (by decide) (by omega) u7 x7_1 (⟨x8_1, wrap64 (x8_1 + a2)⟩ : S95) [.int .i64 x8_1, .int .i64 (wrap64 (x8_1 + a2))] (fun _ => True) (fun _ => False) rfl rfl ?aP (fun _ hk => hk.elim) ?aF ?aO ?aB ?aS ?aL ?_; (case aP => exact k95_mkM _ _ _ (⟨x8_1, wrap64 (x8_1 + a2)⟩ : S95)); (case aB => exact bz); (case aF => exact (fun _ _ => trivial)); (case aO => exact (rz HO_7.out)); (case aS => exact (below_size bz)); (case aL => have := LMc5.out; omega); intro v533 w6 ho hb hg hat; rw [← Ny532.out] at ho; have n0_ := Aside0.mk (hb); have n1_ := Aside0.mk (ho); clear HB; clear HO_7; have HB := n0_; have HO534 := n1_; clear n0_ n1_; clear ho hb hg hat))
   go_roundg k1
   case measure => have := HK1.out; omega
   case rel => exact ⟨(y532), (wrap64 (x8_1 + 1)), ez, H', ⟨by have := HK1.out; omega⟩, ⟨rz HO534.out⟩, ⟨bz⟩⟩
  rw [if_neg c4] at H
  have c4b0 := decide_eq_false c4
  clear c4
  obtain rfl := Option.some.inj H
  go_wp2
  go_ret
  exact ⟨_, fz, rz HO_7.out, bz⟩
def burinref03_Pairs.f (k : Nat)  : Option ((List (S95))) := (burinref03_span.f k 65 90 32).bind fun t535 => ((burinref03_span.f k 192 214 32).bind fun t538 => (if t535.length + t538.length < 8796093022208 then ((some (t535 ++ t538 : List (S95))).bind fun y541 => ((burinref03_span.f k 216 222 32).bind fun t544 => (if y541.length + t544.length < 8796093022208 then ((some (y541 ++ t544 : List (S95))).bind fun y547 => ((burinref03_span.f k 913 929 32).bind fun t550 => (if y547.length + t550.length < 8796093022208 then ((some (y547 ++ t550 : List (S95))).bind fun y553 => ((burinref03_span.f k 931 939 32).bind fun t556 => (if y553.length + t556.length < 8796093022208 then ((some (y553 ++ t556 : List (S95))).bind fun y559 => ((burinref03_span.f k 1040 1071 32).bind fun t562 => (if y559.length + t562.length < 8796093022208 then ((some (y559 ++ t562 : List (S95))).bind fun y565 => ((burinref03_span.f k 1024 1039 80).bind fun t568 => (if y565.length + t568.length < 8796093022208 then ((some (y565 ++ t568 : List (S95))).bind fun y571 => ((some (([(⟨376, 255⟩ : S95), (⟨924, 181⟩ : S95), (⟨931, 962⟩ : S95), (⟨75, 8490⟩ : S95), (⟨197, 8491⟩ : S95), (⟨83, 383⟩ : S95), (⟨937, 8486⟩ : S95)] : List (S95)) : List (S95))).bind fun y574 => (if y571.length + y574.length < 8796093022208 then (some (y571 ++ y574)) else (none)))) else (none)))) else (none)))) else (none)))) else (none)))) else (none)))) else (none)))
theorem burinref03_Pairs.mono : ∀ k, LeO (burinref03_Pairs.f k ) (burinref03_Pairs.f (k + 1) ) := by
 intro  k
 unfold burinref03_Pairs.f
 repeat' first
   | (with_reducible exact burinref03_span.mono _ _ _ _)
   | (with_reducible exact LeO.refl _)
   | (with_reducible exact LeO.none _)
   | (with_reducible refine LeO.ite ?_ ?_)
   | (with_reducible refine LeO.bind ?_ (fun _ => ?_))
   | exact burinref03_span.mono _ _ _ _
   | exact LeO.none _
   | refine LeO.ite ?_ ?_
   | refine LeO.bind ?_ (fun _ => ?_)
set_option maxHeartbeats 8000000 in
set_option maxRecDepth 100000 in
theorem burinref03_Pairs.calls (k : Nat)  (r : List (S95)) (w : World) (h : burinref03_Pairs.f k  = some r) :
  Calls Tryz.prog 73 #[] w fun e w' => ∃ v0_ : Value, e = .returned (v0_) ∧ Kd.R k95 95 w' w.heap.size (fun _ => True) v0_ r ∧ Below w.heap.size w w' := by
 have hu95 := Tryz.underlying95
 have HB := Aside0.mk (Below.refl w.heap.size w)
 have H : ((burinref03_span.f k 65 90 32).bind fun t535 => ((burinref03_span.f k 192 214 32).bind fun t538 => (if t535.length + t538.length < 8796093022208 then ((some (t535 ++ t538 : List (S95))).bind fun y541 => ((burinref03_span.f k 216 222 32).bind fun t544 => (if y541.length + t544.length < 8796093022208 then ((some (y541 ++ t544 : List (S95))).bind fun y547 => ((burinref03_span.f k 913 929 32).bind fun t550 => (if y547.length + t550.length < 8796093022208 then ((some (y547 ++ t550 : List (S95))).bind fun y553 => ((burinref03_span.f k 931 939 32).bind fun t556 => (if y553.length + t556.length < 8796093022208 then ((some (y553 ++ t556 : List (S95))).bind fun y559 => ((burinref03_span.f k 1040 1071 32).bind fun t562 => (if y559.length + t562.length < 8796093022208 then ((some (y559 ++ t562 : List (S95))).bind fun y565 => ((burinref03_span.f k 1024 1039 80).bind fun t568 => (if y565.length + t568.length < 8796093022208 then ((some (y565 ++ t568 : List (S95))).bind fun y571 => ((some (([(⟨376, 255⟩ : S95), (⟨924, 181⟩ : S95), (⟨931, 962⟩ : S95), (⟨75, 8490⟩ : S95), (⟨197, 8491⟩ : S95), (⟨83, 383⟩ : S95), (⟨937, 8486⟩ : S95)] : List (S95)) : List (S95))).bind fun y574 => (if y571.length + y574.length < 8796093022208 then (some (y571 ++ y574)) else (none)))) else (none)))) else (none)))) else (none)))) else (none)))) else (none)))) else (none)))) = some r := h
 clear h
 replace H := Option.bind_eq_some_iff.mp H
 obtain ⟨t535, A10, H⟩ := H
 try dsimp only at H
 have A1 := Aside0.mk A10
 clear A10
 replace H := Option.bind_eq_some_iff.mp H
 obtain ⟨t538, A20, H⟩ := H
 try dsimp only at H
 have A2 := Aside0.mk A20
 clear A20
 by_cases c3 : t535.length + t538.length < 8796093022208
 rotate_left
 ·exact nomatch (if_neg c3).symm.trans H
 rw [if_pos c3] at H
 have LMc3 := Aside0.mk c3
 clear c3
 obtain ⟨y541, hy541⟩ : ∃ y_ : List (S95), y_ = (t535 ++ t538) := ⟨_, rfl⟩
 replace H : ((burinref03_span.f k 216 222 32).bind fun t544 => (if y541.length + t544.length < 8796093022208 then ((some (y541 ++ t544 : List (S95))).bind fun y547 => ((burinref03_span.f k 913 929 32).bind fun t550 => (if y547.length + t550.length < 8796093022208 then ((some (y547 ++ t550 : List (S95))).bind fun y553 => ((burinref03_span.f k 931 939 32).bind fun t556 => (if y553.length + t556.length < 8796093022208 then ((some (y553 ++ t556 : List (S95))).bind fun y559 => ((burinref03_span.f k 1040 1071 32).bind fun t562 => (if y559.length + t562.length < 8796093022208 then ((some (y559 ++ t562 : List (S95))).bind fun y565 => ((burinref03_span.f k 1024 1039 80).bind fun t568 => (if y565.length + t568.length < 8796093022208 then ((some (y565 ++ t568 : List (S95))).bind fun y571 => ((some (([(⟨376, 255⟩ : S95), (⟨924, 181⟩ : S95), (⟨931, 962⟩ : S95), (⟨75, 8490⟩ : S95), (⟨197, 8491⟩ : S95), (⟨83, 383⟩ : S95), (⟨937, 8486⟩ : S95)] : List (S95)) : List (S95))).bind fun y574 => (if y571.length + y574.length < 8796093022208 then (some (y571 ++ y574)) else (none)))) else (none)))) else (none)))) else (none)))) else (none)))) else (none))) = some r := by first | (rw [hy541]; with_reducible exact H) | (have H2_ := (Option.bind_some _ _).symm.trans H; rw [hy541]; with_reducible exact H2_) | exact H
 have Ny541 := Aside0.mk hy541
 clear hy541
 replace H := Option.bind_eq_some_iff.mp H
 obtain ⟨t544, A40, H⟩ := H
 try dsimp only at H
 have A4 := Aside0.mk A40
 clear A40
 by_cases c5 : y541.length + t544.length < 8796093022208
 rotate_left
 ·exact nomatch (if_neg c5).symm.trans H
 rw [if_pos c5] at H
 have LMc5 := Aside0.mk c5
 clear c5
 obtain ⟨y547, hy547⟩ : ∃ y_ : List (S95), y_ = (y541 ++ t544) := ⟨_, rfl⟩
 replace H : ((burinref03_span.f k 913 929 32).bind fun t550 => (if y547.length + t550.length < 8796093022208 then ((some (y547 ++ t550 : List (S95))).bind fun y553 => ((burinref03_span.f k 931 939 32).bind fun t556 => (if y553.length + t556.length < 8796093022208 then ((some (y553 ++ t556 : List (S95))).bind fun y559 => ((burinref03_span.f k 1040 1071 32).bind fun t562 => (if y559.length + t562.length < 8796093022208 then ((some (y559 ++ t562 : List (S95))).bind fun y565 => ((burinref03_span.f k 1024 1039 80).bind fun t568 => (if y565.length + t568.length < 8796093022208 then ((some (y565 ++ t568 : List (S95))).bind fun y571 => ((some (([(⟨376, 255⟩ : S95), (⟨924, 181⟩ : S95), (⟨931, 962⟩ : S95), (⟨75, 8490⟩ : S95), (⟨197, 8491⟩ : S95), (⟨83, 383⟩ : S95), (⟨937, 8486⟩ : S95)] : List (S95)) : List (S95))).bind fun y574 => (if y571.length + y574.length < 8796093022208 then (some (y571 ++ y574)) else (none)))) else (none)))) else (none)))) else (none)))) else (none))) = some r := by first | (rw [hy547]; with_reducible exact H) | (have H2_ := (Option.bind_some _ _).symm.trans H; rw [hy547]; with_reducible exact H2_) | exact H
 have Ny547 := Aside0.mk hy547
 clear hy547
 replace H := Option.bind_eq_some_iff.mp H
 obtain ⟨t550, A60, H⟩ := H
 try dsimp only at H
 have A6 := Aside0.mk A60
 clear A60
 by_cases c7 : y547.length + t550.length < 8796093022208
 rotate_left
 ·exact nomatch (if_neg c7).symm.trans H
 rw [if_pos c7] at H
 have LMc7 := Aside0.mk c7
 clear c7
 obtain ⟨y553, hy553⟩ : ∃ y_ : List (S95), y_ = (y547 ++ t550) := ⟨_, rfl⟩
 replace H : ((burinref03_span.f k 931 939 32).bind fun t556 => (if y553.length + t556.length < 8796093022208 then ((some (y553 ++ t556 : List (S95))).bind fun y559 => ((burinref03_span.f k 1040 1071 32).bind fun t562 => (if y559.length + t562.length < 8796093022208 then ((some (y559 ++ t562 : List (S95))).bind fun y565 => ((burinref03_span.f k 1024 1039 80).bind fun t568 => (if y565.length + t568.length < 8796093022208 then ((some (y565 ++ t568 : List (S95))).bind fun y571 => ((some (([(⟨376, 255⟩ : S95), (⟨924, 181⟩ : S95), (⟨931, 962⟩ : S95), (⟨75, 8490⟩ : S95), (⟨197, 8491⟩ : S95), (⟨83, 383⟩ : S95), (⟨937, 8486⟩ : S95)] : List (S95)) : List (S95))).bind fun y574 => (if y571.length + y574.length < 8796093022208 then (some (y571 ++ y574)) else (none)))) else (none)))) else (none)))) else (none))) = some r := by first | (rw [hy553]; with_reducible exact H) | (have H2_ := (Option.bind_some _ _).symm.trans H; rw [hy553]; with_reducible exact H2_) | exact H
 have Ny553 := Aside0.mk hy553
 clear hy553
 replace H := Option.bind_eq_some_iff.mp H
 obtain ⟨t556, A80, H⟩ := H
 try dsimp only at H
 have A8 := Aside0.mk A80
 clear A80
 by_cases c9 : y553.length + t556.length < 8796093022208
 rotate_left
 ·exact nomatch (if_neg c9).symm.trans H
 rw [if_pos c9] at H
 have LMc9 := Aside0.mk c9
 clear c9
 obtain ⟨y559, hy559⟩ : ∃ y_ : List (S95), y_ = (y553 ++ t556) := ⟨_, rfl⟩
 replace H : ((burinref03_span.f k 1040 1071 32).bind fun t562 => (if y559.length + t562.length < 8796093022208 then ((some (y559 ++ t562 : List (S95))).bind fun y565 => ((burinref03_span.f k 1024 1039 80).bind fun t568 => (if y565.length + t568.length < 8796093022208 then ((some (y565 ++ t568 : List (S95))).bind fun y571 => ((some (([(⟨376, 255⟩ : S95), (⟨924, 181⟩ : S95), (⟨931, 962⟩ : S95), (⟨75, 8490⟩ : S95), (⟨197, 8491⟩ : S95), (⟨83, 383⟩ : S95), (⟨937, 8486⟩ : S95)] : List (S95)) : List (S95))).bind fun y574 => (if y571.length + y574.length < 8796093022208 then (some (y571 ++ y574)) else (none)))) else (none)))) else (none))) = some r := by first | (rw [hy559]; with_reducible exact H) | (have H2_ := (Option.bind_some _ _).symm.trans H; rw [hy559]; with_reducible exact H2_) | exact H
 have Ny559 := Aside0.mk hy559
 clear hy559
 replace H := Option.bind_eq_some_iff.mp H
 obtain ⟨t562, A100, H⟩ := H
 try dsimp only at H
 have A10 := Aside0.mk A100
 clear A100
 by_cases c11 : y559.length + t562.length < 8796093022208
 rotate_left
 ·exact nomatch (if_neg c11).symm.trans H
 rw [if_pos c11] at H
 have LMc11 := Aside0.mk c11
 clear c11
 obtain ⟨y565, hy565⟩ : ∃ y_ : List (S95), y_ = (y559 ++ t562) := ⟨_, rfl⟩
 replace H : ((burinref03_span.f k 1024 1039 80).bind fun t568 => (if y565.length + t568.length < 8796093022208 then ((some (y565 ++ t568 : List (S95))).bind fun y571 => ((some (([(⟨376, 255⟩ : S95), (⟨924, 181⟩ : S95), (⟨931, 962⟩ : S95), (⟨75, 8490⟩ : S95), (⟨197, 8491⟩ : S95), (⟨83, 383⟩ : S95), (⟨937, 8486⟩ : S95)] : List (S95)) : List (S95))).bind fun y574 => (if y571.length + y574.length < 8796093022208 then (some (y571 ++ y574)) else (none)))) else (none))) = some r := by first | (rw [hy565]; with_reducible exact H) | (have H2_ := (Option.bind_some _ _).symm.trans H; rw [hy565]; with_reducible exact H2_) | exact H
 have Ny565 := Aside0.mk hy565
 clear hy565
 replace H := Option.bind_eq_some_iff.mp H
 obtain ⟨t568, A120, H⟩ := H
 try dsimp only at H
 have A12 := Aside0.mk A120
 clear A120
 by_cases c13 : y565.length + t568.length < 8796093022208
 rotate_left
 ·exact nomatch (if_neg c13).symm.trans H
 rw [if_pos c13] at H
 have LMc13 := Aside0.mk c13
 clear c13
 obtain ⟨y571, hy571⟩ : ∃ y_ : List (S95), y_ = (y565 ++ t568) := ⟨_, rfl⟩
 replace H : ((some (([(⟨376, 255⟩ : S95), (⟨924, 181⟩ : S95), (⟨931, 962⟩ : S95), (⟨75, 8490⟩ : S95), (⟨197, 8491⟩ : S95), (⟨83, 383⟩ : S95), (⟨937, 8486⟩ : S95)] : List (S95)) : List (S95))).bind fun y574 => (if y571.length + y574.length < 8796093022208 then (some (y571 ++ y574)) else (none))) = some r := by first | (rw [hy571]; with_reducible exact H) | (have H2_ := (Option.bind_some _ _).symm.trans H; rw [hy571]; with_reducible exact H2_) | exact H
 have Ny571 := Aside0.mk hy571
 clear hy571
 obtain ⟨y574, hy574⟩ : ∃ y_ : List (S95), y_ = (([(⟨376, 255⟩ : S95), (⟨924, 181⟩ : S95), (⟨931, 962⟩ : S95), (⟨75, 8490⟩ : S95), (⟨197, 8491⟩ : S95), (⟨83, 383⟩ : S95), (⟨937, 8486⟩ : S95)] : List (S95))) := ⟨_, rfl⟩
 rw [← hy574] at H
 try rw [Option.bind_some] at H
 have Ny574 := Aside0.mk hy574
 clear hy574
 by_cases c14 : y571.length + y574.length < 8796093022208
 rotate_left
 ·exact nomatch (if_neg c14).symm.trans H
 rw [if_pos c14] at H
 have LMc14 := Aside0.mk c14
 clear c14
 obtain ⟨y577, hy577⟩ : ∃ y_ : List (S95), y_ = (y571 ++ y574) := ⟨_, rfl⟩
 replace H : (some y577) = some r := by first | (rw [hy577]; with_reducible exact H) | (have H2_ := (Option.bind_some _ _).symm.trans H; rw [hy577]; with_reducible exact H2_) | exact H
 have Ny577 := Aside0.mk hy577
 clear hy577
 obtain rfl := Option.some.inj H
 go_enter Tryz.func73, Tryz.ntmps73
 go_wp2_with (first | ((with_reducible refine gate_callee (f := 102) rfl ?_); refine goesL_ (some 2) rfl rfl Tryz.func102 kz rfl #[.int .i64 65, .int .i64 90, .int .i64 32] rfl mz ?_; (with_reducible refine (burinref03_span.calls k 65 90 32 t535 _ A1.out).mono ?_); rintro e w15 ⟨v536, rfl, ho0, hb⟩; refine ⟨_, rfl, ?_⟩; have HO537 := Aside0.mk (Kd.R_lower ho0 (below_size bz)); replace HB := hz hb; (try clear hb); (try clear ho0)) | ((with_reducible refine gate_callee (f := 102) rfl ?_); refine goesL_ (some 4) rfl rfl Tryz.func102 kz rfl #[.int .i64 192, .int .i64 214, .int .i64 32] rfl mz ?_; (with_reducible refine (burinref03_span.calls k 192 214 32 t538 _ A2.out).mono ?_); rintro e w16 ⟨v539, rfl, ho0, hb⟩; refine ⟨_, rfl, ?_⟩; have HO540 := Aside0.mk (Kd.R_lower (Kd.R_new' ho0 (Kd.R_lt (rz HO537.out))) (below_size bz)); replace HO537 := Aside0.mk (Kd.R_elder' (rz HO537.out) (Kd.R_base ho0) hb); replace HB := hz hb; (try clear hb); (try clear ho0); obtain ⟨Ao18, co18, eo18⟩ := Kd.R_slice HO540.out; subst eo18) | ((with_reducible refine gate_builtin (b := .append) (xs := #[.tmp 3, .tmp 4]) rfl ?_); at_builtin; refine Kd.R_append_rows k95 (w0 := w) w.heap.size rfl (.tmp 3) (.tmp 4) 92 95 (.agg #[(.int .i64 0), (.int .i64 0)]) 16 rfl Tryz.underlying92 info95 rfl (by decide) (by omega) v536 t535 t538 _ _ _ (fun k_ => some k_ ≠ (.slice Ao18 t538.length co18 : Value).ownBlock) (fun _ => False) rfl rfl ?aO ?aR (fun _ _ h => h) (fun _ h => h.elim) ?aF ?aB ?aS ?aL ?_; (case aR => repeat (first | exact (Kd.R_reads' HO540.out).2.2 | (with_reducible refine Kd.C_alloc ?_ _) | (with_reducible refine Kd.C_drewN ?_ _) | (with_reducible refine Kd.C_drew ?_))); (case aB => exact bz); (case aF => exact (fun k_ hk => Kd.fresh' (Kd.R_lt (rz HO540.out)) k_ hk)); (case aO => exact (by (with_reducible repeat (first | apply Kd.R_alloc | apply Kd.R_drewN | apply Kd.R_drew)); exact Kd.R_mono HO537.out (fun _ hk => hk.2))); (case aS => exact (below_size bz)); (case aL => have := LMc3.out; omega); intro v542 w17 ho hb hg hat; rw [← Ny541.out] at ho; have n0_ := Aside0.mk (Kd.R_after (ok := (fun _ => True)) (rz HO540.out) hg hat); have n1_ := Aside0.mk (hb); have n2_ := Aside0.mk (ho); clear HO540; clear HB; clear HO537; have HO540 := n0_; have HB := n1_; have HO543 := n2_; clear n0_ n1_ n2_; clear ho hb hg hat) | ((with_reducible refine gate_callee (f := 102) rfl ?_); refine goesL_ (some 7) rfl rfl Tryz.func102 kz rfl #[.int .i64 216, .int .i64 222, .int .i64 32] rfl mz ?_; (with_reducible refine (burinref03_span.calls k 216 222 32 t544 _ A4.out).mono ?_); rintro e w19 ⟨v545, rfl, ho0, hb⟩; refine ⟨_, rfl, ?_⟩; have HO546 := Aside0.mk (Kd.R_lower (Kd.R_new' (Kd.R_new' ho0 (Kd.R_lt (rz HO540.out))) (Kd.R_lt (rz HO543.out))) (below_size bz)); replace HO540 := Aside0.mk (Kd.R_elder' (rz HO540.out) (Kd.R_base ho0) hb); replace HO543 := Aside0.mk (Kd.R_elder' (rz HO543.out) (Kd.R_base ho0) hb); replace HB := hz hb; (try clear hb); (try clear ho0); obtain ⟨Ao21, co21, eo21⟩ := Kd.R_slice HO546.out; subst eo21) | ((with_reducible refine gate_builtin (b := .append) (xs := #[.tmp 6, .tmp 7]) rfl ?_); at_builtin; refine Kd.R_append_rows k95 (w0 := w) w.heap.size rfl (.tmp 6) (.tmp 7) 92 95 (.agg #[(.int .i64 0), (.int .i64 0)]) 16 rfl Tryz.underlying92 info95 rfl (by decide) (by omega) v542 y541 t544 _ _ _ (fun k_ => some k_ ≠ (.slice Ao18 t538.length co18 : Value).ownBlock ∧ some k_ ≠ (.slice Ao21 t544.length co21 : Value).ownBlock) (fun _ => False) rfl rfl ?aO ?aR (fun _ _ h => h) (fun _ h => h.elim) ?aF ?aB ?aS ?aL ?_; (case aR => repeat (first | exact (Kd.R_reads' HO546.out).2.2 | (with_reducible refine Kd.C_alloc ?_ _) | (with_reducible refine Kd.C_drewN ?_ _) | (with_reducible refine Kd.C_drew ?_))); (case aB => exact bz); (case aF => exact (fun k_ hk => ⟨Kd.fresh' (Kd.R_lt (rz HO540.out)) k_ hk, Kd.fresh' (Kd.R_lt (rz HO546.out)) k_ hk⟩)); (case aO => exact (rz HO543.out)); (case aS => exact (below_size bz)); (case aL => have := LMc5.out; omega); intro v548 w20 ho hb hg hat; rw [← Ny547.out] at ho; have n0_ := Aside0.mk (Kd.R_after (ok := (fun k_ => some k_ ≠ (.slice Ao21 t544.length co21 : Value).ownBlock)) (by (with_reducible repeat (first | apply Kd.R_alloc | apply Kd.R_drewN | apply Kd.R_drew)); exact Kd.R_mono HO540.out (fun _ hk => ⟨hk.2, hk.1.2⟩)) hg hat); have n1_ := Aside0.mk (Kd.R_after (ok := (fun k_ => some k_ ≠ (.slice Ao18 t538.length co18 : Value).ownBlock)) (by (with_reducible repeat (first | apply Kd.R_alloc | apply Kd.R_drewN | apply Kd.R_drew)); exact Kd.R_mono HO546.out (fun _ hk => ⟨hk.1.2, hk.2⟩)) hg hat); have n2_ := Aside0.mk (hb); have n3_ := Aside0.mk (ho); clear HO540; clear HO546; clear HB; clear HO543; have HO540 := n0_; have HO546 := n1_; have HB := n2_; have HO549 := n3_; clear n0_ n1_ n2_ n3_; clear ho hb hg hat) | ((with_reducible refine gate_callee (f := 102) rfl ?_); refine goesL_ (some 10) rfl rfl Tryz.func102 kz rfl #[.int .i64 913, .int .i64 929, .int .i64 32] rfl mz ?_; (with_reducible refine (burinref03_span.calls k 913 929 32 t550 _ A6.out).mono ?_); rintro e w22 ⟨v551, rfl, ho0, hb⟩; refine ⟨_, rfl, ?_⟩; have HO552 := Aside0.mk (Kd.R_lower (Kd.R_new' (Kd.R_new' (Kd.R_new' ho0 (Kd.R_lt (rz HO540.out))) (Kd.R_lt (rz HO546.out))) (Kd.R_lt (rz HO549.out))) (below_size bz)); replace HO540 := Aside0.mk (Kd.R_elder' (rz HO540.out) (Kd.R_base ho0) hb); replace HO546 := Aside0.mk (Kd.R_elder' (rz HO546.out) (Kd.R_base ho0) hb); replace HO549 := Aside0.mk (Kd.R_elder' (rz HO549.out) (Kd.R_base ho0) hb); replace HB := hz hb; (try clear hb); (try clear ho0); obtain ⟨Ao24, co24, eo24⟩ := Kd.R_slice HO552.out; subst eo24) | ((with_reducible refine gate_builtin (b := .append) (xs := #[.tmp 9, .tmp 10]) rfl ?_); at_builtin; refine Kd.R_append_rows k95 (w0 := w) w.heap.size rfl (.tmp 9) (.tmp 10) 92 95 (.agg #[(.int .i64 0), (.int .i64 0)]) 16 rfl Tryz.underlying92 info95 rfl (by decide) (by omega) v548 y547 t550 _ _ _ (fun k_ => some k_ ≠ (.slice Ao18 t538.length co18 : Value).ownBlock ∧ some k_ ≠ (.slice Ao21 t544.length co21 : Value).ownBlock ∧ some k_ ≠ (.slice Ao24 t550.length co24 : Value).ownBlock) (fun _ => False) rfl rfl ?aO ?aR (fun _ _ h => h) (fun _ h => h.elim) ?aF ?aB ?aS ?aL ?_; (case aR => repeat (first | exact (Kd.R_reads' HO552.out).2.2 | (with_reducible refine Kd.C_alloc ?_ _) | (with_reducible refine Kd.C_drewN ?_ _) | (with_reducible refine Kd.C_drew ?_))); (case aB => exact bz); (case aF => exact (fun k_ hk => ⟨Kd.fresh' (Kd.R_lt (rz HO540.out)) k_ hk, Kd.fresh' (Kd.R_lt (rz HO546.out)) k_ hk, Kd.fresh' (Kd.R_lt (rz HO552.out)) k_ hk⟩)); (case aO => exact (by (with_reducible repeat (first | apply Kd.R_alloc | apply Kd.R_drewN | apply Kd.R_drew)); exact Kd.R_mono HO549.out (fun _ hk => ⟨hk.1.1, ⟨hk.1.2, hk.2⟩⟩))); (case aS => exact (below_size bz)); (case aL => have := LMc7.out; omega); intro v554 w23 ho hb hg hat; rw [← Ny553.out] at ho; have n0_ := Aside0.mk (Kd.R_after (ok := (fun k_ => some k_ ≠ (.slice Ao21 t544.length co21 : Value).ownBlock ∧ some k_ ≠ (.slice Ao24 t550.length co24 : Value).ownBlock)) (by (with_reducible repeat (first | apply Kd.R_alloc | apply Kd.R_drewN | apply Kd.R_drew)); exact Kd.R_mono HO540.out (fun _ hk => ⟨⟨hk.1.1, hk.2⟩, hk.1.2⟩)) hg hat); have n1_ := Aside0.mk (Kd.R_after (ok := (fun k_ => some k_ ≠ (.slice Ao18 t538.length co18 : Value).ownBlock ∧ some k_ ≠ (.slice Ao24 t550.length co24 : Value).ownBlock)) (by (with_reducible repeat (first | apply Kd.R_alloc | apply Kd.R_drewN | apply Kd.R_drew)); exact Kd.R_mono HO546.out (fun _ hk => ⟨⟨hk.1.1, hk.2⟩, hk.1.2⟩)) hg hat); have n2_ := Aside0.mk (Kd.R_after (ok := (fun k_ => some k_ ≠ (.slice Ao18 t538.length co18 : Value).ownBlock ∧ some k_ ≠ (.slice Ao21 t544.length co21 : Value).ownBlock)) (by (with_reducible repeat (first | apply Kd.R_alloc | apply Kd.R_drewN | apply Kd.R_drew)); exact Kd.R_mono HO552.out (fun _ hk => ⟨⟨hk.1.1.2, hk.1.2⟩, hk.2⟩)) hg hat); have n3_ := Aside0.mk (hb); have n4_ := Aside0.mk (ho); clear HO540; clear HO546; clear HO552; clear HB; clear HO549; have HO540 := n0_; have HO546 := n1_; have HO552 := n2_; have HB := n3_; have HO555 := n4_; clear n0_ n1_ n2_ n3_ n4_; clear ho hb hg hat) | ((with_reducible refine gate_callee (f := 102) rfl ?_); refine goesL_ (some 13) rfl rfl Tryz.func102 kz rfl #[.int .i64 931, .int .i64 939, .int .i64 32] rfl mz ?_; (with_reducible refine (burinref03_span.calls k 931 939 32 t556 _ A8.out).mono ?_); rintro e w25 ⟨v557, rfl, ho0, hb⟩; refine ⟨_, rfl, ?_⟩; have HO558 := Aside0.mk (Kd.R_lower (Kd.R_new' (Kd.R_new' (Kd.R_new' (Kd.R_new' ho0 (Kd.R_lt (rz HO540.out))) (Kd.R_lt (rz HO546.out))) (Kd.R_lt (rz HO552.out))) (Kd.R_lt (rz HO555.out))) (below_size bz)); replace HO540 := Aside0.mk (Kd.R_elder' (rz HO540.out) (Kd.R_base ho0) hb); replace HO546 := Aside0.mk (Kd.R_elder' (rz HO546.out) (Kd.R_base ho0) hb); replace HO552 := Aside0.mk (Kd.R_elder' (rz HO552.out) (Kd.R_base ho0) hb); replace HO555 := Aside0.mk (Kd.R_elder' (rz HO555.out) (Kd.R_base ho0) hb); replace HB := hz hb; (try clear hb); (try clear ho0); obtain ⟨Ao27, co27, eo27⟩ := Kd.R_slice HO558.out; subst eo27) | ((with_reducible refine gate_builtin (b := .append) (xs := #[.tmp 12, .tmp 13]) rfl ?_); at_builtin; refine Kd.R_append_rows k95 (w0 := w) w.heap.size rfl (.tmp 12) (.tmp 13) 92 95 (.agg #[(.int .i64 0), (.int .i64 0)]) 16 rfl Tryz.underlying92 info95 rfl (by decide) (by omega) v554 y553 t556 _ _ _ (fun k_ => some k_ ≠ (.slice Ao18 t538.length co18 : Value).ownBlock ∧ some k_ ≠ (.slice Ao21 t544.length co21 : Value).ownBlock ∧ some k_ ≠ (.slice Ao24 t550.length co24 : Value).ownBlock ∧ some k_ ≠ (.slice Ao27 t556.length co27 : Value).ownBlock) (fun _ => False) rfl rfl ?aO ?aR (fun _ _ h => h) (fun _ h => h.elim) ?aF ?aB ?aS ?aL ?_; (case aR => repeat (first | exact (Kd.R_reads' HO558.out).2.2 | (with_reducible refine Kd.C_alloc ?_ _) | (with_reducible refine Kd.C_drewN ?_ _) | (with_reducible refine Kd.C_drew ?_))); (case aB => exact bz); (case aF => exact (fun k_ hk => ⟨Kd.fresh' (Kd.R_lt (rz HO540.out)) k_ hk, Kd.fresh' (Kd.R_lt (rz HO546.out)) k_ hk, Kd.fresh' (Kd.R_lt (rz HO552.out)) k_ hk, Kd.fresh' (Kd.R_lt (rz HO558.out)) k_ hk⟩)); (case aO => exact (by (with_reducible repeat (first | apply Kd.R_alloc | apply Kd.R_drewN | apply Kd.R_drew)); exact Kd.R_mono HO555.out (fun _ hk => ⟨hk.1.1, ⟨hk.1.2.1, ⟨hk.1.2.2, hk.2⟩⟩⟩))); (case aS => exact (below_size bz)); (case aL => have := LMc9.out; omega); intro v560 w26 ho hb hg hat; rw [← Ny559.out] at ho; have n0_ := Aside0.mk (Kd.R_after (ok := (fun k_ => some k_ ≠ (.slice Ao21 t544.length co21 : Value).ownBlock ∧ some k_ ≠ (.slice Ao24 t550.length co24 : Value).ownBlock ∧ some k_ ≠ (.slice Ao27 t556.length co27 : Value).ownBlock)) (by (with_reducible repeat (first | apply Kd.R_alloc | apply Kd.R_drewN | apply Kd.R_drew)); exact Kd.R_mono HO540.out (fun _ hk => ⟨⟨hk.1.1.1, ⟨hk.1.1.2, hk.2⟩⟩, hk.1.2⟩)) hg hat); have n1_ := Aside0.mk (Kd.R_after (ok := (fun k_ => some k_ ≠ (.slice Ao18 t538.length co18 : Value).ownBlock ∧ some k_ ≠ (.slice Ao24 t550.length co24 : Value).ownBlock ∧ some k_ ≠ (.slice Ao27 t556.length co27 : Value).ownBlock)) (by (with_reducible repeat (first | apply Kd.R_alloc | apply Kd.R_drewN | apply Kd.R_drew)); exact Kd.R_mono HO546.out (fun _ hk => ⟨⟨hk.1.1.1, ⟨hk.1.1.2, hk.2⟩⟩, hk.1.2⟩)) hg hat); have n2_ := Aside0.mk (Kd.R_after (ok := (fun k_ => some k_ ≠ (.slice Ao18 t538.length co18 : Value).ownBlock ∧ some k_ ≠ (.slice Ao21 t544.length co21 : Value).ownBlock ∧ some k_ ≠ (.slice Ao27 t556.length co27 : Value).ownBlock)) (by (with_reducible repeat (first | apply Kd.R_alloc | apply Kd.R_drewN | apply Kd.R_drew)); exact Kd.R_mono HO552.out (fun _ hk => ⟨⟨hk.1.1.1, ⟨hk.1.1.2, hk.2⟩⟩, hk.1.2⟩)) hg hat); have n3_ := Aside0.mk (Kd.R_after (ok := (fun k_ => some k_ ≠ (.slice Ao18 t538.length co18 : Value).ownBlock ∧ some k_ ≠ (.slice Ao21 t544.length co21 : Value).ownBlock ∧ some k_ ≠ (.slice Ao24 t550.length co24 : Value).ownBlock)) (by (with_reducible repeat (first | apply Kd.R_alloc | apply Kd.R_drewN | apply Kd.R_drew)); exact Kd.R_mono HO558.out (fun _ hk => ⟨⟨hk.1.1.1.2, ⟨hk.1.1.2, hk.1.2⟩⟩, hk.2⟩)) hg hat); have n4_ := Aside0.mk (hb); have n5_ := Aside0.mk (ho); clear HO540; clear HO546; clear HO552; clear HO558; clear HB; clear HO555; have HO540 := n0_; have HO546 := n1_; have HO552 := n2_; have HO558 := n3_; have HB := n4_; have HO561 := n5_; clear n0_ n1_ n2_ n3_ n4_ n5_; clear ho hb hg hat) | ((with_reducible refine gate_callee (f := 102) rfl ?_); refine goesL_ (some 16) rfl rfl Tryz.func102 kz rfl #[.int .i64 1040, .int .i64 1071, .int .i64 32] rfl mz ?_; (with_reducible refine (burinref03_span.calls k 1040 1071 32 t562 _ A10.out).mono ?_); rintro e w28 ⟨v563, rfl, ho0, hb⟩; refine ⟨_, rfl, ?_⟩; have HO564 := Aside0.mk (Kd.R_lower (Kd.R_new' (Kd.R_new' (Kd.R_new' (Kd.R_new' (Kd.R_new' ho0 (Kd.R_lt (rz HO540.out))) (Kd.R_lt (rz HO546.out))) (Kd.R_lt (rz HO552.out))) (Kd.R_lt (rz HO558.out))) (Kd.R_lt (rz HO561.out))) (below_size bz)); replace HO540 := Aside0.mk (Kd.R_elder' (rz HO540.out) (Kd.R_base ho0) hb); replace HO546 := Aside0.mk (Kd.R_elder' (rz HO546.out) (Kd.R_base ho0) hb); replace HO552 := Aside0.mk (Kd.R_elder' (rz HO552.out) (Kd.R_base ho0) hb); replace HO558 := Aside0.mk (Kd.R_elder' (rz HO558.out) (Kd.R_base ho0) hb); replace HO561 := Aside0.mk (Kd.R_elder' (rz HO561.out) (Kd.R_base ho0) hb); replace HB := hz hb; (try clear hb); (try clear ho0); obtain ⟨Ao30, co30, eo30⟩ := Kd.R_slice HO564.out; subst eo30) | ((with_reducible refine gate_builtin (b := .append) (xs := #[.tmp 15, .tmp 16]) rfl ?_); at_builtin; refine Kd.R_append_rows k95 (w0 := w) w.heap.size rfl (.tmp 15) (.tmp 16) 92 95 (.agg #[(.int .i64 0), (.int .i64 0)]) 16 rfl Tryz.underlying92 info95 rfl (by decide) (by omega) v560 y559 t562 _ _ _ (fun k_ => some k_ ≠ (.slice Ao18 t538.length co18 : Value).ownBlock ∧ some k_ ≠ (.slice Ao21 t544.length co21 : Value).ownBlock ∧ some k_ ≠ (.slice Ao24 t550.length co24 : Value).ownBlock ∧ some k_ ≠ (.slice Ao27 t556.length co27 : Value).ownBlock ∧ some k_ ≠ (.slice Ao30 t562.length co30 : Value).ownBlock) (fun _ => False) rfl rfl ?aO ?aR (fun _ _ h => h) (fun _ h => h.elim) ?aF ?aB ?aS ?aL ?_; (case aR => repeat (first | exact (Kd.R_reads' HO564.out).2.2 | (with_reducible refine Kd.C_alloc ?_ _) | (with_reducible refine Kd.C_drewN ?_ _) | (with_reducible refine Kd.C_drew ?_))); (case aB => exact bz); (case aF => exact (fun k_ hk => ⟨Kd.fresh' (Kd.R_lt (rz HO540.out)) k_ hk, Kd.fresh' (Kd.R_lt (rz HO546.out)) k_ hk, Kd.fresh' (Kd.R_lt (rz HO552.out)) k_ hk, Kd.fresh' (Kd.R_lt (rz HO558.out)) k_ hk, Kd.fresh' (Kd.R_lt (rz HO564.out)) k_ hk⟩)); (case aO => exact (by (with_reducible repeat (first | apply Kd.R_alloc | apply Kd.R_drewN | apply Kd.R_drew)); exact Kd.R_mono HO561.out (fun _ hk => ⟨hk.1.1, ⟨hk.1.2.1, ⟨hk.1.2.2.1, ⟨hk.1.2.2.2, hk.2⟩⟩⟩⟩))); (case aS => exact (below_size bz)); (case aL => have := LMc11.out; omega); intro v566 w29 ho hb hg hat; rw [← Ny565.out] at ho; have n0_ := Aside0.mk (Kd.R_after (ok := (fun k_ => some k_ ≠ (.slice Ao21 t544.length co21 : Value).ownBlock ∧ some k_ ≠ (.slice Ao24 t550.length co24 : Value).ownBlock ∧ some k_ ≠ (.slice Ao27 t556.length co27 : Value).ownBlock ∧ some k_ ≠ (.slice Ao30 t562.length co30 : Value).ownBlock)) (by (with_reducible repeat (first | apply Kd.R_alloc | apply Kd.R_drewN | apply Kd.R_drew)); exact Kd.R_mono HO540.out (fun _ hk => ⟨⟨hk.1.1.1, ⟨hk.1.1.2.1, ⟨hk.1.1.2.2, hk.2⟩⟩⟩, hk.1.2⟩)) hg hat); have n1_ := Aside0.mk (Kd.R_after (ok := (fun k_ => some k_ ≠ (.slice Ao18 t538.length co18 : Value).ownBlock ∧ some k_ ≠ (.slice Ao24 t550.length co24 : Value).ownBlock ∧ some k_ ≠ (.slice Ao27 t556.length co27 : Value).ownBlock ∧ some k_ ≠ (.slice Ao30 t562.length co30 : Value).ownBlock)) (by (with_reducible repeat (first | apply Kd.R_alloc | apply Kd.R_drewN | apply Kd.R_drew)); exact Kd.R_mono HO546.out (fun _ hk => ⟨⟨hk.1.1.1, ⟨hk.1.1.2.1, ⟨hk.1.1.2.2, hk.2⟩⟩⟩, hk.1.2⟩)) hg hat); have n2_ := Aside0.mk (Kd.R_after (ok := (fun k_ => some k_ ≠ (.slice Ao18 t538.length co18 : Value).ownBlock ∧ some k_ ≠ (.slice Ao21 t544.length co21 : Value).ownBlock ∧ some k_ ≠ (.slice Ao27 t556.length co27 : Value).ownBlock ∧ some k_ ≠ (.slice Ao30 t562.length co30 : Value).ownBlock)) (by (with_reducible repeat (first | apply Kd.R_alloc | apply Kd.R_drewN | apply Kd.R_drew)); exact Kd.R_mono HO552.out (fun _ hk => ⟨⟨hk.1.1.1, ⟨hk.1.1.2.1, ⟨hk.1.1.2.2, hk.2⟩⟩⟩, hk.1.2⟩)) hg hat); have n3_ := Aside0.mk (Kd.R_after (ok := (fun k_ => some k_ ≠ (.slice Ao18 t538.length co18 : Value).ownBlock ∧ some k_ ≠ (.slice Ao21 t544.length co21 : Value).ownBlock ∧ some k_ ≠ (.slice Ao24 t550.length co24 : Value).ownBlock ∧ some k_ ≠ (.slice Ao30 t562.length co30 : Value).ownBlock)) (by (with_reducible repeat (first | apply Kd.R_alloc | apply Kd.R_drewN | apply Kd.R_drew)); exact Kd.R_mono HO558.out (fun _ hk => ⟨⟨hk.1.1.1, ⟨hk.1.1.2.1, ⟨hk.1.1.2.2, hk.2⟩⟩⟩, hk.1.2⟩)) hg hat); have n4_ := Aside0.mk (Kd.R_after (ok := (fun k_ => some k_ ≠ (.slice Ao18 t538.length co18 : Value).ownBlock ∧ some k_ ≠ (.slice Ao21 t544.length co21 : Value).ownBlock ∧ some k_ ≠ (.slice Ao24 t550.length co24 : Value).ownBlock ∧ some k_ ≠ (.slice Ao27 t556.length co27 : Value).ownBlock)) (by (with_reducible repeat (first | apply Kd.R_alloc | apply Kd.R_drewN | apply Kd.R_drew)); exact Kd.R_mono HO564.out (fun _ hk => ⟨⟨hk.1.1.1.1.2, ⟨hk.1.1.1.2, ⟨hk.1.1.2, hk.1.2⟩⟩⟩, hk.2⟩)) hg hat); have n5_ := Aside0.mk (hb); have n6_ := Aside0.mk (ho); clear HO540; clear HO546; clear HO552; clear HO558; clear HO564; clear HB; clear HO561; have HO540 := n0_; have HO546 := n1_; have HO552 := n2_; have HO558 := n3_; have HO564 := n4_; have HB := n5_; have HO567 := n6_; clear n0_ n1_ n2_ n3_ n4_ n5_ n6_; clear ho hb hg hat) | ((with_reducible refine gate_callee (f := 102) rfl ?_); refine goesL_ (some 19) rfl rfl Tryz.func102 kz rfl #[.int .i64 1024, .int .i64 1039, .int .i64 80] rfl mz ?_; (with_reducible refine (burinref03_span.calls k 1024 1039 80 t568 _ A12.out).mono ?_); rintro e w31 ⟨v569, rfl, ho0, hb⟩; refine ⟨_, rfl, ?_⟩; have HO570 := Aside0.mk (Kd.R_lower (Kd.R_new' (Kd.R_new' (Kd.R_new' (Kd.R_new' (Kd.R_new' (Kd.R_new' ho0 (Kd.R_lt (rz HO540.out))) (Kd.R_lt (rz HO546.out))) (Kd.R_lt (rz HO552.out))) (Kd.R_lt (rz HO558.out))) (Kd.R_lt (rz HO564.out))) (Kd.R_lt (rz HO567.out))) (below_size bz)); replace HO540 := Aside0.mk (Kd.R_elder' (rz HO540.out) (Kd.R_base ho0) hb); replace HO546 := Aside0.mk (Kd.R_elder' (rz HO546.out) (Kd.R_base ho0) hb); replace HO552 := Aside0.mk (Kd.R_elder' (rz HO552.out) (Kd.R_base ho0) hb); replace HO558 := Aside0.mk (Kd.R_elder' (rz HO558.out) (Kd.R_base ho0) hb); replace HO564 := Aside0.mk (Kd.R_elder' (rz HO564.out) (Kd.R_base ho0) hb); replace HO567 := Aside0.mk (Kd.R_elder' (rz HO567.out) (Kd.R_base ho0) hb); replace HB := hz hb; (try clear hb); (try clear ho0); obtain ⟨Ao33, co33, eo33⟩ := Kd.R_slice HO570.out; subst eo33) | ((with_reducible refine gate_builtin (b := .append) (xs := #[.tmp 18, .tmp 19]) rfl ?_); at_builtin; refine Kd.R_append_rows k95 (w0 := w) w.heap.size rfl (.tmp 18) (.tmp 19) 92 95 (.agg #[(.int .i64 0), (.int .i64 0)]) 16 rfl Tryz.underlying92 info95 rfl (by decide) (by omega) v566 y565 t568 _ _ _ (fun k_ => some k_ ≠ (.slice Ao18 t538.length co18 : Value).ownBlock ∧ some k_ ≠ (.slice Ao21 t544.length co21 : Value).ownBlock ∧ some k_ ≠ (.slice Ao24 t550.length co24 : Value).ownBlock ∧ some k_ ≠ (.slice Ao27 t556.length co27 : Value).ownBlock ∧ some k_ ≠ (.slice Ao30 t562.length co30 : Value).ownBlock ∧ some k_ ≠ (.slice Ao33 t568.length co33 : Value).ownBlock) (fun _ => False) rfl rfl ?aO ?aR (fun _ _ h => h) (fun _ h => h.elim) ?aF ?aB ?aS ?aL ?_; (case aR => repeat (first | exact (Kd.R_reads' HO570.out).2.2 | (with_reducible refine Kd.C_alloc ?_ _) | (with_reducible refine Kd.C_drewN ?_ _) | (with_reducible refine Kd.C_drew ?_))); (case aB => exact bz); (case aF => exact (fun k_ hk => ⟨Kd.fresh' (Kd.R_lt (rz HO540.out)) k_ hk, Kd.fresh' (Kd.R_lt (rz HO546.out)) k_ hk, Kd.fresh' (Kd.R_lt (rz HO552.out)) k_ hk, Kd.fresh' (Kd.R_lt (rz HO558.out)) k_ hk, Kd.fresh' (Kd.R_lt (rz HO564.out)) k_ hk, Kd.fresh' (Kd.R_lt (rz HO570.out)) k_ hk⟩)); (case aO => exact (by (with_reducible repeat (first | apply Kd.R_alloc | apply Kd.R_drewN | apply Kd.R_drew)); exact Kd.R_mono HO567.out (fun _ hk => ⟨hk.1.1, ⟨hk.1.2.1, ⟨hk.1.2.2.1, ⟨hk.1.2.2.2.1, ⟨hk.1.2.2.2.2, hk.2⟩⟩⟩⟩⟩))); (case aS => exact (below_size bz)); (case aL => have := LMc13.out; omega); intro v572 w32 ho hb hg hat; rw [← Ny571.out] at ho; have n0_ := Aside0.mk (Kd.R_after (ok := (fun k_ => some k_ ≠ (.slice Ao21 t544.length co21 : Value).ownBlock ∧ some k_ ≠ (.slice Ao24 t550.length co24 : Value).ownBlock ∧ some k_ ≠ (.slice Ao27 t556.length co27 : Value).ownBlock ∧ some k_ ≠ (.slice Ao30 t562.length co30 : Value).ownBlock ∧ some k_ ≠ (.slice Ao33 t568.length co33 : Value).ownBlock)) (by (with_reducible repeat (first | apply Kd.R_alloc | apply Kd.R_drewN | apply Kd.R_drew)); exact Kd.R_mono HO540.out (fun _ hk => ⟨⟨hk.1.1.1, ⟨hk.1.1.2.1, ⟨hk.1.1.2.2.1, ⟨hk.1.1.2.2.2, hk.2⟩⟩⟩⟩, hk.1.2⟩)) hg hat); have n1_ := Aside0.mk (Kd.R_after (ok := (fun k_ => some k_ ≠ (.slice Ao18 t538.length co18 : Value).ownBlock ∧ some k_ ≠ (.slice Ao24 t550.length co24 : Value).ownBlock ∧ some k_ ≠ (.slice Ao27 t556.length co27 : Value).ownBlock ∧ some k_ ≠ (.slice Ao30 t562.length co30 : Value).ownBlock ∧ some k_ ≠ (.slice Ao33 t568.length co33 : Value).ownBlock)) (by (with_reducible repeat (first | apply Kd.R_alloc | apply Kd.R_drewN | apply Kd.R_drew)); exact Kd.R_mono HO546.out (fun _ hk => ⟨⟨hk.1.1.1, ⟨hk.1.1.2.1, ⟨hk.1.1.2.2.1, ⟨hk.1.1.2.2.2, hk.2⟩⟩⟩⟩, hk.1.2⟩)) hg hat); have n2_ := Aside0.mk (Kd.R_after (ok := (fun k_ => some k_ ≠ (.slice Ao18 t538.length co18 : Value).ownBlock ∧ some k_ ≠ (.slice Ao21 t544.length co21 : Value).ownBlock ∧ some k_ ≠ (.slice Ao27 t556.length co27 : Value).ownBlock ∧ some k_ ≠ (.slice Ao30 t562.length co30 : Value).ownBlock ∧ some k_ ≠ (.slice Ao33 t568.length co33 : Value).ownBlock)) (by (with_reducible repeat (first | apply Kd.R_alloc | apply Kd.R_drewN | apply Kd.R_drew)); exact Kd.R_mono HO552.out (fun _ hk => ⟨⟨hk.1.1.1, ⟨hk.1.1.2.1, ⟨hk.1.1.2.2.1, ⟨hk.1.1.2.2.2, hk.2⟩⟩⟩⟩, hk.1.2⟩)) hg hat); have n3_ := Aside0.mk (Kd.R_after (ok := (fun k_ => some k_ ≠ (.slice Ao18 t538.length co18 : Value).ownBlock ∧ some k_ ≠ (.slice Ao21 t544.length co21 : Value).ownBlock ∧ some k_ ≠ (.slice Ao24 t550.length co24 : Value).ownBlock ∧ some k_ ≠ (.slice Ao30 t562.length co30 : Value).ownBlock ∧ some k_ ≠ (.slice Ao33 t568.length co33 : Value).ownBlock)) (by (with_reducible repeat (first | apply Kd.R_alloc | apply Kd.R_drewN | apply Kd.R_drew)); exact Kd.R_mono HO558.out (fun _ hk => ⟨⟨hk.1.1.1, ⟨hk.1.1.2.1, ⟨hk.1.1.2.2.1, ⟨hk.1.1.2.2.2, hk.2⟩⟩⟩⟩, hk.1.2⟩)) hg hat); have n4_ := Aside0.mk (Kd.R_after (ok := (fun k_ => some k_ ≠ (.slice Ao18 t538.length co18 : Value).ownBlock ∧ some k_ ≠ (.slice Ao21 t544.length co21 : Value).ownBlock ∧ some k_ ≠ (.slice Ao24 t550.length co24 : Value).ownBlock ∧ some k_ ≠ (.slice Ao27 t556.length co27 : Value).ownBlock ∧ some k_ ≠ (.slice Ao33 t568.length co33 : Value).ownBlock)) (by (with_reducible repeat (first | apply Kd.R_alloc | apply Kd.R_drewN | apply Kd.R_drew)); exact Kd.R_mono HO564.out (fun _ hk => ⟨⟨hk.1.1.1, ⟨hk.1.1.2.1, ⟨hk.1.1.2.2.1, ⟨hk.1.1.2.2.2, hk.2⟩⟩⟩⟩, hk.1.2⟩)) hg hat); have n5_ := Aside0.mk (Kd.R_after (ok := (fun k_ => some k_ ≠ (.slice Ao18 t538.length co18 : Value).ownBlock ∧ some k_ ≠ (.slice Ao21 t544.length co21 : Value).ownBlock ∧ some k_ ≠ (.slice Ao24 t550.length co24 : Value).ownBlock ∧ some k_ ≠ (.slice Ao27 t556.length co27 : Value).ownBlock ∧ some k_ ≠ (.slice Ao30 t562.length co30 : Value).ownBlock)) (by (with_reducible repeat (first | apply Kd.R_alloc | apply Kd.R_drewN | apply Kd.R_drew)); exact Kd.R_mono HO570.out (fun _ hk => ⟨⟨hk.1.1.1.1.1.2, ⟨hk.1.1.1.1.2, ⟨hk.1.1.1.2, ⟨hk.1.1.2, hk.1.2⟩⟩⟩⟩, hk.2⟩)) hg hat); have n6_ := Aside0.mk (hb); have n7_ := Aside0.mk (ho); clear HO540; clear HO546; clear HO552; clear HO558; clear HO564; clear HO570; clear HB; clear HO567; have HO540 := n0_; have HO546 := n1_; have HO552 := n2_; have HO558 := n3_; have HO564 := n4_; have HO570 := n5_; have HB := n6_; have HO573 := n7_; clear n0_ n1_ n2_ n3_ n4_ n5_ n6_ n7_; clear ho hb hg hat) | ((with_reducible refine gate_dst (N := 29) rfl ?_); refine Kd.R_lit k95 _ 95 ?hg (N := 29) ?hd (xs := ([(⟨376, 255⟩ : S95), (⟨924, 181⟩ : S95), (⟨931, 962⟩ : S95), (⟨75, 8490⟩ : S95), (⟨197, 8491⟩ : S95), (⟨83, 383⟩ : S95), (⟨937, 8486⟩ : S95)] : List (S95))) (inner := [.int .i64 376, .int .i64 255, .int .i64 924, .int .i64 181, .int .i64 931, .int .i64 962, .int .i64 75, .int .i64 8490, .int .i64 197, .int .i64 8491, .int .i64 83, .int .i64 383, .int .i64 937, .int .i64 8486]) (ok := fun _ => True) (okp := fun _ => True) ?hr ?hp (fun _ hk => hk) trivial (Below.refl _ _) (Nat.le_refl _) (by simp) ?_; (case hd => rfl); (case hg => rfl); (case hr => first | (go_simp; done) | (go_simp; rfl)); (case hp => exact (Reps.c2 (k95_mkM _ _ _ _) (Reps.c2 (k95_mkM _ _ _ _) (Reps.c2 (k95_mkM _ _ _ _) (Reps.c2 (k95_mkM _ _ _ _) (Reps.c2 (k95_mkM _ _ _ _) (Reps.c2 (k95_mkM _ _ _ _) (Reps.c2 (k95_mkM _ _ _ _) (Reps.none _ _))))))))); intro v575 w34 ho35 hb hg_ hnew_; clear hg_ hnew_; (first | rw [← Ny574.out] at ho35 | (simp only [Int.reduceToNat] at ho35; rw [← Ny574.out] at ho35)); have HO576 := Aside0.mk (Kd.R_lower (Kd.R_new' (Kd.R_new' (Kd.R_new' (Kd.R_new' (Kd.R_new' (Kd.R_new' (Kd.R_new' ho35 (Kd.R_lt (rz HO540.out))) (Kd.R_lt (rz HO546.out))) (Kd.R_lt (rz HO552.out))) (Kd.R_lt (rz HO558.out))) (Kd.R_lt (rz HO564.out))) (Kd.R_lt (rz HO570.out))) (Kd.R_lt (rz HO573.out))) (below_size bz)); replace HO540 := Aside0.mk (Kd.R_elder' (rz HO540.out) (Kd.R_base ho35) hb); replace HO546 := Aside0.mk (Kd.R_elder' (rz HO546.out) (Kd.R_base ho35) hb); replace HO552 := Aside0.mk (Kd.R_elder' (rz HO552.out) (Kd.R_base ho35) hb); replace HO558 := Aside0.mk (Kd.R_elder' (rz HO558.out) (Kd.R_base ho35) hb); replace HO564 := Aside0.mk (Kd.R_elder' (rz HO564.out) (Kd.R_base ho35) hb); replace HO570 := Aside0.mk (Kd.R_elder' (rz HO570.out) (Kd.R_base ho35) hb); replace HO573 := Aside0.mk (Kd.R_elder' (rz HO573.out) (Kd.R_base ho35) hb); replace HB := hz hb; clear hb ho35; obtain ⟨Ao37, co37, eo37⟩ := Kd.R_slice HO576.out; subst eo37) | ((with_reducible refine gate_builtin (b := .append) (xs := #[.tmp 21, .tmp 29]) rfl ?_); at_builtin; refine Kd.R_append_rows k95 (w0 := w) w.heap.size rfl (.tmp 21) (.tmp 29) 92 95 (.agg #[(.int .i64 0), (.int .i64 0)]) 16 rfl Tryz.underlying92 info95 rfl (by decide) (by omega) v572 y571 y574 _ _ _ (fun k_ => some k_ ≠ (.slice Ao18 t538.length co18 : Value).ownBlock ∧ some k_ ≠ (.slice Ao21 t544.length co21 : Value).ownBlock ∧ some k_ ≠ (.slice Ao24 t550.length co24 : Value).ownBlock ∧ some k_ ≠ (.slice Ao27 t556.length co27 : Value).ownBlock ∧ some k_ ≠ (.slice Ao30 t562.length co30 : Value).ownBlock ∧ some k_ ≠ (.slice Ao33 t568.length co33 : Value).ownBlock ∧ some k_ ≠ (.slice Ao37 y574.length co37 : Value).ownBlock) (fun _ => False) rfl rfl ?aO ?aR (fun _ _ h => h) (fun _ h => h.elim) ?aF ?aB ?aS ?aL ?_; (case aR => repeat (first | exact (Kd.R_reads' HO576.out).2.2 | (with_reducible refine Kd.C_alloc ?_ _) | (with_reducible refine Kd.C_drewN ?_ _) | (with_reducible refine Kd.C_drew ?_))); (case aB => exact bz); (case aF => exact (fun k_ hk => ⟨Kd.fresh' (Kd.R_lt (rz HO540.out)) k_ hk, Kd.fresh' (Kd.R_lt (rz HO546.out)) k_ hk, Kd.fresh' (Kd.R_lt (rz HO552.out)) k_ hk, Kd.fresh' (Kd.R_lt (rz HO558.out)) k_ hk, Kd.fresh' (Kd.R_lt (rz HO564.out)) k_ hk, Kd.fresh' (Kd.R_lt (rz HO570.out)) k_ hk, Kd.fresh' (Kd.R_lt (rz HO576.out)) k_ hk⟩)); (case aO => exact (by (with_reducible repeat (first | apply Kd.R_alloc | apply Kd.R_drewN | apply Kd.R_drew)); exact Kd.R_mono HO573.out (fun _ hk => ⟨hk.1.1, ⟨hk.1.2.1, ⟨hk.1.2.2.1, ⟨hk.1.2.2.2.1, ⟨hk.1.2.2.2.2.1, ⟨hk.1.2.2.2.2.2, hk.2⟩⟩⟩⟩⟩⟩))); (case aS => exact (below_size bz)); (case aL => have := LMc14.out; omega); intro v578 w36 ho hb hg hat; rw [← Ny577.out] at ho; have n0_ := Aside0.mk (Kd.R_after (ok := (fun k_ => some k_ ≠ (.slice Ao21 t544.length co21 : Value).ownBlock ∧ some k_ ≠ (.slice Ao24 t550.length co24 : Value).ownBlock ∧ some k_ ≠ (.slice Ao27 t556.length co27 : Value).ownBlock ∧ some k_ ≠ (.slice Ao30 t562.length co30 : Value).ownBlock ∧ some k_ ≠ (.slice Ao33 t568.length co33 : Value).ownBlock ∧ some k_ ≠ (.slice Ao37 y574.length co37 : Value).ownBlock)) (by (with_reducible repeat (first | apply Kd.R_alloc | apply Kd.R_drewN | apply Kd.R_drew)); exact Kd.R_mono HO540.out (fun _ hk => ⟨⟨hk.1.1.1, ⟨hk.1.1.2.1, ⟨hk.1.1.2.2.1, ⟨hk.1.1.2.2.2.1, ⟨hk.1.1.2.2.2.2, hk.2⟩⟩⟩⟩⟩, hk.1.2⟩)) hg hat); have n1_ := Aside0.mk (Kd.R_after (ok := (fun k_ => some k_ ≠ (.slice Ao18 t538.length co18 : Value).ownBlock ∧ some k_ ≠ (.slice Ao24 t550.length co24 : Value).ownBlock ∧ some k_ ≠ (.slice Ao27 t556.length co27 : Value).ownBlock ∧ some k_ ≠ (.slice Ao30 t562.length co30 : Value).ownBlock ∧ some k_ ≠ (.slice Ao33 t568.length co33 : Value).ownBlock ∧ some k_ ≠ (.slice Ao37 y574.length co37 : Value).ownBlock)) (by (with_reducible repeat (first | apply Kd.R_alloc | apply Kd.R_drewN | apply Kd.R_drew)); exact Kd.R_mono HO546.out (fun _ hk => ⟨⟨hk.1.1.1, ⟨hk.1.1.2.1, ⟨hk.1.1.2.2.1, ⟨hk.1.1.2.2.2.1, ⟨hk.1.1.2.2.2.2, hk.2⟩⟩⟩⟩⟩, hk.1.2⟩)) hg hat); have n2_ := Aside0.mk (Kd.R_after (ok := (fun k_ => some k_ ≠ (.slice Ao18 t538.length co18 : Value).ownBlock ∧ some k_ ≠ (.slice Ao21 t544.length co21 : Value).ownBlock ∧ some k_ ≠ (.slice Ao27 t556.length co27 : Value).ownBlock ∧ some k_ ≠ (.slice Ao30 t562.length co30 : Value).ownBlock ∧ some k_ ≠ (.slice Ao33 t568.length co33 : Value).ownBlock ∧ some k_ ≠ (.slice Ao37 y574.length co37 : Value).ownBlock)) (by (with_reducible repeat (first | apply Kd.R_alloc | apply Kd.R_drewN | apply Kd.R_drew)); exact Kd.R_mono HO552.out (fun _ hk => ⟨⟨hk.1.1.1, ⟨hk.1.1.2.1, ⟨hk.1.1.2.2.1, ⟨hk.1.1.2.2.2.1, ⟨hk.1.1.2.2.2.2, hk.2⟩⟩⟩⟩⟩, hk.1.2⟩)) hg hat); have n3_ := Aside0.mk (Kd.R_after (ok := (fun k_ => some k_ ≠ (.slice Ao18 t538.length co18 : Value).ownBlock ∧ some k_ ≠ (.slice Ao21 t544.length co21 : Value).ownBlock ∧ some k_ ≠ (.slice Ao24 t550.length co24 : Value).ownBlock ∧ some k_ ≠ (.slice Ao30 t562.length co30 : Value).ownBlock ∧ some k_ ≠ (.slice Ao33 t568.length co33 : Value).ownBlock ∧ some k_ ≠ (.slice Ao37 y574.length co37 : Value).ownBlock)) (by (with_reducible repeat (first | apply Kd.R_alloc | apply Kd.R_drewN | apply Kd.R_drew)); exact Kd.R_mono HO558.out (fun _ hk => ⟨⟨hk.1.1.1, ⟨hk.1.1.2.1, ⟨hk.1.1.2.2.1, ⟨hk.1.1.2.2.2.1, ⟨hk.1.1.2.2.2.2, hk.2⟩⟩⟩⟩⟩, hk.1.2⟩)) hg hat); have n4_ := Aside0.mk (Kd.R_after (ok := (fun k_ => some k_ ≠ (.slice Ao18 t538.length co18 : Value).ownBlock ∧ some k_ ≠ (.slice Ao21 t544.length co21 : Value).ownBlock ∧ some k_ ≠ (.slice Ao24 t550.length co24 : Value).ownBlock ∧ some k_ ≠ (.slice Ao27 t556.length co27 : Value).ownBlock ∧ some k_ ≠ (.slice Ao33 t568.length co33 : Value).ownBlock ∧ some k_ ≠ (.slice Ao37 y574.length co37 : Value).ownBlock)) (by (with_reducible repeat (first | apply Kd.R_alloc | apply Kd.R_drewN | apply Kd.R_drew)); exact Kd.R_mono HO564.out (fun _ hk => ⟨⟨hk.1.1.1, ⟨hk.1.1.2.1, ⟨hk.1.1.2.2.1, ⟨hk.1.1.2.2.2.1, ⟨hk.1.1.2.2.2.2, hk.2⟩⟩⟩⟩⟩, hk.1.2⟩)) hg hat); have n5_ := Aside0.mk (Kd.R_after (ok := (fun k_ => some k_ ≠ (.slice Ao18 t538.length co18 : Value).ownBlock ∧ some k_ ≠ (.slice Ao21 t544.length co21 : Value).ownBlock ∧ some k_ ≠ (.slice Ao24 t550.length co24 : Value).ownBlock ∧ some k_ ≠ (.slice Ao27 t556.length co27 : Value).ownBlock ∧ some k_ ≠ (.slice Ao30 t562.length co30 : Value).ownBlock ∧ some k_ ≠ (.slice Ao37 y574.length co37 : Value).ownBlock)) (by (with_reducible repeat (first | apply Kd.R_alloc | apply Kd.R_drewN | apply Kd.R_drew)); exact Kd.R_mono HO570.out (fun _ hk => ⟨⟨hk.1.1.1, ⟨hk.1.1.2.1, ⟨hk.1.1.2.2.1, ⟨hk.1.1.2.2.2.1, ⟨hk.1.1.2.2.2.2, hk.2⟩⟩⟩⟩⟩, hk.1.2⟩)) hg hat); have n6_ := Aside0.mk (Kd.R_after (ok := (fun k_ => some k_ ≠ (.slice Ao18 t538.length co18 : Value).ownBlock ∧ some k_ ≠ (.slice Ao21 t544.length co21 : Value).ownBlock ∧ some k_ ≠ (.slice Ao24 t550.length co24 : Value).ownBlock ∧ some k_ ≠ (.slice Ao27 t556.length co27 : Value).ownBlock ∧ some k_ ≠ (.slice Ao30 t562.length co30 : Value).ownBlock ∧ some k_ ≠ (.slice Ao33 t568.length co33 : Value).ownBlock)) (by (with_reducible repeat (first | apply Kd.R_alloc | apply Kd.R_drewN | apply Kd.R_drew)); exact Kd.R_mono HO576.out (fun _ hk => ⟨⟨hk.1.1.1.1.1.1.2, ⟨hk.1.1.1.1.1.2, ⟨hk.1.1.1.1.2, ⟨hk.1.1.1.2, ⟨hk.1.1.2, hk.1.2⟩⟩⟩⟩⟩, hk.2⟩)) hg hat); have n7_ := Aside0.mk (hb); have n8_ := Aside0.mk (ho); clear HO540; clear HO546; clear HO552; clear HO558; clear HO564; clear HO570; clear HO576; clear HB; clear HO573; have HO540 := n0_; have HO546 := n1_; have HO552 := n2_; have HO558 := n3_; have HO564 := n4_; have HO570 := n5_; have HO576 := n6_; have HB := n7_; have HO579 := n8_; clear n0_ n1_ n2_ n3_ n4_ n5_ n6_ n7_ n8_; clear ho hb hg hat))
 go_ret
 exact ⟨_, fz, rz (R_all HO579.out), bz⟩
def burinref03_joined.l0 : Nat → List Int → Int → Int → Option (Bool)
 | 0, _, _, _ => none
 | k + 1, x0, x1, x5 => if x5 < (x0.length : Int) then (if 0 ≤ x5 then (if (rd x0 x5) = x1 then (some true) else (burinref03_joined.l0 k x0 x1 (wrap64 (x5 + 1)))) else (none)) else (some false)
def burinref03_joined.f (k : Nat) (l0 : List Int) (a1 : Int) : Option (Bool) := burinref03_joined.l0 k l0 a1 0
set_option maxHeartbeats 8000000 in
set_option maxRecDepth 100000 in
theorem burinref03_joined.calls (k : Nat) (A0 : Option Addr) (c0 : Nat) (l0 : List Int) (a1 : Int) (r : Bool) (w : World) (hr0 : Kd.C (Kd.int .i64) w A0 l0.length l0) (hc0 : l0.length ≤ c0) (h : burinref03_joined.f k l0 a1 = some r) :
  Calls Tryz.prog 103 #[.slice A0 l0.length c0, .int .i64 a1] w fun e w' => e = .returned (.bool r) ∧ Drawn0 w w' := by
 have HR0 := Aside0.mk hr0
 have HC0 := Aside0.mk hc0
 clear hr0 hc0
 have H : (burinref03_joined.l0 k l0 a1 0) = some r := h
 clear h
 have H' := Aside0.mk H
 clear H
 go_enter Tryz.func103, Tryz.ntmps103
 go_wp2
 go_loopg [5] k (fun kq v5 w' => ∃ (x5_1 : Int), v5 = .int .i64 x5_1 ∧ Aside0 (burinref03_joined.l0 kq l0 a1 x5_1 = some r) ∧ Aside0 (kq ≤ k) ∧ Drawn0 w w')
 case atStart => exact ⟨(0), ez, H', ⟨Nat.le_refl _⟩, dz⟩
 clear H'
 try clear c1
 try clear p2
 obtain ⟨x5_1, rfl, HA, HK1, ⟨m1, rfl⟩⟩ := hrel
 cases gk with
 | zero => exact absurd HA.out (by simp [burinref03_joined.l0])
 | succ k1 =>
  have H := HA.out
  clear HA
  simp only [burinref03_joined.l0] at H
  by_cases c3 : x5_1 < (l0.length : Int)
  ·rw [if_pos c3] at H
   have c3b0 := decide_eq_true c3
   clear c3
   by_cases c4 : 0 ≤ x5_1
   rotate_left
   ·exact nomatch (if_neg c4).symm.trans H
   rw [if_pos c4] at H
   have c4b0 := decide_eq_true c4
   clear c4
   by_cases c5 : (rd l0 x5_1) = a1
   ·rw [if_pos c5] at H
    have c5b0 := beq_iff_eq.mpr c5
    have c5b1 := bne_eq_false_iff_eq.mpr c5
    clear c5
    obtain rfl := Option.some.inj H
    have p580 : 0 ≤ (x5_1 : Int) := oz
    have q580 : x5_1 < (l0.length : Int) := oz
    obtain ⟨ad580, e580, hx580_0⟩ := Kd.at_int HR0.out x5_1 p580 q580
    cases e580
    replace p580 := eq_true p580
    replace q580 := eq_true q580
    go_wp2
    go_ret
    exact ⟨ez, dz⟩
   rw [if_neg c5] at H
   have c5b0 := beq_eq_false_iff_ne.mpr c5
   have c5b1 := bne_iff_ne.mpr c5
   have H' := Aside0.mk H
   clear H
   have p580 : 0 ≤ (x5_1 : Int) := oz
   have q580 : x5_1 < (l0.length : Int) := oz
   obtain ⟨ad580, e580, hx580_0⟩ := Kd.at_int HR0.out x5_1 p580 q580
   cases e580
   replace p580 := eq_true p580
   replace q580 := eq_true q580
   go_wp2
   go_roundg k1
   case measure => have := HK1.out; omega
   case rel => exact ⟨(wrap64 (x5_1 + 1)), ez, H', ⟨by have := HK1.out; omega⟩, dz⟩
  rw [if_neg c3] at H
  have c3b0 := decide_eq_false c3
  clear c3
  obtain rfl := Option.some.inj H
  go_wp2
  go_ret
  exact ⟨ez, dz⟩
def burinref03_with.l0 : Nat → List Int → Int → List Int → Int → Option (List Int)
 | 0, _, _, _, _ => none
 | k + 1, x0, x1, x5, x6 => if x6 < (x0.length : Int) then (if 0 ≤ x6 then (if (rd x0 x6) < x1 then (if x5.length < 17592186044416 then (burinref03_with.l0 k x0 x1 (x5 ++ [rd x0 x6]) (wrap64 (x6 + 1))) else (none)) else (if x5.length < 17592186044416 then ((some (x5 ++ [x1] : List Int)).bind fun y587 => (if x6 ≤ (x0.length : Int) then ((some (x0.drop (x6 : Int).toNat : List Int)).bind fun y590 => (if y587.length + y590.length < 17592186044416 then (some (y587 ++ y590)) else (none))) else (none))) else (none))) else (none)) else (if x5.length < 17592186044416 then ((some (x5 ++ [x1] : List Int)).bind fun y597 => (if 0 ≤ x6 then (if x6 ≤ (x0.length : Int) then ((some (x0.drop (x6 : Int).toNat : List Int)).bind fun y600 => (if y597.length + y600.length < 17592186044416 then (some (y597 ++ y600)) else (none))) else (none)) else (none))) else (none))
def burinref03_with.f (k : Nat) (l0 : List Int) (a1 : Int) : Option (List Int) := (burinref03_joined.f k l0 a1).bind fun t581 => (if t581 = true then (some l0) else (burinref03_with.l0 k l0 a1 ([] : List Int) 0))
set_option maxHeartbeats 8000000 in
set_option maxRecDepth 100000 in
theorem burinref03_with.calls (k : Nat) (P0_ : Nat → Prop) (u9000_ : Value) (l0 : List Int) (a1 : Int) (r : List Int) (w0 w : World) (hB : Below w0.heap.size w0 w) (ho0 : Kd.R (Kd.int .i64) 3 w w0.heap.size P0_ u9000_ l0) (h : burinref03_with.f k l0 a1 = some r) :
  Calls Tryz.prog 104 #[u9000_, .int .i64 a1] w fun e w' => ∃ v0_ : Value, e = .returned (v0_) ∧ Kd.R (Kd.int .i64) 3 w' w0.heap.size (fun k_ => (P0_ k_ ∨ w.heap.size ≤ k_)) v0_ r ∧ Below w0.heap.size w0 w' ∧ Kept w w' (fun k_ => P0_ k_) := by
 have HO0 := Aside0.mk (show Kd.R (Kd.int .i64) 3 w w0.heap.size (fun k_ => (P0_ k_ ∨ w.heap.size ≤ k_)) u9000_ l0 from Kd.R_mono ho0 (fun k_ hk => (.inl hk)))
 have HK := Aside0.mk (Kept.refl w (fun k_ => P0_ k_))
 have HW0 := Aside0.mk hB.size
 have HB := Aside0.mk hB
 clear hB
 have H : ((burinref03_joined.f k l0 a1).bind fun t581 => (if t581 = true then (some l0) else (burinref03_with.l0 k l0 a1 ([] : List Int) 0))) = some r := h
 clear h
 replace H := Option.bind_eq_some_iff.mp H
 obtain ⟨t581, A30, H⟩ := H
 try dsimp only at H
 have A3 := Aside0.mk A30
 clear A30
 by_cases c4 : t581 = true
 ·subst c4
  rw [if_pos rfl] at H
  obtain rfl := Option.some.inj H
  obtain ⟨Ao5, co5, eo5⟩ := Kd.R_slice HO0.out
  subst eo5
  go_enter Tryz.func104, Tryz.ntmps104
  go_wp2_with (first | ((with_reducible refine gate_callee (f := 103) rfl ?_); refine goesL_ (some 9) rfl rfl Tryz.func103 kz rfl #[.slice Ao5 l0.length co5, .int .i64 a1] rfl mz ?_; (with_reducible refine (burinref03_joined.calls k _ _ l0 a1 true _ ?side1 ?side2 A3.out).mono ?_); (case side1 => exact cz (Kd.R_reads' HO0.out).2.2); (case side2 => exact (Kd.R_reads' HO0.out).2.1); rintro e w' ⟨rfl, ⟨nd, rfl⟩⟩; refine ⟨_, rfl, ?_⟩))
  go_ret
  exact ⟨_, fz, rz HO0.out, bz, by repeat (first | (with_reducible first | exact HK.out | apply Kept.alloc | apply Kept.drewN | apply Kept.drew) | exact HK.out)⟩
 replace c4 := Bool.eq_false_iff.mpr c4
 subst c4
 rw [if_neg (show ¬ (false = true) by decide)] at H
 have H' := Aside0.mk H
 clear H
 obtain ⟨Ao6, co6, eo6⟩ := Kd.R_slice HO0.out
 subst eo6
 go_enter Tryz.func104, Tryz.ntmps104
 go_wp2_with (first | ((with_reducible refine gate_callee (f := 103) rfl ?_); refine goesL_ (some 9) rfl rfl Tryz.func103 kz rfl #[.slice Ao6 l0.length co6, .int .i64 a1] rfl mz ?_; (with_reducible refine (burinref03_joined.calls k _ _ l0 a1 false _ ?side1 ?side2 A3.out).mono ?_); (case side1 => exact cz (Kd.R_reads' HO0.out).2.2); (case side2 => exact (Kd.R_reads' HO0.out).2.1); rintro e w' ⟨rfl, ⟨nd, rfl⟩⟩; refine ⟨_, rfl, ?_⟩))
 go_loopg [5, 6] k (fun kq v5 v6 w' => ∃ (x5_1 : List Int) (x6_1 : Int), v6 = .int .i64 x6_1 ∧ Aside0 (burinref03_with.l0 kq l0 a1 x5_1 x6_1 = some r) ∧ Aside0 (kq ≤ k) ∧ Aside0 (Kd.R (Kd.int .i64) 3 w' w0.heap.size (fun k_ => (P0_ k_ ∨ w.heap.size ≤ k_) ∧ some k_ ≠ (v5 : Value).ownBlock) (.slice Ao6 l0.length co6) l0) ∧ Aside0 (Kd.R (Kd.int .i64) 3 w' w0.heap.size (fun k_ => (P0_ k_ ∨ w.heap.size ≤ k_) ∧ some k_ ≠ ((.slice Ao6 l0.length co6) : Value).ownBlock) v5 x5_1) ∧ Aside0 (Kept w w' (fun k_ => P0_ k_)) ∧ Aside0 (Below w0.heap.size w0 w'))
 case atStart => exact ⟨(([] : List Int)), (0), ez, H', ⟨Nat.le_refl _⟩, ⟨by (with_reducible repeat (first | apply Kd.R_alloc | apply Kd.R_drewN | apply Kd.R_drew)); exact Kd.R_mono HO0.out (fun _ hk => ⟨hk, (by simp [Value.ownBlock])⟩)⟩, ⟨by first | exact Kd.R_nil _ _ _ _ _ | exact Kd.N_nil _ _ _ _ _ | exact Kd.V_nil _ _ _ _ _ | exact Kd.Q_nil _ _ _ _ _ | exact Kd.S_nil _ _ _ _ _⟩, ⟨by repeat (first | (with_reducible first | exact HK.out | apply Kept.alloc | apply Kept.drewN | apply Kept.drew) | exact HK.out)⟩, ⟨bz⟩⟩
 clear H'
 try clear c1
 try clear p2
 try clear c4
 obtain ⟨x5_1, x6_1, rfl, HA, HK1, HO_0, HO_5, HK, HB⟩ := hrel
 cases gk with
 | zero => exact absurd HA.out (by simp [burinref03_with.l0])
 | succ k1 =>
  have H := HA.out
  clear HA
  simp only [burinref03_with.l0] at H
  by_cases c7 : x6_1 < (l0.length : Int)
  ·rw [if_pos c7] at H
   have c7b0 := decide_eq_true c7
   clear c7
   by_cases c8 : 0 ≤ x6_1
   rotate_left
   ·exact nomatch (if_neg c8).symm.trans H
   rw [if_pos c8] at H
   have c8b0 := decide_eq_true c8
   clear c8
   by_cases c9 : (rd l0 x6_1) < a1
   ·rw [if_pos c9] at H
    have c9b0 := decide_eq_true c9
    clear c9
    by_cases c10 : x5_1.length < 17592186044416
    rotate_left
    ·exact nomatch (if_neg c10).symm.trans H
    rw [if_pos c10] at H
    have LMc10 := Aside0.mk c10
    clear c10
    obtain ⟨y584, hy584⟩ : ∃ y_ : List Int, y_ = (x5_1 ++ [rd l0 x6_1]) := ⟨_, rfl⟩
    replace H : (burinref03_with.l0 k1 l0 a1 y584 (wrap64 (x6_1 + 1))) = some r := by first | (rw [hy584]; with_reducible exact H) | (have H2_ := (Option.bind_some _ _).symm.trans H; rw [hy584]; with_reducible exact H2_) | exact H
    have Ny584 := Aside0.mk hy584
    clear hy584
    have H' := Aside0.mk H
    clear H
    have p582 : 0 ≤ (x6_1 : Int) := oz
    have q582 : x6_1 < (l0.length : Int) := oz
    obtain ⟨ad582, e582, hx582_0⟩ := Kd.at_int (Kd.R_reads' HO_0.out).2.2 x6_1 p582 q582
    cases e582
    replace p582 := eq_true p582
    replace q582 := eq_true q582
    have p583 : 0 ≤ (x6_1 : Int) := oz
    have q583 : x6_1 < (l0.length : Int) := oz
    obtain ⟨ad583, e583, hx583_0⟩ := Kd.at_int (Kd.R_reads' HO_0.out).2.2 x6_1 p583 q583
    obtain rfl : ad582 = ad583 := (by injection e583)
    replace p583 := eq_true p583
    replace q583 := eq_true q583
    go_wp2_with (first | ((with_reducible refine gate_builtin (b := .append) (xs := #[.tmp 23, .tmp 28]) rfl ?_); at_builtin; refine Kd.R_append (Kd.int .i64) (w0 := w0) w0.heap.size rfl (.tmp 23) (.tmp 28) 57 3 (.int .i64 0) 8 rfl Tryz.underlying57 info3 rfl (by decide) (by omega) u5 x5_1 (rd l0 x6_1) [.int .i64 (rd l0 x6_1)] (fun k_ => (P0_ k_ ∨ w.heap.size ≤ k_) ∧ some k_ ≠ (.slice (some ad582) l0.length co6 : Value).ownBlock) (fun _ => False) rfl rfl ?aP (fun _ hk => hk.elim) ?aF ?aO ?aB ?aS ?aL ?_; (case aP => exact rfl); (case aB => exact bz); (case aF => exact (fun k_ hk => ⟨(.inr (Nat.le_trans (by first | exact HK.out.1 | exact (show Kept w _ (fun k_ => P0_ k_) from by repeat (first | (with_reducible first | exact HK.out | apply Kept.alloc | apply Kept.drewN | apply Kept.drew) | exact HK.out)).1) hk)), Kd.fresh' (Kd.R_lt (rz HO_0.out)) k_ hk⟩)); (case aO => exact (rz HO_5.out)); (case aS => exact (below_size bz)); (case aL => have := LMc10.out; omega); intro v585 w11 ho hb hg hat; rw [← Ny584.out] at ho; have n0_ := Aside0.mk (Kd.R_after (ok := (fun k_ => (P0_ k_ ∨ w.heap.size ≤ k_))) (rz HO_0.out) hg hat); have n1_ := Aside0.mk (hb); have n2_ := Aside0.mk (Kept.of_grown (S := (fun k_ => P0_ k_)) hg (by repeat (first | (with_reducible first | exact HK.out | apply Kept.alloc | apply Kept.drewN | apply Kept.drew) | exact HK.out)) (fun k_ e_ => (HO_5.out.1 k_ e_).1)); have n3_ := Aside0.mk (ho); clear HO_0; clear HB; clear HK; clear HO_5; have HO_0 := n0_; have HB := n1_; have HK := n2_; have HO586 := n3_; clear n0_ n1_ n2_ n3_; clear ho hb hg hat))
    go_roundg k1
    case measure => have := HK1.out; omega
    case rel => exact ⟨(y584), (wrap64 (x6_1 + 1)), ez, H', ⟨by have := HK1.out; omega⟩, ⟨rz HO_0.out⟩, ⟨rz HO586.out⟩, ⟨by repeat (first | (with_reducible first | exact HK.out | apply Kept.alloc | apply Kept.drewN | apply Kept.drew) | exact HK.out)⟩, ⟨bz⟩⟩
   rw [if_neg c9] at H
   have c9b0 := decide_eq_false c9
   clear c9
   by_cases c12 : x5_1.length < 17592186044416
   rotate_left
   ·exact nomatch (if_neg c12).symm.trans H
   rw [if_pos c12] at H
   have LMc12 := Aside0.mk c12
   clear c12
   obtain ⟨y587, hy587⟩ : ∃ y_ : List Int, y_ = (x5_1 ++ [a1]) := ⟨_, rfl⟩
   replace H : (if x6_1 ≤ (l0.length : Int) then ((some (l0.drop (x6_1 : Int).toNat : List Int)).bind fun y590 => (if y587.length + y590.length < 17592186044416 then (some (y587 ++ y590)) else (none))) else (none)) = some r := by first | (rw [hy587]; with_reducible exact H) | (have H2_ := (Option.bind_some _ _).symm.trans H; rw [hy587]; with_reducible exact H2_) | exact H
   have Ny587 := Aside0.mk hy587
   clear hy587
   have c13b0 := eq_true (oz : 0 ≤ x6_1)
   by_cases c14 : x6_1 ≤ (l0.length : Int)
   rotate_left
   ·exact nomatch (if_neg c14).symm.trans H
   rw [if_pos c14] at H
   have c14b0 := eq_true c14
   have c14b1 := decide_eq_true c14
   clear c14
   obtain ⟨y590, hy590⟩ : ∃ y_ : List Int, y_ = (l0.drop (x6_1 : Int).toNat) := ⟨_, rfl⟩
   rw [← hy590] at H
   try rw [Option.bind_some] at H
   have Ny590 := Aside0.mk hy590
   clear hy590
   by_cases c15 : y587.length + y590.length < 17592186044416
   rotate_left
   ·exact nomatch (if_neg c15).symm.trans H
   rw [if_pos c15] at H
   have LMc15 := Aside0.mk c15
   clear c15
   obtain ⟨y594, hy594⟩ : ∃ y_ : List Int, y_ = (y587 ++ y590) := ⟨_, rfl⟩
   replace H : (some y594) = some r := by first | (rw [hy594]; with_reducible exact H) | (have H2_ := (Option.bind_some _ _).symm.trans H; rw [hy594]; with_reducible exact H2_) | exact H
   have Ny594 := Aside0.mk hy594
   clear hy594
   obtain rfl := Option.some.inj H
   have p582 : 0 ≤ (x6_1 : Int) := oz
   have q582 : x6_1 < (l0.length : Int) := oz
   obtain ⟨ad582, e582, hx582_0⟩ := Kd.at_int (Kd.R_reads' HO_0.out).2.2 x6_1 p582 q582
   cases e582
   replace p582 := eq_true p582
   replace q582 := eq_true q582
   go_wp2_with (first | ((with_reducible refine gate_builtin (b := .append) (xs := #[.tmp 32, .tmp 34]) rfl ?_); at_builtin; refine Kd.R_append (Kd.int .i64) (w0 := w0) w0.heap.size rfl (.tmp 32) (.tmp 34) 57 3 (.int .i64 0) 8 rfl Tryz.underlying57 info3 rfl (by decide) (by omega) u5 x5_1 a1 [.int .i64 a1] (fun k_ => (P0_ k_ ∨ w.heap.size ≤ k_) ∧ some k_ ≠ (.slice (some ad582) l0.length co6 : Value).ownBlock) (fun _ => False) rfl rfl ?aP (fun _ hk => hk.elim) ?aF ?aO ?aB ?aS ?aL ?_; (case aP => exact rfl); (case aB => exact bz); (case aF => exact (fun k_ hk => ⟨(.inr (Nat.le_trans (by first | exact HK.out.1 | exact (show Kept w _ (fun k_ => P0_ k_) from by repeat (first | (with_reducible first | exact HK.out | apply Kept.alloc | apply Kept.drewN | apply Kept.drew) | exact HK.out)).1) hk)), Kd.fresh' (Kd.R_lt (rz HO_0.out)) k_ hk⟩)); (case aO => exact (rz HO_5.out)); (case aS => exact (below_size bz)); (case aL => have := LMc12.out; omega); intro v588 w16 ho hb hg hat; rw [← Ny587.out] at ho; have n0_ := Aside0.mk (Kd.R_after (ok := (fun k_ => (P0_ k_ ∨ w.heap.size ≤ k_))) (rz HO_0.out) hg hat); have n1_ := Aside0.mk (hb); have n2_ := Aside0.mk (Kept.of_grown (S := (fun k_ => P0_ k_)) hg (by repeat (first | (with_reducible first | exact HK.out | apply Kept.alloc | apply Kept.drewN | apply Kept.drew) | exact HK.out)) (fun k_ e_ => (HO_5.out.1 k_ e_).1)); have n3_ := Aside0.mk (ho); clear HO_0; clear HB; clear HK; clear HO_5; have HO_0 := n0_; have HB := n1_; have HK := n2_; have HO589 := n3_; clear n0_ n1_ n2_ n3_; clear ho hb hg hat; have q17 : (x6_1 : Int) ≤ ((l0.length : Int) : Int) := oz; obtain ⟨i017, hi017, _, hsz17, _⟩ := info_parts info3; have hroom17 : l0.length ≤ co6 := (Kd.R_reads' HO_0.out).2.1; have hC17 : Kd.C (Kd.int .i64) _ (some ad582) l0.length l0 := (Kd.R_reads' HO_0.out).2.2; have q017 : (0 : Int) ≤ (x6_1 : Int) := oz; have hcut17 := cut_from (P := Tryz.prog) 57 3 .i64 Tryz.underlying57 hi017 1 hsz17 (some ad582) l0.length co6 x6_1 q017 q17; have hr17 := Kd.C_drop (m := (x6_1 : Int).toNat) (c := co6) hC17 (by omega) hroom17; obtain ⟨A17, hA17⟩ : ∃ A1, A1 = (if co6 = (x6_1 : Int).toNat then (some ad582) else ((some ad582) : Option Addr).map (·.add ((x6_1 : Int).toNat * 1))) := ⟨_, rfl⟩; obtain ⟨c17, hc17⟩ : ∃ c1, c1 = co6 - (x6_1 : Int).toNat := ⟨_, rfl⟩; have hy17 : y590.length = l0.length - (x6_1 : Int).toNat := (by rw [Ny590.out, List.length_drop] <;> omega); rw [show (l0).drop (x6_1 : Int).toNat = y590 from Ny590.out.symm] at hr17; replace hr17 : Kd.C (Kd.int .i64) _ A17 y590.length y590 := (by rw [hA17]; exact hr17); rw [← hy17, ← hA17, ← hc17] at hcut17; have HR593 := Aside0.mk hr17; have HC593 := Aside0.mk (show y590.length ≤ c17 from by rw [hy17, hc17]; exact Nat.sub_le_sub_right hroom17 _); clear hr17 hC17 hroom17 hi017 hsz17 hc17; have KY17 := Aside0.mk hy17; have KA17 := Aside0.mk hA17; clear hy17 hA17; have KL17 := Aside0.mk (show (x6_1 : Int).toNat ≤ l0.length from by omega); replace q17 := eq_true q17) | ((with_reducible refine gate_builtin (b := .append) (xs := #[.tmp 36, .tmp 39]) rfl ?_); at_builtin; refine Kd.R_append_rows (Kd.int .i64) (w0 := w0) w0.heap.size rfl (.tmp 36) (.tmp 39) 57 3 (.int .i64 0) 8 rfl Tryz.underlying57 info3 rfl (by decide) (by omega) v588 y587 y590 _ _ _ (fun k_ => (P0_ k_ ∨ w.heap.size ≤ k_) ∧ some k_ ≠ (.slice (some ad582) l0.length co6 : Value).ownBlock) (fun _ => False) rfl rfl ?aO ?aR (fun _ _ h => h) (fun _ h => h.elim) ?aF ?aB ?aS ?aL ?_; (case aR => repeat (first | exact (by repeat (first | (with_reducible exact HR593.out) | (with_reducible refine Kd.C_alloc ?_ _) | (with_reducible refine Kd.C_drewN ?_ _) | (with_reducible refine Kd.C_drew ?_) | exact HR593.out)) | (with_reducible refine Kd.C_alloc ?_ _) | (with_reducible refine Kd.C_drewN ?_ _) | (with_reducible refine Kd.C_drew ?_))); (case aB => exact bz); (case aF => exact (fun k_ hk => ⟨(.inr (Nat.le_trans (by first | exact HK.out.1 | exact (show Kept w _ (fun k_ => P0_ k_) from by repeat (first | (with_reducible first | exact HK.out | apply Kept.alloc | apply Kept.drewN | apply Kept.drew) | exact HK.out)).1) hk)), Kd.fresh' (Kd.R_lt (rz HO_0.out)) k_ hk⟩)); (case aO => exact (rz HO589.out)); (case aS => exact (below_size bz)); (case aL => have := LMc15.out; omega); intro v595 w18 ho hb hg hat; rw [← Ny594.out] at ho; have n0_ := Aside0.mk (Kd.R_after (ok := (fun k_ => (P0_ k_ ∨ w.heap.size ≤ k_))) (rz HO_0.out) hg hat); have n1_ := Aside0.mk (hb); have n2_ := Aside0.mk (Kept.of_grown (S := (fun k_ => P0_ k_)) hg (by repeat (first | (with_reducible first | exact HK.out | apply Kept.alloc | apply Kept.drewN | apply Kept.drew) | exact HK.out)) (fun k_ e_ => (HO589.out.1 k_ e_).1)); have n3_ := Aside0.mk ((show Kd.C (Kd.int .i64) w18 A17 y590.length y590 from by rw [Ny590.out, KA17.out]; exact Kd.C_drop (m := (x6_1 : Int).toNat) (c := co6) ((Kd.R_reads' (Kd.R_after (ok := (fun k_ => (P0_ k_ ∨ w.heap.size ≤ k_))) (rz HO_0.out) hg hat)).2.2) KL17.out ((Kd.R_reads' (Kd.R_after (ok := (fun k_ => (P0_ k_ ∨ w.heap.size ≤ k_))) (rz HO_0.out) hg hat)).2.1))); have n4_ := Aside0.mk (ho); clear HO_0; clear HB; clear HK; clear HR593; clear HO589; have HO_0 := n0_; have HB := n1_; have HK := n2_; have HR593 := n3_; have HO596 := n4_; clear n0_ n1_ n2_ n3_ n4_; clear ho hb hg hat))
   go_ret
   exact ⟨_, fz, by (with_reducible repeat (first | apply Kd.R_alloc | apply Kd.R_drewN | apply Kd.R_drew)); exact Kd.R_mono HO596.out (fun _ hk => hk.1), bz, by repeat (first | (with_reducible first | exact HK.out | apply Kept.alloc | apply Kept.drewN | apply Kept.drew) | exact HK.out)⟩
  rw [if_neg c7] at H
  have c7b0 := decide_eq_false c7
  clear c7
  by_cases c19 : x5_1.length < 17592186044416
  rotate_left
  ·exact nomatch (if_neg c19).symm.trans H
  rw [if_pos c19] at H
  have LMc19 := Aside0.mk c19
  clear c19
  obtain ⟨y597, hy597⟩ : ∃ y_ : List Int, y_ = (x5_1 ++ [a1]) := ⟨_, rfl⟩
  replace H : (if 0 ≤ x6_1 then (if x6_1 ≤ (l0.length : Int) then ((some (l0.drop (x6_1 : Int).toNat : List Int)).bind fun y600 => (if y597.length + y600.length < 17592186044416 then (some (y597 ++ y600)) else (none))) else (none)) else (none)) = some r := by first | (rw [hy597]; with_reducible exact H) | (have H2_ := (Option.bind_some _ _).symm.trans H; rw [hy597]; with_reducible exact H2_) | exact H
  have Ny597 := Aside0.mk hy597
  clear hy597
  by_cases c20 : 0 ≤ x6_1
  rotate_left
  ·exact nomatch (if_neg c20).symm.trans H
  rw [if_pos c20] at H
  have c20b0 := eq_true c20
  have c20b1 := decide_eq_true c20
  clear c20
  by_cases c21 : x6_1 ≤ (l0.length : Int)
  rotate_left
  ·exact nomatch (if_neg c21).symm.trans H
  rw [if_pos c21] at H
  have c21b0 := eq_true c21
  have c21b1 := decide_eq_true c21
  clear c21
  obtain ⟨y600, hy600⟩ : ∃ y_ : List Int, y_ = (l0.drop (x6_1 : Int).toNat) := ⟨_, rfl⟩
  rw [← hy600] at H
  try rw [Option.bind_some] at H
  have Ny600 := Aside0.mk hy600
  clear hy600
  by_cases c22 : y597.length + y600.length < 17592186044416
  rotate_left
  ·exact nomatch (if_neg c22).symm.trans H
  rw [if_pos c22] at H
  have LMc22 := Aside0.mk c22
  clear c22
  obtain ⟨y604, hy604⟩ : ∃ y_ : List Int, y_ = (y597 ++ y600) := ⟨_, rfl⟩
  replace H : (some y604) = some r := by first | (rw [hy604]; with_reducible exact H) | (have H2_ := (Option.bind_some _ _).symm.trans H; rw [hy604]; with_reducible exact H2_) | exact H
  have Ny604 := Aside0.mk hy604
  clear hy604
  obtain rfl := Option.some.inj H
  go_wp2_with (first | ((with_reducible refine gate_builtin (b := .append) (xs := #[.tmp 32, .tmp 34]) rfl ?_); at_builtin; refine Kd.R_append (Kd.int .i64) (w0 := w0) w0.heap.size rfl (.tmp 32) (.tmp 34) 57 3 (.int .i64 0) 8 rfl Tryz.underlying57 info3 rfl (by decide) (by omega) u5 x5_1 a1 [.int .i64 a1] (fun k_ => (P0_ k_ ∨ w.heap.size ≤ k_) ∧ some k_ ≠ (.slice Ao6 l0.length co6 : Value).ownBlock) (fun _ => False) rfl rfl ?aP (fun _ hk => hk.elim) ?aF ?aO ?aB ?aS ?aL ?_; (case aP => exact rfl); (case aB => exact bz); (case aF => exact (fun k_ hk => ⟨(.inr (Nat.le_trans (by first | exact HK.out.1 | exact (show Kept w _ (fun k_ => P0_ k_) from by repeat (first | (with_reducible first | exact HK.out | apply Kept.alloc | apply Kept.drewN | apply Kept.drew) | exact HK.out)).1) hk)), Kd.fresh' (Kd.R_lt (rz HO_0.out)) k_ hk⟩)); (case aO => exact (rz HO_5.out)); (case aS => exact (below_size bz)); (case aL => have := LMc19.out; omega); intro v598 w23 ho hb hg hat; rw [← Ny597.out] at ho; have n0_ := Aside0.mk (Kd.R_after (ok := (fun k_ => (P0_ k_ ∨ w.heap.size ≤ k_))) (rz HO_0.out) hg hat); have n1_ := Aside0.mk (hb); have n2_ := Aside0.mk (Kept.of_grown (S := (fun k_ => P0_ k_)) hg (by repeat (first | (with_reducible first | exact HK.out | apply Kept.alloc | apply Kept.drewN | apply Kept.drew) | exact HK.out)) (fun k_ e_ => (HO_5.out.1 k_ e_).1)); have n3_ := Aside0.mk (ho); clear HO_0; clear HB; clear HK; clear HO_5; have HO_0 := n0_; have HB := n1_; have HK := n2_; have HO599 := n3_; clear n0_ n1_ n2_ n3_; clear ho hb hg hat; have q24 : (x6_1 : Int) ≤ ((l0.length : Int) : Int) := oz; obtain ⟨i024, hi024, _, hsz24, _⟩ := info_parts info3; have hroom24 : l0.length ≤ co6 := (Kd.R_reads' HO_0.out).2.1; have hC24 : Kd.C (Kd.int .i64) _ Ao6 l0.length l0 := (Kd.R_reads' HO_0.out).2.2; have q024 : (0 : Int) ≤ (x6_1 : Int) := oz; have hcut24 := cut_from (P := Tryz.prog) 57 3 .i64 Tryz.underlying57 hi024 1 hsz24 Ao6 l0.length co6 x6_1 q024 q24; have hr24 := Kd.C_drop (m := (x6_1 : Int).toNat) (c := co6) hC24 (by omega) hroom24; obtain ⟨A24, hA24⟩ : ∃ A1, A1 = (if co6 = (x6_1 : Int).toNat then Ao6 else (Ao6 : Option Addr).map (·.add ((x6_1 : Int).toNat * 1))) := ⟨_, rfl⟩; obtain ⟨c24, hc24⟩ : ∃ c1, c1 = co6 - (x6_1 : Int).toNat := ⟨_, rfl⟩; have hy24 : y600.length = l0.length - (x6_1 : Int).toNat := (by rw [Ny600.out, List.length_drop] <;> omega); rw [show (l0).drop (x6_1 : Int).toNat = y600 from Ny600.out.symm] at hr24; replace hr24 : Kd.C (Kd.int .i64) _ A24 y600.length y600 := (by rw [hA24]; exact hr24); rw [← hy24, ← hA24, ← hc24] at hcut24; have HR603 := Aside0.mk hr24; have HC603 := Aside0.mk (show y600.length ≤ c24 from by rw [hy24, hc24]; exact Nat.sub_le_sub_right hroom24 _); clear hr24 hC24 hroom24 hi024 hsz24 hc24; have KY24 := Aside0.mk hy24; have KA24 := Aside0.mk hA24; clear hy24 hA24; have KL24 := Aside0.mk (show (x6_1 : Int).toNat ≤ l0.length from by omega); replace q24 := eq_true q24) | ((with_reducible refine gate_builtin (b := .append) (xs := #[.tmp 36, .tmp 39]) rfl ?_); at_builtin; refine Kd.R_append_rows (Kd.int .i64) (w0 := w0) w0.heap.size rfl (.tmp 36) (.tmp 39) 57 3 (.int .i64 0) 8 rfl Tryz.underlying57 info3 rfl (by decide) (by omega) v598 y597 y600 _ _ _ (fun k_ => (P0_ k_ ∨ w.heap.size ≤ k_) ∧ some k_ ≠ (.slice Ao6 l0.length co6 : Value).ownBlock) (fun _ => False) rfl rfl ?aO ?aR (fun _ _ h => h) (fun _ h => h.elim) ?aF ?aB ?aS ?aL ?_; (case aR => repeat (first | exact (by repeat (first | (with_reducible exact HR603.out) | (with_reducible refine Kd.C_alloc ?_ _) | (with_reducible refine Kd.C_drewN ?_ _) | (with_reducible refine Kd.C_drew ?_) | exact HR603.out)) | (with_reducible refine Kd.C_alloc ?_ _) | (with_reducible refine Kd.C_drewN ?_ _) | (with_reducible refine Kd.C_drew ?_))); (case aB => exact bz); (case aF => exact (fun k_ hk => ⟨(.inr (Nat.le_trans (by first | exact HK.out.1 | exact (show Kept w _ (fun k_ => P0_ k_) from by repeat (first | (with_reducible first | exact HK.out | apply Kept.alloc | apply Kept.drewN | apply Kept.drew) | exact HK.out)).1) hk)), Kd.fresh' (Kd.R_lt (rz HO_0.out)) k_ hk⟩)); (case aO => exact (rz HO599.out)); (case aS => exact (below_size bz)); (case aL => have := LMc22.out; omega); intro v605 w25 ho hb hg hat; rw [← Ny604.out] at ho; have n0_ := Aside0.mk (Kd.R_after (ok := (fun k_ => (P0_ k_ ∨ w.heap.size ≤ k_))) (rz HO_0.out) hg hat); have n1_ := Aside0.mk (hb); have n2_ := Aside0.mk (Kept.of_grown (S := (fun k_ => P0_ k_)) hg (by repeat (first | (with_reducible first | exact HK.out | apply Kept.alloc | apply Kept.drewN | apply Kept.drew) | exact HK.out)) (fun k_ e_ => (HO599.out.1 k_ e_).1)); have n3_ := Aside0.mk ((show Kd.C (Kd.int .i64) w25 A24 y600.length y600 from by rw [Ny600.out, KA24.out]; exact Kd.C_drop (m := (x6_1 : Int).toNat) (c := co6) ((Kd.R_reads' (Kd.R_after (ok := (fun k_ => (P0_ k_ ∨ w.heap.size ≤ k_))) (rz HO_0.out) hg hat)).2.2) KL24.out ((Kd.R_reads' (Kd.R_after (ok := (fun k_ => (P0_ k_ ∨ w.heap.size ≤ k_))) (rz HO_0.out) hg hat)).2.1))); have n4_ := Aside0.mk (ho); clear HO_0; clear HB; clear HK; clear HR603; clear HO599; have HO_0 := n0_; have HB := n1_; have HK := n2_; have HR603 := n3_; have HO606 := n4_; clear n0_ n1_ n2_ n3_ n4_; clear ho hb hg hat))
  go_ret
  exact ⟨_, fz, by (with_reducible repeat (first | apply Kd.R_alloc | apply Kd.R_drewN | apply Kd.R_drew)); exact Kd.R_mono HO606.out (fun _ hk => hk.1), bz, by repeat (first | (with_reducible first | exact HK.out | apply Kept.alloc | apply Kept.drewN | apply Kept.drew) | exact HK.out)⟩
mutual
def burinref03_Family.l0 : Nat → List Int → List (S95) → Int → Option (List Int)
 | 0, _, _, _ => none
 | k + 1, x3, x4, x5 => if x5 < (x3.length : Int) then (burinref03_Family.l1 k x3 x4 (x3.length : Int) 0) else (some x3)
def burinref03_Family.l1 : Nat → List Int → List (S95) → Int → Int → Option (List Int)
 | 0, _, _, _, _ => none
 | k + 1, x3, x4, x5, x6 => if x6 < (x4.length : Int) then (if 0 ≤ x6 then ((burinref03_joined.f k x3 ((rd_T95 x4 x6).f0)).bind fun t614 => (if t614 = true then ((burinref03_with.f k x3 ((rd_T95 x4 x6).f1)).bind fun t616 => (burinref03_Family.j2 k t616 x4 x5 x6)) else (burinref03_Family.j2 k x3 x4 x5 x6))) else (none)) else (burinref03_Family.l0 k x3 x4 x5)
def burinref03_Family.j2 : Nat → List Int → List (S95) → Int → Int → Option (List Int)
 | 0, _, _, _, _ => none
 | k + 1, x3, x4, x5, x6 => if 0 ≤ x6 then (if x6 < (x4.length : Int) then ((burinref03_joined.f k x3 ((rd_T95 x4 x6).f1)).bind fun t620 => (if t620 = true then ((burinref03_with.f k x3 ((rd_T95 x4 x6).f0)).bind fun t622 => (burinref03_Family.l1 k t622 x4 x5 (wrap64 (x6 + 1)))) else (burinref03_Family.l1 k x3 x4 x5 (wrap64 (x6 + 1))))) else (none)) else (none)
end
def burinref03_Family.f (k : Nat) (a0 : Int) : Option (List Int) := (burinref03_Pairs.f k).bind fun t610 => (burinref03_Family.l0 k (([a0] : List Int)) t610 0)
set_option maxHeartbeats 8000000 in
set_option maxRecDepth 100000 in
theorem burinref03_Family.calls (k : Nat) (a0 : Int) (r : List Int) (w : World) (h : burinref03_Family.f k a0 = some r) :
  Calls Tryz.prog 74 #[.int .i64 a0] w fun e w' => ∃ v0_ : Value, e = .returned (v0_) ∧ Kd.R (Kd.int .i64) 3 w' w.heap.size (fun _ => True) v0_ r ∧ Below w.heap.size w w' := by
 have HB := Aside0.mk (Below.refl w.heap.size w)
 have H : ((burinref03_Pairs.f k).bind fun t610 => (burinref03_Family.l0 k (([a0] : List Int)) t610 0)) = some r := h
 clear h
 obtain ⟨y607, hy607⟩ : ∃ y_ : List Int, y_ = (([a0] : List Int)) := ⟨_, rfl⟩
 replace H : ((burinref03_Pairs.f k).bind fun t610 => (burinref03_Family.l0 k y607 t610 0)) = some r := by first | (rw [hy607]; with_reducible exact H) | (have H2_ := (Option.bind_some _ _).symm.trans H; rw [hy607]; with_reducible exact H2_) | exact H
 have Ny607 := Aside0.mk hy607
 clear hy607
 replace H := Option.bind_eq_some_iff.mp H
 obtain ⟨t610, A20, H⟩ := H
 try dsimp only at H
 have A2 := Aside0.mk A20
 clear A20
 have H' := Aside0.mk H
 clear H
 go_enter Tryz.func74, Tryz.ntmps74
 go_wp2_with (first | ((with_reducible refine gate_dst (N := 8) rfl ?_); refine Kd.R_lit (Kd.int .i64) _ 3 ?hg (N := 8) ?hd (xs := ([a0] : List Int)) (inner := [.int .i64 a0]) (ok := fun _ => True) (okp := fun _ => True) ?hr ?hp (fun _ hk => hk) trivial (Below.refl _ _) (Nat.le_refl _) (by simp) ?_; (case hd => rfl); (case hg => rfl); (case hr => first | (go_simp; done) | (go_simp; rfl)); (case hp => exact (Reps.one rfl (Reps.none _ _))); intro v608 w3 ho4 hb hg_ hnew_; clear hg_ hnew_; (first | rw [← Ny607.out] at ho4 | (simp only [Int.reduceToNat] at ho4; rw [← Ny607.out] at ho4)); have HO609 := Aside0.mk (Kd.R_lower ho4 (below_size bz)); replace HB := hz hb; clear hb ho4) | ((with_reducible refine gate_callee (f := 73) rfl ?_); refine goesL_ (some 9) rfl rfl Tryz.func73 kz rfl #[] rfl mz ?_; (with_reducible refine (burinref03_Pairs.calls k  t610 _ A2.out).mono ?_); rintro e w5 ⟨v611, rfl, ho0, hb⟩; refine ⟨_, rfl, ?_⟩; have HO612 := Aside0.mk (Kd.R_lower ho0 (below_size bz)); replace HO609 := Aside0.mk (Kd.R_below (rz HO609.out) hb); replace HB := hz hb; (try clear hb); (try clear ho0)))
 go_loopg [3, 5] k (fun kq v3 v5 w' => ∃ (x3_1 : List Int) (x5_1 : Int), v5 = .int .i64 x5_1 ∧ Aside0 (burinref03_Family.l0 kq x3_1 t610 x5_1 = some r) ∧ Aside0 (kq ≤ k) ∧ Aside0 (Kd.R (Kd.int .i64) 3 w' w.heap.size (fun _ => True) v3 x3_1) ∧ Aside0 (Kd.R k95 95 w' w.heap.size (fun _ => True) v611 t610) ∧ Aside0 (Below w.heap.size w w'))
 case atStart => exact ⟨(y607), (0), ez, H', ⟨Nat.le_refl _⟩, ⟨rz HO609.out⟩, ⟨rz HO612.out⟩, ⟨bz⟩⟩
 clear H'
 try clear p2
 obtain ⟨x3_1, x5_1, rfl, HA, HK1, HO_3, HO_4, HB⟩ := hrel
 cases gk with
 | zero => exact absurd HA.out (by simp [burinref03_Family.l0])
 | succ k1 =>
  have H := HA.out
  clear HA
  simp only [burinref03_Family.l0] at H
  by_cases c6 : x5_1 < (x3_1.length : Int)
  ·rw [if_pos c6] at H
   have c6b0 := decide_eq_true c6
   clear c6
   have H' := Aside0.mk H
   clear H
   obtain ⟨Ao7, co7, eo7⟩ := Kd.R_slice HO_3.out
   subst eo7
   go_wp2
   go_loopg [3, 6] k1 (fun kq v3 v6 w' => ∃ (x3_2 : List Int) (x6_2 : Int), v6 = .int .i64 x6_2 ∧ Aside0 (burinref03_Family.l1 kq x3_2 t610 (x3_1.length : Int) x6_2 = some r) ∧ Aside0 (kq ≤ k1) ∧ Aside0 (Kd.R (Kd.int .i64) 3 w' w.heap.size (fun _ => True) v3 x3_2) ∧ Aside0 (Kd.R k95 95 w' w.heap.size (fun _ => True) v611 t610) ∧ Aside0 (Below w.heap.size w w'))
   case atStart => exact ⟨(x3_1), (0), ez, H', ⟨Nat.le_refl _⟩, ⟨rz HO_3.out⟩, ⟨rz HO_4.out⟩, ⟨bz⟩⟩
   clear H'
   try clear p2
   try clear c6
   try clear c6b0
   try clear c7
   try clear p2
   obtain ⟨x3_2, x6_2, rfl, HA, HK2, HO_3, HO_4, HB⟩ := hrel
   cases gk with
   | zero => exact absurd HA.out (by simp [burinref03_Family.l1])
   | succ k2 =>
    have H := HA.out
    clear HA
    simp only [burinref03_Family.l1] at H
    by_cases c8 : x6_2 < (t610.length : Int)
    ·rw [if_pos c8] at H
     have c8b0 := decide_eq_true c8
     clear c8
     by_cases c9 : 0 ≤ x6_2
     rotate_left
     ·exact nomatch (if_neg c9).symm.trans H
     rw [if_pos c9] at H
     have c9b0 := decide_eq_true c9
     clear c9
     replace H := Option.bind_eq_some_iff.mp H
     obtain ⟨t614, A100, H⟩ := H
     try dsimp only at H
     have A10 := Aside0.mk A100
     clear A100
     have HC11 := Aside0.mk H
     clear H
     obtain ⟨Ao12, co12, eo12⟩ := Kd.R_slice HO_4.out
     subst eo12
     have p613 : 0 ≤ (x6_2 : Int) := oz
     have q613 : x6_2 < (t610.length : Int) := oz
     obtain ⟨ad613, e613, hx613_0, hx613_1⟩ := at_T95 (Kd.R_reads' HO_4.out).2.2 x6_2 p613 q613
     cases e613
     replace p613 := eq_true p613
     replace q613 := eq_true q613
     obtain ⟨Ao13, co13, eo13⟩ := Kd.R_slice HO_3.out
     subst eo13
     go_upto_if 28 with (first | ((with_reducible refine gate_callee (f := 103) rfl ?_); refine goesL_ (some 28) rfl rfl Tryz.func103 kz rfl #[.slice Ao13 x3_2.length co13, .int .i64 ((rd_T95 t610 x6_2).f0)] rfl mz ?_; (with_reducible refine (burinref03_joined.calls k2 _ _ x3_2 ((rd_T95 t610 x6_2).f0) t614 _ ?side1 ?side2 A10.out).mono ?_); (case side1 => exact cz (Kd.R_reads' HO_3.out).2.2); (case side2 => exact (Kd.R_reads' HO_3.out).2.1); rintro e w' ⟨rfl, ⟨nd, rfl⟩⟩; refine ⟨_, rfl, ?_⟩))
     (try simp only [Act.put, List.setIfInBounds_toArray, List.set_cons_zero, List.set_cons_succ])
     go_cut [3] (fun v3 wc => ∃ (kq : Nat) (x3_10 : List Int), Aside0 (burinref03_Family.j2 kq x3_10 t610 (x3_1.length : Int) x6_2 = some r) ∧ Aside0 (kq ≤ k2) ∧ Aside0 (Kd.R (Kd.int .i64) 3 wc w.heap.size (fun _ => True) v3 x3_10) ∧ Aside0 (Kd.R k95 95 wc w.heap.size (fun _ => True) (.slice (some ad613) t610.length co12) t610) ∧ Aside0 (Below w.heap.size w wc))
     case first =>
      have H := HC11.out
      clear HC11
      by_cases c14 : t614 = true
      ·subst c14
       rw [if_pos rfl] at H
       replace H := Option.bind_eq_some_iff.mp H
       obtain ⟨t616, A150, H⟩ := H
       try dsimp only at H
       have A15 := Aside0.mk A150
       clear A150
       have H' := Aside0.mk H
       clear H
       have p615 : 0 ≤ (x6_2 : Int) := oz
       have q615 : x6_2 < (t610.length : Int) := oz
       obtain ⟨ad615, e615, hx615_0, hx615_1⟩ := at_T95 (Kd.R_reads' HO_4.out).2.2 x6_2 p615 q615
       obtain rfl : ad613 = ad615 := (by injection e615)
       replace p615 := eq_true p615
       replace q615 := eq_true q615
       go_wp2_with (first | ((with_reducible refine gate_callee (f := 104) rfl ?_); refine goesL_ (some 35) rfl rfl Tryz.func104 kz rfl #[.slice Ao13 x3_2.length co13, .int .i64 ((rd_T95 t610 x6_2).f1)] rfl mz ?_; (with_reducible refine (burinref03_with.calls k2 (fun k_ => some k_ = (.slice Ao13 x3_2.length co13 : Value).ownBlock) (.slice Ao13 x3_2.length co13) x3_2 ((rd_T95 t610 x6_2).f1) t616 w _ ?side1 ?side2 A15.out).mono ?_); (case side1 => repeat (first | (with_reducible first | exact HB.out | apply below_alloc | apply pw_below_drewN | apply below_drew1) | exact HB.out)); (case side2 => exact Kd.R_tight rfl HO_3.out); rintro e w16 ⟨v617, rfl, ho0, hb, hkp⟩; refine ⟨_, rfl, ?_⟩; have n0_ := Aside0.mk (Kd.R_mono (ok' := fun k_ => True) (Kd.R_keptB ((Kd.R_apart' HO_4.out (Kd.R_typed HO_3.out) (by decide))) hkp (fun k_ hk_ hs_ => (hk_.2) hs_)) (fun k_ hk_ => trivial)); have n1_ := Aside0.mk (Kd.R_mono (ok' := fun k_ => True) ho0 (fun k_ hk_ => trivial)); have n2_ := Aside0.mk (hb); clear HO_4; clear HB; clear HO_3; have HO_4 := n0_; have HO618 := n1_; have HB := n2_; clear n0_ n1_ n2_; (try clear hb); (try clear hkp); (try clear ho0)))
       go_meet
       case rel => exact ⟨_, (t616), H', ⟨by have := HK1.out; have := HK2.out; first | omega | exact Nat.le_refl _⟩, ⟨rz HO618.out⟩, ⟨rz HO_4.out⟩, ⟨bz⟩⟩
      replace c14 := Bool.eq_false_iff.mpr c14
      subst c14
      rw [if_neg (show ¬ (false = true) by decide)] at H
      have H' := Aside0.mk H
      clear H
      go_wp2
      go_meet
      case rel => exact ⟨_, (x3_2), H', ⟨by have := HK1.out; have := HK2.out; first | omega | exact Nat.le_refl _⟩, ⟨rz HO_3.out⟩, ⟨rz HO_4.out⟩, ⟨bz⟩⟩
     clear HC11
     try clear c1
     try clear p2
     try clear c6
     try clear c6b0
     try clear p6
     try clear q6
     try clear hx6
     try clear c7
     try clear c8
     try clear c8b0
     try clear c9
     try clear c9b0
     try clear c10
     try clear c14
     try clear hx613_0
     try clear hx613_1
     try clear hx615_0
     try clear hx615_1
     try clear p2
     try clear p613
     try clear p615
     try clear q613
     try clear q615
     obtain ⟨kq, x3_10, HA, HJ10, HO_3, HO_4, HB⟩ := hcut
     cases kq with
     | zero => exact absurd HA.out (by simp [burinref03_Family.j2])
     | succ kj10 =>
      have H := HA.out
      clear HA
      simp only [burinref03_Family.j2] at H
      by_cases c17 : 0 ≤ x6_2
      rotate_left
      ·exact nomatch (if_neg c17).symm.trans H
      rw [if_pos c17] at H
      have c17b0 := decide_eq_true c17
      clear c17
      by_cases c18 : x6_2 < (t610.length : Int)
      rotate_left
      ·exact nomatch (if_neg c18).symm.trans H
      rw [if_pos c18] at H
      have c18b0 := decide_eq_true c18
      clear c18
      replace H := Option.bind_eq_some_iff.mp H
      obtain ⟨t620, A190, H⟩ := H
      try dsimp only at H
      have A19 := Aside0.mk A190
      clear A190
      by_cases c20 : t620 = true
      ·subst c20
       rw [if_pos rfl] at H
       replace H := Option.bind_eq_some_iff.mp H
       obtain ⟨t622, A210, H⟩ := H
       try dsimp only at H
       have A21 := Aside0.mk A210
       clear A210
       have H' := Aside0.mk H
       clear H
       have p619 : 0 ≤ (x6_2 : Int) := oz
       have q619 : x6_2 < (t610.length : Int) := oz
       obtain ⟨ad619, e619, hx619_0, hx619_1⟩ := at_T95 (Kd.R_reads' HO_4.out).2.2 x6_2 p619 q619
       obtain rfl : ad613 = ad619 := (by injection e619)
       replace p619 := eq_true p619
       replace q619 := eq_true q619
       obtain ⟨Ao22, co22, eo22⟩ := Kd.R_slice HO_3.out
       subst eo22
       go_wp2_with (first | ((with_reducible refine gate_callee (f := 103) rfl ?_); refine goesL_ (some 42) rfl rfl Tryz.func103 kz rfl #[.slice Ao22 x3_10.length co22, .int .i64 ((rd_T95 t610 x6_2).f1)] rfl mz ?_; (with_reducible refine (burinref03_joined.calls kj10 _ _ x3_10 ((rd_T95 t610 x6_2).f1) true _ ?side1 ?side2 A19.out).mono ?_); (case side1 => exact cz (Kd.R_reads' HO_3.out).2.2); (case side2 => exact (Kd.R_reads' HO_3.out).2.1); rintro e w' ⟨rfl, ⟨nd, rfl⟩⟩; refine ⟨_, rfl, ?_⟩; have p621 : 0 ≤ (x6_2 : Int) := oz; have q621 : x6_2 < (t610.length : Int) := oz; obtain ⟨ad621, e621, hx621_0, hx621_1⟩ := at_T95 (Kd.R_reads' HO_4.out).2.2 x6_2 p621 q621; obtain rfl : ad613 = ad621 := (by injection e621); replace p621 := eq_true p621; replace q621 := eq_true q621) | ((with_reducible refine gate_callee (f := 104) rfl ?_); refine goesL_ (some 49) rfl rfl Tryz.func104 kz rfl #[.slice Ao22 x3_10.length co22, .int .i64 ((rd_T95 t610 x6_2).f0)] rfl mz ?_; (with_reducible refine (burinref03_with.calls kj10 (fun k_ => some k_ = (.slice Ao22 x3_10.length co22 : Value).ownBlock) (.slice Ao22 x3_10.length co22) x3_10 ((rd_T95 t610 x6_2).f0) t622 w _ ?side1 ?side2 A21.out).mono ?_); (case side1 => repeat (first | (with_reducible first | exact HB.out | apply below_alloc | apply pw_below_drewN | apply below_drew1) | exact HB.out)); (case side2 => exact Kd.R_tight rfl HO_3.out); rintro e w23 ⟨v623, rfl, ho0, hb, hkp⟩; refine ⟨_, rfl, ?_⟩; have n0_ := Aside0.mk (Kd.R_mono (ok' := fun k_ => True) (Kd.R_keptB ((Kd.R_apart' HO_4.out (Kd.R_typed HO_3.out) (by decide))) hkp (fun k_ hk_ hs_ => (hk_.2) hs_)) (fun k_ hk_ => trivial)); have n1_ := Aside0.mk (Kd.R_mono (ok' := fun k_ => True) ho0 (fun k_ hk_ => trivial)); have n2_ := Aside0.mk (hb); clear HO_4; clear HB; clear HO_3; have HO_4 := n0_; have HO624 := n1_; have HB := n2_; clear n0_ n1_ n2_; (try clear hb); (try clear hkp); (try clear ho0)))
       go_roundg kj10
       case measure => have := HK1.out; have := HK2.out; have := HJ10.out; omega
       case rel => exact ⟨(t622), (wrap64 (x6_2 + 1)), ez, H', ⟨by have := HK1.out; have := HK2.out; have := HJ10.out; omega⟩, ⟨rz HO624.out⟩, ⟨rz HO_4.out⟩, ⟨bz⟩⟩
      replace c20 := Bool.eq_false_iff.mpr c20
      subst c20
      rw [if_neg (show ¬ (false = true) by decide)] at H
      have H' := Aside0.mk H
      clear H
      have p619 : 0 ≤ (x6_2 : Int) := oz
      have q619 : x6_2 < (t610.length : Int) := oz
      obtain ⟨ad619, e619, hx619_0, hx619_1⟩ := at_T95 (Kd.R_reads' HO_4.out).2.2 x6_2 p619 q619
      obtain rfl : ad613 = ad619 := (by injection e619)
      replace p619 := eq_true p619
      replace q619 := eq_true q619
      obtain ⟨Ao24, co24, eo24⟩ := Kd.R_slice HO_3.out
      subst eo24
      go_wp2_with (first | ((with_reducible refine gate_callee (f := 103) rfl ?_); refine goesL_ (some 42) rfl rfl Tryz.func103 kz rfl #[.slice Ao24 x3_10.length co24, .int .i64 ((rd_T95 t610 x6_2).f1)] rfl mz ?_; (with_reducible refine (burinref03_joined.calls kj10 _ _ x3_10 ((rd_T95 t610 x6_2).f1) false _ ?side1 ?side2 A19.out).mono ?_); (case side1 => exact cz (Kd.R_reads' HO_3.out).2.2); (case side2 => exact (Kd.R_reads' HO_3.out).2.1); rintro e w' ⟨rfl, ⟨nd, rfl⟩⟩; refine ⟨_, rfl, ?_⟩))
      go_roundg kj10
      case measure => have := HK1.out; have := HK2.out; have := HJ10.out; omega
      case rel => exact ⟨(x3_10), (wrap64 (x6_2 + 1)), ez, H', ⟨by have := HK1.out; have := HK2.out; have := HJ10.out; omega⟩, ⟨rz HO_3.out⟩, ⟨rz HO_4.out⟩, ⟨bz⟩⟩
    rw [if_neg c8] at H
    have c8b0 := decide_eq_false c8
    clear c8
    have H' := Aside0.mk H
    clear H
    obtain ⟨Ao25, co25, eo25⟩ := Kd.R_slice HO_4.out
    subst eo25
    go_wp2
    go_roundg k2
    case measure => have := HK1.out; have := HK2.out; omega
    case rel => exact ⟨(x3_2), ((x3_1.length : Int)), ez, H', ⟨by have := HK1.out; have := HK2.out; omega⟩, ⟨rz HO_3.out⟩, ⟨rz HO_4.out⟩, ⟨bz⟩⟩
  rw [if_neg c6] at H
  have c6b0 := decide_eq_false c6
  clear c6
  obtain rfl := Option.some.inj H
  obtain ⟨Ao26, co26, eo26⟩ := Kd.R_slice HO_3.out
  subst eo26
  go_wp2
  go_ret
  exact ⟨_, fz, rz HO_3.out, bz⟩
mutual
def burinref03_Close.l0 : Nat → List (S36) → List (S36) → List (S95) → Int → Option ((List (S36)))
 | 0, _, _, _, _ => none
 | k + 1, x0, x3, x4, x5 => if x5 < (x4.length : Int) then (if 0 ≤ x5 then ((burinref03_Family.f k ((rd_T95 x4 x5).f0)).bind fun t638 => (burinref03_Close.l1 k x0 x3 x4 x5 t638 false 0)) else (none)) else ((burinref02_Norm.f k x0).bind fun t628 => ((burinref02_Norm.f k x3).bind fun t631 => ((burinref02_Make.f k 1 t628 t631).bind fun t634 => (some t634))))
def burinref03_Close.l1 : Nat → List (S36) → List (S36) → List (S95) → Int → List Int → Bool → Int → Option ((List (S36)))
 | 0, _, _, _, _, _, _, _ => none
 | k + 1, x0, x3, x4, x5, x6, x7, x8 => if x8 < (x6.length : Int) then (if x7 = true then (burinref03_Close.l1 k x0 x3 x4 x5 x6 true (wrap64 (x8 + 1))) else (if 0 ≤ x8 then ((burinref02_Has.f k x0 (rd x6 x8)).bind fun t642 => (burinref03_Close.l1 k x0 x3 x4 x5 x6 t642 (wrap64 (x8 + 1)))) else (none))) else (burinref03_Close.l2 k x0 x3 x4 x5 x6 x7 0)
def burinref03_Close.l2 : Nat → List (S36) → List (S36) → List (S95) → Int → List Int → Bool → Int → Option ((List (S36)))
 | 0, _, _, _, _, _, _, _ => none
 | k + 1, x0, x3, x4, x5, x6, x7, x9 => if x9 < (x6.length : Int) then (if x7 = true then (if 0 ≤ x9 then (if x3.length < 8796093022208 then (burinref03_Close.l2 k x0 (x3 ++ [(⟨rd x6 x9, rd x6 x9⟩ : S36)]) x4 x5 x6 x7 (wrap64 (x9 + 1))) else (none)) else (none)) else (burinref03_Close.l0 k x0 x3 x4 (wrap64 (x5 + 1)))) else (burinref03_Close.l0 k x0 x3 x4 (wrap64 (x5 + 1)))
end
def burinref03_Close.f (k : Nat) (l0 : List (S36)) : Option ((List (S36))) := (burinref03_Pairs.f k).bind fun t625 => (burinref03_Close.l0 k l0 ([] : List (S36)) t625 0)
def burinref03_Close.T15 : Bool × List (List Nat × List Nat) := (true, [([], []), ([], []), ([], []), ([1, 2], [1, 2]), ([3], [3]), ([], []), ([], []), ([5, 6], [5, 6]), ([7], [7]), ([4, 8], [4, 8]), ([9], [9]), ([0, 10], [0, 10]), ([11, 11, 0, 1, 2, 3, 4, 5, 6, 7, 8, 9, 10, 11], [0, 11])])
def burinref03_Close.B15 : List Nat := [0, 0, 0, 6, 14, 0, 0, 96, 224, 510, 1022, 2047, 4095]
theorem burinref03_Close.tab15 : rtab .any (opsOf Tryz.f39 15) = burinref03_Close.T15 := by kernel_rfl
theorem burinref03_Close.bits15 : waitsOk burinref03_Close.T15.2 burinref03_Close.B15 = true := by kernel_rfl
set_option maxHeartbeats 8000000 in
set_option maxRecDepth 100000 in
theorem burinref03_Close.calls (k : Nat) (A0 : Option Addr) (c0 : Nat) (l0 : List (S36)) (r : List (S36)) (w : World) (hr0 : Kd.C k36 w A0 l0.length l0) (hc0 : l0.length ≤ c0) (h : burinref03_Close.f k l0 = some r) :
  Calls Tryz.prog 39 #[.slice A0 l0.length c0] w fun e w' => ∃ v0_ : Value, e = .returned (v0_) ∧ Kd.R k36 36 w' w.heap.size (fun _ => True) v0_ r ∧ Below w.heap.size w w' := by
 have hu36 := Tryz.underlying36
 have HR0 := Aside0.mk hr0
 have HC0 := Aside0.mk hc0
 clear hr0 hc0
 have HB := Aside0.mk (Below.refl w.heap.size w)
 have H : ((burinref03_Pairs.f k).bind fun t625 => (burinref03_Close.l0 k l0 ([] : List (S36)) t625 0)) = some r := h
 clear h
 replace H := Option.bind_eq_some_iff.mp H
 obtain ⟨t625, A20, H⟩ := H
 try dsimp only at H
 have A2 := Aside0.mk A20
 clear A20
 have H' := Aside0.mk H
 clear H
 go_enter Tryz.func39, Tryz.ntmps39
 go_wp2_with (first | ((with_reducible refine gate_callee (f := 73) rfl ?_); refine goesL_ (some 10) rfl rfl Tryz.func73 kz rfl #[] rfl mz ?_; (with_reducible refine (burinref03_Pairs.calls k  t625 _ A2.out).mono ?_); rintro e w3 ⟨v626, rfl, ho0, hb⟩; refine ⟨_, rfl, ?_⟩; have HO627 := Aside0.mk (Kd.R_lower ho0 (below_size bz)); replace HB := hz hb; (try clear hb); (try clear ho0)))
 go_loopg [3, 5] k (fun kq v3 v5 w' => ∃ (x3_1 : List (S36)) (x5_1 : Int), v5 = .int .i64 x5_1 ∧ Aside0 (burinref03_Close.l0 kq l0 x3_1 t625 x5_1 = some r) ∧ Aside0 (kq ≤ k) ∧ Aside0 (Kd.R k36 36 w' w.heap.size (fun _ => True) v3 x3_1) ∧ Aside0 (Kd.R k95 95 w' w.heap.size (fun _ => True) v626 t625) ∧ Aside0 (Below w.heap.size w w'))
 case atStart => exact ⟨(([] : List (S36))), (0), ez, H', ⟨Nat.le_refl _⟩, ⟨by first | exact Kd.R_nil _ _ _ _ _ | exact Kd.N_nil _ _ _ _ _ | exact Kd.V_nil _ _ _ _ _ | exact Kd.Q_nil _ _ _ _ _ | exact Kd.S_nil _ _ _ _ _⟩, ⟨rz HO627.out⟩, ⟨bz⟩⟩
 clear H'
 try clear p2
 try clear c3
 obtain ⟨x3_1, x5_1, rfl, HA, HK1, HO_3, HO_4, HB⟩ := hrel
 cases gk with
 | zero => exact absurd HA.out (by simp [burinref03_Close.l0])
 | succ k1 =>
  have H := HA.out
  clear HA
  simp only [burinref03_Close.l0] at H
  by_cases c4 : x5_1 < (t625.length : Int)
  ·rw [if_pos c4] at H
   have c4b0 := decide_eq_true c4
   clear c4
   by_cases c5 : 0 ≤ x5_1
   rotate_left
   ·exact nomatch (if_neg c5).symm.trans H
   rw [if_pos c5] at H
   have c5b0 := decide_eq_true c5
   clear c5
   replace H := Option.bind_eq_some_iff.mp H
   obtain ⟨t638, A60, H⟩ := H
   try dsimp only at H
   have A6 := Aside0.mk A60
   clear A60
   have H' := Aside0.mk H
   clear H
   obtain ⟨Ao7, co7, eo7⟩ := Kd.R_slice HO_4.out
   subst eo7
   have p637 : 0 ≤ (x5_1 : Int) := oz
   have q637 : x5_1 < (t625.length : Int) := oz
   obtain ⟨ad637, e637, hx637_0, hx637_1⟩ := at_T95 (Kd.R_reads' HO_4.out).2.2 x5_1 p637 q637
   cases e637
   replace p637 := eq_true p637
   replace q637 := eq_true q637
   go_wp2_with (first | ((with_reducible refine gate_callee (f := 74) rfl ?_); refine goesL_ (some 22) rfl rfl Tryz.func74 kz rfl #[.int .i64 ((rd_T95 t625 x5_1).f0)] rfl mz ?_; (with_reducible refine (burinref03_Family.calls k1 ((rd_T95 t625 x5_1).f0) t638 _ A6.out).mono ?_); rintro e w8 ⟨v639, rfl, ho0, hb⟩; refine ⟨_, rfl, ?_⟩; have HO640 := Aside0.mk (Kd.R_lower ho0 (below_size bz)); replace HO_3 := Aside0.mk (Kd.R_below (rz HO_3.out) hb); replace HO_4 := Aside0.mk (Kd.R_below (rz HO_4.out) hb); replace HB := hz hb; (try clear hb); (try clear ho0)))
   go_loopg [7, 8] k1 (fun kq v7 v8 w' => ∃ (x7_2 : Bool) (x8_2 : Int), v7 = .bool x7_2 ∧ v8 = .int .i64 x8_2 ∧ Aside0 (burinref03_Close.l1 kq l0 x3_1 t625 x5_1 t638 x7_2 x8_2 = some r) ∧ Aside0 (kq ≤ k1) ∧ Aside0 (Kd.R k36 36 w' w.heap.size (fun _ => True) u3 x3_1) ∧ Aside0 (Kd.R k95 95 w' w.heap.size (fun _ => True) (.slice (some ad637) t625.length co7) t625) ∧ Aside0 (Kd.R (Kd.int .i64) 3 w' w.heap.size (fun _ => True) v639 t638) ∧ Aside0 (Below w.heap.size w w'))
   case atStart => exact ⟨(false), (0), ez, ez, H', ⟨Nat.le_refl _⟩, ⟨rz HO_3.out⟩, ⟨rz HO_4.out⟩, ⟨rz HO640.out⟩, ⟨bz⟩⟩
   clear H'
   try clear p2
   try clear c3
   try clear c4
   try clear c4b0
   try clear c5
   try clear c5b0
   try clear p6
   try clear q6
   try clear hx6
   try clear c7
   try clear hx637_0
   try clear hx637_1
   try clear p2
   try clear p637
   try clear q637
   obtain ⟨x7_2, x8_2, rfl, rfl, HA, HK2, HO_3, HO_4, HO_6, HB⟩ := hrel
   cases gk with
   | zero => exact absurd HA.out (by simp [burinref03_Close.l1])
   | succ k2 =>
    have H := HA.out
    clear HA
    simp only [burinref03_Close.l1] at H
    by_cases c9 : x8_2 < (t638.length : Int)
    ·rw [if_pos c9] at H
     have c9b0 := decide_eq_true c9
     clear c9
     by_cases c10 : x7_2 = true
     ·subst c10
      rw [if_pos rfl] at H
      have H' := Aside0.mk H
      clear H
      obtain ⟨Ao11, co11, eo11⟩ := Kd.R_slice HO_6.out
      subst eo11
      go_wp2
      go_roundg k2
      case measure => have := HK1.out; have := HK2.out; omega
      case rel => exact ⟨(true), (wrap64 (x8_2 + 1)), ez, ez, H', ⟨by have := HK1.out; have := HK2.out; omega⟩, ⟨rz HO_3.out⟩, ⟨rz HO_4.out⟩, ⟨rz HO_6.out⟩, ⟨bz⟩⟩
     replace c10 := Bool.eq_false_iff.mpr c10
     subst c10
     rw [if_neg (show ¬ (false = true) by decide)] at H
     by_cases c12 : 0 ≤ x8_2
     rotate_left
     ·exact nomatch (if_neg c12).symm.trans H
     rw [if_pos c12] at H
     have c12b0 := decide_eq_true c12
     clear c12
     replace H := Option.bind_eq_some_iff.mp H
     obtain ⟨t642, A130, H⟩ := H
     try dsimp only at H
     have A13 := Aside0.mk A130
     clear A130
     have H' := Aside0.mk H
     clear H
     obtain ⟨Ao14, co14, eo14⟩ := Kd.R_slice HO_6.out
     subst eo14
     have p641 : 0 ≤ (x8_2 : Int) := oz
     have q641 : x8_2 < (t638.length : Int) := oz
     obtain ⟨ad641, e641, hx641_0⟩ := Kd.at_int (Kd.R_reads' HO_6.out).2.2 x8_2 p641 q641
     cases e641
     replace p641 := eq_true p641
     replace q641 := eq_true q641
     go_wp2_with (first | (go_at_call 75; (with_reducible refine (burinref02_Has.calls k2 _ _ l0 (rd t638 x8_2) t642 _ ?side1 ?side2 A13.out).mono ?_); (case side1 => repeat (first | exact (Kd.C_below HR0.out HB.out) | (with_reducible refine Kd.C_alloc ?_ _) | (with_reducible refine Kd.C_drewN ?_ _) | (with_reducible refine Kd.C_drew ?_))); (case side2 => exact HC0.out); rintro e w' ⟨rfl, ⟨nd, rfl⟩⟩))
     go_roundg k2
     case measure => have := HK1.out; have := HK2.out; omega
     case rel => exact ⟨(t642), (wrap64 (x8_2 + 1)), ez, ez, H', ⟨by have := HK1.out; have := HK2.out; omega⟩, ⟨rz HO_3.out⟩, ⟨rz HO_4.out⟩, ⟨rz HO_6.out⟩, ⟨bz⟩⟩
    rw [if_neg c9] at H
    have c9b0 := decide_eq_false c9
    clear c9
    have H' := Aside0.mk H
    clear H
    obtain ⟨Ao15, co15, eo15⟩ := Kd.R_slice HO_6.out
    subst eo15
    go_wp2
    go_loopg [3, 9] k2 (fun kq v3 v9 w' => ∃ (x3_3 : List (S36)) (x9_3 : Int), v9 = .int .i64 x9_3 ∧ Aside0 (burinref03_Close.l2 kq l0 x3_3 t625 x5_1 t638 x7_2 x9_3 = some r) ∧ Aside0 (kq ≤ k2) ∧ Aside0 (Kd.R k36 36 w' w.heap.size (fun _ => True) v3 x3_3) ∧ Aside0 (Kd.R k95 95 w' w.heap.size (fun _ => True) (.slice (some ad637) t625.length co7) t625) ∧ Aside0 (Kd.R (Kd.int .i64) 3 w' w.heap.size (fun _ => True) (.slice Ao15 t638.length co15) t638) ∧ Aside0 (Below w.heap.size w w'))
    case atStart => exact ⟨(x3_1), (0), ez, H', ⟨Nat.le_refl _⟩, ⟨rz HO_3.out⟩, ⟨rz HO_4.out⟩, ⟨rz HO_6.out⟩, ⟨bz⟩⟩
    clear H'
    try clear c1
    try clear p2
    try clear c3
    try clear c4
    try clear c4b0
    try clear c5
    try clear c5b0
    try clear p6
    try clear q6
    try clear hx6
    try clear c7
    try clear c9
    try clear c9b0
    try clear c10
    try clear c12
    try clear c12b0
    try clear hx637_0
    try clear hx637_1
    try clear hx641_0
    try clear p2
    try clear p6
    try clear p637
    try clear p641
    try clear q6
    try clear q637
    try clear q641
    obtain ⟨x3_3, x9_3, rfl, HA, HK3, HO_3, HO_4, HO_6, HB⟩ := hrel
    cases gk with
    | zero => exact absurd HA.out (by simp [burinref03_Close.l2])
    | succ k3 =>
     have H := HA.out
     clear HA
     simp only [burinref03_Close.l2] at H
     by_cases c16 : x9_3 < (t638.length : Int)
     ·rw [if_pos c16] at H
      have c16b0 := decide_eq_true c16
      clear c16
      by_cases c17 : x7_2 = true
      ·subst c17
       rw [if_pos rfl] at H
       by_cases c18 : 0 ≤ x9_3
       rotate_left
       ·exact nomatch (if_neg c18).symm.trans H
       rw [if_pos c18] at H
       have c18b0 := decide_eq_true c18
       clear c18
       by_cases c19 : x3_3.length < 8796093022208
       rotate_left
       ·exact nomatch (if_neg c19).symm.trans H
       rw [if_pos c19] at H
       have LMc19 := Aside0.mk c19
       clear c19
       obtain ⟨y645, hy645⟩ : ∃ y_ : List (S36), y_ = (x3_3 ++ [(⟨rd t638 x9_3, rd t638 x9_3⟩ : S36)]) := ⟨_, rfl⟩
       rw [← hy645] at H
       try rw [Option.bind_some] at H
       have Ny645 := Aside0.mk hy645
       clear hy645
       have H' := Aside0.mk H
       clear H
       try go_wp2
       have n0_ := Aside0.mk (Kd.R_drew HO_3.out)
       have n1_ := Aside0.mk (Kd.R_drew HO_4.out)
       have n2_ := Aside0.mk (Kd.R_drew HO_6.out)
       have n3_ := Aside0.mk (below_drew1 HB.out)
       clear HO_3
       clear HO_4
       clear HO_6
       clear HB
       have HO_3 := n0_
       have HO_4 := n1_
       have HO_6 := n2_
       have HB := n3_
       clear n0_ n1_ n2_ n3_
       have p643 : 0 ≤ (x9_3 : Int) := oz
       have q643 : x9_3 < (t638.length : Int) := oz
       obtain ⟨ad643, e643, hx643_0⟩ := Kd.at_int (Kd.R_reads' HO_6.out).2.2 x9_3 p643 q643
       cases e643
       replace p643 := eq_true p643
       replace q643 := eq_true q643
       have p644 : 0 ≤ (x9_3 : Int) := oz
       have q644 : x9_3 < (t638.length : Int) := oz
       obtain ⟨ad644, e644, hx644_0⟩ := Kd.at_int (Kd.R_reads' HO_6.out).2.2 x9_3 p644 q644
       obtain rfl : ad643 = ad644 := (by injection e644)
       replace p644 := eq_true p644
       replace q644 := eq_true q644
       refine start_ (n := 13) (S := fun w' => w'.cell? (ad643.add (x9_3).toNat) = some (.int .i64 (rd t638 x9_3)) ∧ w'.cell? (ad643.add (x9_3).toNat) = some (.int .i64 (rd t638 x9_3))) (ds := [10, 11]) #[false, false, false, false, false, false, false, false, false, false, false, false, false] kz rfl rfl ⟨hx643_0, hx644_0⟩ (fun hHeld => ?_); refine with_tabW burinref03_Close.tab15 burinref03_Close.bits15 (fun HT_ HW_ => ?_)
       generalize wr.drew = w20 at HO_3 HO_4 HO_6 HB hx643_0 hx644_0 hHeld ⊢
       refine pure_ (i := 0) (N := some 47) (v := ?_) (a' := ?_) #[true, false, false, false, false, false, false, false, false, false, false, false, false] rfl rfl (any_of HT_.out kz) (fun _ _ _ h => h) (Or.inl ⟨by rfl, ?_⟩) ?_ ?_
       rotate_left
       ·intro w'
        go_simp
        with_reducible rfl
       rotate_left
       ·simp only [Act.put, List.setIfInBounds_toArray, List.set_cons_zero, List.set_cons_succ, i64_w, i32_w]
        rfl
       refine pure_ (i := 1) (N := some 48) (v := ?_) (a' := ?_) #[true, true, false, false, false, false, false, false, false, false, false, false, false] rfl rfl (any_of HT_.out kz) (fun _ _ _ h => h) (Or.inl ⟨by rfl, ?_⟩) ?_ ?_
       rotate_left
       ·intro w'
        go_simp
        with_reducible rfl
       rotate_left
       ·simp only [Act.put, List.setIfInBounds_toArray, List.set_cons_zero, List.set_cons_succ, i64_w, i32_w]
        rfl
       refine pure_ (i := 2) (N := some 49) (v := ?_) (a' := ?_) #[true, true, true, false, false, false, false, false, false, false, false, false, false] rfl rfl (any_of HT_.out kz) (fun _ _ _ h => h) (Or.inl ⟨by rfl, ?_⟩) ?_ ?_
       rotate_left
       ·intro w'
        go_simp
        with_reducible rfl
       rotate_left
       ·simp only [Act.put, List.setIfInBounds_toArray, List.set_cons_zero, List.set_cons_succ, i64_w, i32_w]
        rfl
       refine pure_ (i := 3) (N := some 50) (v := ?_) (a' := ?_) #[true, true, true, true, false, false, false, false, false, false, false, false, false] rfl rfl (any_of HT_.out kz) (fun _ _ _ h => h) (Or.inl ⟨by rfl, ?_⟩) ?_ ?_
       rotate_left
       ·intro w'
        go_simp
        with_reducible rfl
       rotate_left
       ·simp only [Act.put, List.setIfInBounds_toArray, List.set_cons_zero, List.set_cons_succ, i64_w, i32_w]
        rfl
       refine pure_ (i := 5) (N := some 52) (v := ?_) (a' := ?_) #[true, true, true, true, false, true, false, false, false, false, false, false, false] rfl rfl (any_of HT_.out kz) (fun _ _ _ h => h) (Or.inl ⟨by rfl, ?_⟩) ?_ ?_
       rotate_left
       ·intro w'
        go_simp
        with_reducible rfl
       rotate_left
       ·simp only [Act.put, List.setIfInBounds_toArray, List.set_cons_zero, List.set_cons_succ, i64_w, i32_w]
        rfl
       refine pure_ (i := 6) (N := some 53) (v := ?_) (a' := ?_) #[true, true, true, true, false, true, true, false, false, false, false, false, false] rfl rfl (any_of HT_.out kz) (fun _ _ _ h => h) (Or.inl ⟨by rfl, ?_⟩) ?_ ?_
       rotate_left
       ·intro w'
        go_simp
        with_reducible rfl
       rotate_left
       ·simp only [Act.put, List.setIfInBounds_toArray, List.set_cons_zero, List.set_cons_succ, i64_w, i32_w]
        rfl
       refine pure_ (i := 7) (N := some 54) (v := ?_) (a' := ?_) #[true, true, true, true, false, true, true, true, false, false, false, false, false] rfl rfl (any_of HT_.out kz) (fun _ _ _ h => h) (Or.inl ⟨by rfl, ?_⟩) ?_ ?_
       rotate_left
       ·intro w'
        go_simp
        with_reducible rfl
       rotate_left
       ·simp only [Act.put, List.setIfInBounds_toArray, List.set_cons_zero, List.set_cons_succ, i64_w, i32_w]
        rfl
       refine take_ (i := 4) (N := some 51) (v := ?_) (a' := ?_) #[true, true, true, true, true, true, true, true, false, false, false, false, false] rfl rfl (take_ofW HT_.out HW_.out kz) (fun _ _ _ h => h) (Or.inl ⟨by rfl, ?_⟩) hHeld ?_ ?_
       rotate_left
       ·rintro w' ⟨s0, s1⟩
        go_simp
        with_reducible rfl
       rotate_left
       ·simp only [Act.put, List.setIfInBounds_toArray, List.set_cons_zero, List.set_cons_succ, i64_w, i32_w]
        rfl
       refine take_ (i := 8) (N := some 55) (v := ?_) (a' := ?_) #[true, true, true, true, true, true, true, true, true, false, false, false, false] rfl rfl (take_ofW HT_.out HW_.out kz) (fun _ _ _ h => h) (Or.inl ⟨by rfl, ?_⟩) hHeld ?_ ?_
       rotate_left
       ·rintro w' ⟨s0, s1⟩
        go_simp
        with_reducible rfl
       rotate_left
       ·simp only [Act.put, List.setIfInBounds_toArray, List.set_cons_zero, List.set_cons_succ, i64_w, i32_w]
        rfl
       refine pure_ (i := 9) (N := some 56) (v := ?_) (a' := ?_) #[true, true, true, true, true, true, true, true, true, true, false, false, false] rfl rfl (any_of HT_.out kz) (fun _ _ _ h => h) (Or.inl ⟨by rfl, ?_⟩) ?_ ?_
       rotate_left
       ·intro w'
        go_simp
        with_reducible rfl
       rotate_left
       ·simp only [Act.put, List.setIfInBounds_toArray, List.set_cons_zero, List.set_cons_succ, i64_w, i32_w]
        rfl
       refine last_ (i := 10) (N := some 57) #[true, true, true, true, true, true, true, true, true, true, true, false, false] rfl rfl (one_of HT_.out kz) (by decide) (fun K hK => ?_)
       refine value_ (w1 := ?_) (v := ?_) (by rfl) rfl ?_ ?_
       rotate_left 2
       ·go_simp
        constructor
        ·rfl
        rfl
       refine hK.out _ _ ?_
       clear hK K
       refine norm_ (a' := ?_) ?_ ?_
       rotate_left
       ·show Act.put _ (some 57) _ = _
        simp only [Act.put, List.setIfInBounds_toArray, List.set_cons_zero, List.set_cons_succ, i64_w, i32_w]
        rfl
       refine last_ (i := 11) (N := some 58) #[true, true, true, true, true, true, true, true, true, true, true, true, false] rfl rfl (one_of HT_.out kz) (by decide) (fun K hK => ?_)
       refine Kd.R_append_step k36 (w0 := w) w.heap.size (by rfl) (.tmp 47) (.tmp 57) 26 36 (.agg #[(.int .i64 0), (.int .i64 0)]) 16 rfl Tryz.underlying26 info36 rfl (by decide) (by omega) u3 x3_3 (⟨rd t638 x9_3, rd t638 x9_3⟩ : S36) [.int .i64 (rd t638 x9_3), .int .i64 (rd t638 x9_3)] (fun _ => True) (fun _ => False) rfl rfl ?aP (fun _ hk => hk.elim) ?aF ?aO ?aB ?aS ?aL ?_
       (case aP => exact k36_mkM _ _ _ (⟨rd t638 x9_3, rd t638 x9_3⟩ : S36))
       (case aB => exact bz)
       (case aF => exact (fun _ _ => trivial))
       (case aO => exact (rz HO_3.out))
       (case aS => exact (below_size bz))
       (case aL => have := LMc19.out; omega)
       intro v646 w21 ho hb hg hat
       rw [← Ny645.out] at ho
       have n0_ := Aside0.mk (Kd.R_over' (rz HO_4.out) (Kd.R_typed (rz HO_3.out)) (by decide) hg)
       have n1_ := Aside0.mk (Kd.R_over' (rz HO_6.out) (Kd.R_typed (rz HO_3.out)) (by decide) hg)
       have n2_ := Aside0.mk (hb)
       have n3_ := Aside0.mk (ho)
       clear HO_4
       clear HO_6
       clear HB
       clear HO_3
       have HO_4 := n0_
       have HO_6 := n1_
       have HB := n2_
       have HO647 := n3_
       clear n0_ n1_ n2_ n3_
       clear ho hb hg hat
       refine hK.out _ _ ?_
       clear hK K
       refine norm_ (a' := ?_) ?_ ?_
       rotate_left
       ·show Act.put _ (some 58) _ = _
        simp only [Act.put, List.setIfInBounds_toArray, List.set_cons_zero, List.set_cons_succ, i64_w, i32_w]
        rfl
       refine pure_ (i := 12) (N := some 3) (v := ?_) (a' := ?_) #[true, true, true, true, true, true, true, true, true, true, true, true, true] rfl rfl (any_of HT_.out kz) (fun _ _ _ h => h) (Or.inl ⟨by rfl, ?_⟩) ?_ ?_
       rotate_left
       ·intro w'
        go_simp
        with_reducible rfl
       rotate_left
       ·simp only [Act.put, List.setIfInBounds_toArray, List.set_cons_zero, List.set_cons_succ, i64_w, i32_w]
        rfl
       refine done_ (done_of HT_.out kz) ?_
       try go_wp2
       go_roundg k3
       case measure => have := HK1.out; have := HK2.out; have := HK3.out; omega
       case rel => exact ⟨(y645), (wrap64 (x9_3 + 1)), ez, H', ⟨by have := HK1.out; have := HK2.out; have := HK3.out; omega⟩, ⟨rz HO647.out⟩, ⟨rz HO_4.out⟩, ⟨rz HO_6.out⟩, ⟨bz⟩⟩
      replace c17 := Bool.eq_false_iff.mpr c17
      subst c17
      rw [if_neg (show ¬ (false = true) by decide)] at H
      have H' := Aside0.mk H
      clear H
      go_wp2
      go_roundg k3
      case measure => have := HK1.out; have := HK2.out; have := HK3.out; omega
      case rel => exact ⟨(x3_3), (wrap64 (x5_1 + 1)), ez, H', ⟨by have := HK1.out; have := HK2.out; have := HK3.out; omega⟩, ⟨rz HO_3.out⟩, ⟨rz HO_4.out⟩, ⟨bz⟩⟩
     rw [if_neg c16] at H
     have c16b0 := decide_eq_false c16
     clear c16
     have H' := Aside0.mk H
     clear H
     go_wp2
     go_roundg k3
     case measure => have := HK1.out; have := HK2.out; have := HK3.out; omega
     case rel => exact ⟨(x3_3), (wrap64 (x5_1 + 1)), ez, H', ⟨by have := HK1.out; have := HK2.out; have := HK3.out; omega⟩, ⟨rz HO_3.out⟩, ⟨rz HO_4.out⟩, ⟨bz⟩⟩
  rw [if_neg c4] at H
  have c4b0 := decide_eq_false c4
  clear c4
  replace H := Option.bind_eq_some_iff.mp H
  obtain ⟨t628, A220, H⟩ := H
  try dsimp only at H
  have A22 := Aside0.mk A220
  clear A220
  replace H := Option.bind_eq_some_iff.mp H
  obtain ⟨t631, A230, H⟩ := H
  try dsimp only at H
  have A23 := Aside0.mk A230
  clear A230
  replace H := Option.bind_eq_some_iff.mp H
  obtain ⟨t634, A240, H⟩ := H
  try dsimp only at H
  have A24 := Aside0.mk A240
  clear A240
  obtain rfl := Option.some.inj H
  obtain ⟨Ao25, co25, eo25⟩ := Kd.R_slice HO_4.out
  subst eo25
  go_wp2_with (first | ((with_reducible refine gate_callee (f := 38) rfl ?_); refine goesL_ (some 60) rfl rfl Tryz.func38 kz rfl #[.slice A0 l0.length c0] rfl mz ?_; (with_reducible refine (burinref02_Norm.calls k1 _ _ l0 t628 _ ?side1 ?side2 A22.out).mono ?_); (case side1 => repeat (first | exact (Kd.C_below HR0.out HB.out) | (with_reducible refine Kd.C_alloc ?_ _) | (with_reducible refine Kd.C_drewN ?_ _) | (with_reducible refine Kd.C_drew ?_))); (case side2 => exact HC0.out); rintro e w26 ⟨v629, rfl, ho0, hb⟩; refine ⟨_, rfl, ?_⟩; have HO630 := Aside0.mk (Kd.R_lower (Kd.R_new' ho0 (Kd.R_lt (rz HO_3.out))) (below_size bz)); replace HO_3 := Aside0.mk (Kd.R_elder' (rz HO_3.out) (Kd.R_base ho0) hb); replace HO_4 := Aside0.mk (Kd.R_below (rz HO_4.out) hb); replace HB := hz hb; (try clear hb); (try clear ho0); obtain ⟨Ao27, co27, eo27⟩ := Kd.R_slice HO_3.out; subst eo27) | ((with_reducible refine gate_callee (f := 38) rfl ?_); refine goesL_ (some 62) rfl rfl Tryz.func38 kz rfl #[.slice Ao27 x3_1.length co27] rfl mz ?_; (with_reducible refine (burinref02_Norm.calls k1 _ _ x3_1 t631 _ ?side1 ?side2 A23.out).mono ?_); (case side1 => exact cz (Kd.R_reads' HO_3.out).2.2); (case side2 => exact (Kd.R_reads' HO_3.out).2.1); rintro e w28 ⟨v632, rfl, ho0, hb⟩; refine ⟨_, rfl, ?_⟩; have HO633 := Aside0.mk (Kd.R_lower (Kd.R_new' (Kd.R_new' ho0 (Kd.R_lt (rz HO_3.out))) (Kd.R_lt (rz HO630.out))) (below_size bz)); replace HO_3 := Aside0.mk (Kd.R_elder' (rz HO_3.out) (Kd.R_base ho0) hb); replace HO_4 := Aside0.mk (Kd.R_below (rz HO_4.out) hb); replace HO630 := Aside0.mk (Kd.R_elder' (rz HO630.out) (Kd.R_base ho0) hb); replace HB := hz hb; (try clear hb); (try clear ho0); obtain ⟨Ao29, co29, eo29⟩ := Kd.R_slice HO630.out; subst eo29; obtain ⟨Ao30, co30, eo30⟩ := Kd.R_slice HO633.out; subst eo30) | ((with_reducible refine gate_callee (f := 64) rfl ?_); refine goesL_ (some 63) rfl rfl Tryz.func64 kz rfl #[.int .i64 1, .slice Ao29 t628.length co29, .slice Ao30 t631.length co30] rfl mz ?_; (with_reducible refine (burinref02_Make.calls k1 1 _ _ t628 _ _ t631 t634 _ ?side1 ?side2 ?side3 ?side4 A24.out).mono ?_); (case side1 => exact cz (Kd.R_reads' HO630.out).2.2); (case side2 => exact (Kd.R_reads' HO630.out).2.1); (case side3 => exact cz (Kd.R_reads' HO633.out).2.2); (case side4 => exact (Kd.R_reads' HO633.out).2.1); rintro e w31 ⟨v635, rfl, ho0, hb⟩; refine ⟨_, rfl, ?_⟩; have HO636 := Aside0.mk (Kd.R_lower (Kd.R_new' (Kd.R_new' (Kd.R_new' ho0 (Kd.R_lt (rz HO_3.out))) (Kd.R_lt (rz HO630.out))) (Kd.R_lt (rz HO633.out))) (below_size bz)); replace HO_3 := Aside0.mk (Kd.R_elder' (rz HO_3.out) (Kd.R_base ho0) hb); replace HO_4 := Aside0.mk (Kd.R_below (rz HO_4.out) hb); replace HO630 := Aside0.mk (Kd.R_elder' (rz HO630.out) (Kd.R_base ho0) hb); replace HO633 := Aside0.mk (Kd.R_elder' (rz HO633.out) (Kd.R_base ho0) hb); replace HB := hz hb; (try clear hb); (try clear ho0)))
  go_ret
  exact ⟨_, fz, rz (R_all HO636.out), bz⟩
mutual
def burinref07_Bracket.j0 : Nat → ByteArray → Int → Bool → Option ((List (S36)) × Int × Int)
 | 0, _, _, _ => none
 | k + 1, x0, x1, x19 => if x19 = true then (some (([] : List (S36)), 0, 3)) else (if (x0.size : Int) > 1 then (if 1 < (x0.size : Int) then (burinref07_Bracket.j1 k x0 x1 1 ((bt x0 1) == 94)) else (none)) else (burinref07_Bracket.j1 k x0 x1 1 false))
def burinref07_Bracket.j1 : Nat → ByteArray → Int → Int → Bool → Option ((List (S36)) × Int × Int)
 | 0, _, _, _, _ => none
 | k + 1, x0, x1, x7, x27 => if x27 = true then (burinref07_Bracket.j2 k x0 x1 2) else (burinref07_Bracket.j2 k x0 x1 x7)
def burinref07_Bracket.j2 : Nat → ByteArray → Int → Int → Option ((List (S36)) × Int × Int)
 | 0, _, _, _ => none
 | k + 1, x0, x1, x7 => burinref07_Bracket.l0 k x0 x1 x7 x7 ([] : List (S36))
def burinref07_Bracket.l0 : Nat → ByteArray → Int → Int → Int → List (S36) → Option ((List (S36)) × Int × Int)
 | 0, _, _, _, _, _ => none
 | k + 1, x0, x1, x7, x8, x9 => if x7 ≥ (x0.size : Int) then (some (([] : List (S36)), (x0.size : Int), 82)) else (if 0 ≤ x7 then (if x7 < (x0.size : Int) then (if (bt x0 x7) = 93 then (burinref07_Bracket.j4 k x0 x1 x7 x8 x9 (decide (x7 > x8))) else (burinref07_Bracket.j4 k x0 x1 x7 x8 x9 false)) else (none)) else (none))
def burinref07_Bracket.j4 : Nat → ByteArray → Int → Int → Int → List (S36) → Bool → Option ((List (S36)) × Int × Int)
 | 0, _, _, _, _, _, _ => none
 | k + 1, x0, x1, x7, x8, x9, x43 => if x43 = true then ((burinref02_Norm.f k x9).bind fun t656 => (if (Go.bits .and .i64 x1 1) = 0 then (if x8 = 2 then ((burinref02_Not.f k t656).bind fun t659 => (some (t659, wrap64 (x7 + 1), 0))) else (some (t656, wrap64 (x7 + 1), 0))) else ((burinref03_Close.f k t656).bind fun t662 => (if x8 = 2 then ((burinref02_Not.f k t662).bind fun t665 => (some (t665, wrap64 (x7 + 1), 0))) else (some (t662, wrap64 (x7 + 1), 0)))))) else ((burinref07_item.f k x0 x7).bind fun bt648 => (if bt648.2.2 = 0 then (if x9.length + bt648.1.length < 8796093022208 then (burinref07_Bracket.l0 k x0 x1 bt648.2.1 x8 (x9 ++ bt648.1)) else (none)) else (some (([] : List (S36)), bt648.2.1, bt648.2.2))))
end
def burinref07_Bracket.f (k : Nat) (a0 : ByteArray) (a1 : Int) : Option ((List (S36)) × Int × Int) := if a0.toList = ([] : List UInt8) then (burinref07_Bracket.j0 k a0 a1 true) else (if 0 < (a0.size : Int) then (burinref07_Bracket.j0 k a0 a1 ((bt a0 0) != 91)) else (none))
set_option maxHeartbeats 8000000 in
set_option maxRecDepth 100000 in
theorem burinref07_Bracket.calls (k : Nat) (a0 : ByteArray) (a1 : Int) (r1 : List (S36)) (r2 : Int) (r3 : Int) (w : World) (h : burinref07_Bracket.f k a0 a1 = some (r1, r2, r3)) :
  Calls Tryz.prog 15 #[.string a0, .int .i64 a1] w fun e w' => ∃ v0_ : Value, e = .returned (.tuple #[v0_, .int .i64 r2, .int .i64 r3]) ∧ Kd.R k36 36 w' w.heap.size (fun _ => True) v0_ r1 ∧ Below w.heap.size w w' := by
 have HB := Aside0.mk (Below.refl w.heap.size w)
 have H : (if a0.toList = ([] : List UInt8) then (burinref07_Bracket.j0 k a0 a1 true) else (if 0 < (a0.size : Int) then (burinref07_Bracket.j0 k a0 a1 ((bt a0 0) != 91)) else (none))) = some (r1, r2, r3) := h
 clear h
 have HC3 := Aside0.mk H
 clear H
 go_enter Tryz.func15, Tryz.ntmps15
 go_upto_region 1 with (fail)
 go_cut [19] (fun v19 wc => ∃ (kq : Nat) (x19_2 : Bool), v19 = .bool x19_2 ∧ Aside0 (burinref07_Bracket.j0 kq a0 a1 x19_2 = some (r1, r2, r3)) ∧ Aside0 (kq ≤ k) ∧ Aside0 (Below w.heap.size w wc))
 case first =>
  have H := HC3.out
  clear HC3
  by_cases c4 : a0.toList = ([] : List UInt8)
  ·rw [if_pos c4] at H
   have c4b0 := beq_iff_eq.mpr c4
   have c4b1 := bne_eq_false_iff_eq.mpr c4
   clear c4
   (first | rw [c4b0] | (simp only [i64_w, i32_w]; rw [c4b0]) | skip)
   have H' := Aside0.mk H
   clear H
   go_wp2
   go_meet
   case rel => exact ⟨_, (true), ez, H', ⟨by first | omega | exact Nat.le_refl _⟩, ⟨bz⟩⟩
  rw [if_neg c4] at H
  have c4b0 := beq_eq_false_iff_ne.mpr c4
  have c4b1 := bne_iff_ne.mpr c4
  (first | rw [c4b0] | (simp only [i64_w, i32_w]; rw [c4b0]) | skip)
  by_cases c5 : 0 < (a0.size : Int)
  rotate_left
  ·exact nomatch (if_neg c5).symm.trans H
  rw [if_pos c5] at H
  have c5b0 := decide_eq_true c5
  have c5b1 : decide (0 < a0.size) = true := decide_eq_true (by omega)
  clear c5
  have H' := Aside0.mk H
  clear H
  have q6 : 0 < a0.size := (by have : (0 : Int) < (a0.size : Int) := oz; omega)
  have hx6 : ∀ h : 0 < a0.size, ((a0[0]'h).toNat : Int) = bt a0 0 := bt_at a0 0
  have qi6 : (0 < (a0.size : Int)) = True := eq_true (oz)
  replace q6 := eq_true q6
  go_wp2
  go_meet
  case rel => exact ⟨_, (((bt a0 0) != 91)), ez, H', ⟨by first | omega | exact Nat.le_refl _⟩, ⟨bz⟩⟩
 clear HC3
 try clear c1
 try clear p2
 try clear c4
 try clear c4b0 c4b1
 try clear c5
 try clear c5b0 c5b1
 try clear p6
 try clear q6
 try clear hx6
 try clear qi6
 try clear p6
 try clear q6
 obtain ⟨kq, x19_2, rfl, HA, HJ2, HB⟩ := hcut
 cases kq with
 | zero => exact absurd HA.out (by simp [burinref07_Bracket.j0])
 | succ kj2 =>
  have H := HA.out
  clear HA
  simp only [burinref07_Bracket.j0] at H
  by_cases c7 : x19_2 = true
  ·subst c7
   rw [if_pos rfl] at H
   simp only [Option.some.injEq, Prod.mk.injEq] at H
   obtain ⟨rfl, rfl, rfl⟩ := H
   go_wp2
   go_ret3
   exact ⟨_, fz, by first | exact Kd.R_nil _ _ _ _ _ | exact Kd.N_nil _ _ _ _ _ | exact Kd.V_nil _ _ _ _ _ | exact Kd.Q_nil _ _ _ _ _ | exact Kd.S_nil _ _ _ _ _, bz⟩
  replace c7 := Bool.eq_false_iff.mpr c7
  subst c7
  rw [if_neg (show ¬ (false = true) by decide)] at H
  have HC8 := Aside0.mk H
  clear H
  go_upto_region 4 with (fail)
  go_cut [27] (fun v27 wc => ∃ (kq : Nat) (x27_7 : Bool), v27 = .bool x27_7 ∧ Aside0 (burinref07_Bracket.j1 kq a0 a1 1 x27_7 = some (r1, r2, r3)) ∧ Aside0 (kq ≤ kj2) ∧ Aside0 (Below w.heap.size w wc))
  case first =>
   have H := HC8.out
   clear HC8
   by_cases c9 : (a0.size : Int) > 1
   ·rw [if_pos c9] at H
    have c9b0 : decide (1 < (a0.size : Int)) = true := decide_eq_true c9
    have c9b1 : decide (1 < a0.size) = true := decide_eq_true (by omega)
    clear c9
    (first | rw [c9b0] | (simp only [i64_w, i32_w]; rw [c9b0]) | skip)
    by_cases c10 : 1 < (a0.size : Int)
    rotate_left
    ·exact nomatch (if_neg c10).symm.trans H
    rw [if_pos c10] at H
    have c10b0 := decide_eq_true c10
    have c10b1 : decide (1 < a0.size) = true := decide_eq_true (by omega)
    clear c10
    have H' := Aside0.mk H
    clear H
    have q11 : 1 < a0.size := (by have : (1 : Int) < (a0.size : Int) := oz; omega)
    have hx11 : ∀ h : 1 < a0.size, ((a0[1]'h).toNat : Int) = bt a0 1 := bt_at a0 1
    have qi11 : (1 < (a0.size : Int)) = True := eq_true (oz)
    replace q11 := eq_true q11
    go_wp2
    go_meet
    case rel => exact ⟨_, (((bt a0 1) == 94)), ez, H', ⟨by have := HJ2.out; first | omega | exact Nat.le_refl _⟩, ⟨bz⟩⟩
   rw [if_neg c9] at H
   have c9b0 : decide (1 < (a0.size : Int)) = false := decide_eq_false c9
   have c9b1 : decide (1 < a0.size) = false := decide_eq_false (by omega)
   clear c9
   (first | rw [c9b0] | (simp only [i64_w, i32_w]; rw [c9b0]) | skip)
   have H' := Aside0.mk H
   clear H
   go_wp2
   go_meet
   case rel => exact ⟨_, (false), ez, H', ⟨by have := HJ2.out; first | omega | exact Nat.le_refl _⟩, ⟨bz⟩⟩
  clear HC8
  try clear c1
  try clear p1
  try clear q1
  try clear hx1
  try clear qi1
  try clear p2
  try clear c4
  try clear c4b0 c4b1
  try clear c5
  try clear c5b0 c5b1
  try clear p6
  try clear q6
  try clear hx6
  try clear qi6
  try clear c7
  try clear c9
  try clear c9b0 c9b1
  try clear c10
  try clear c10b0 c10b1
  try clear p11
  try clear q11
  try clear hx11
  try clear qi11
  try clear p11
  try clear p2
  try clear p6
  try clear q11
  try clear q6
  obtain ⟨kq, x27_7, rfl, HA, HJ7, HB⟩ := hcut
  cases kq with
  | zero => exact absurd HA.out (by simp [burinref07_Bracket.j1])
  | succ kj7 =>
   have H := HA.out
   clear HA
   simp only [burinref07_Bracket.j1] at H
   have HC12 := Aside0.mk H
   clear H
   go_upto_if 27 with (fail)
   go_cut [7] (fun v7 wc => ∃ (kq : Nat) (x7_11 : Int), v7 = .int .i64 x7_11 ∧ Aside0 (burinref07_Bracket.j2 kq a0 a1 x7_11 = some (r1, r2, r3)) ∧ Aside0 (kq ≤ kj7) ∧ Aside0 (Below w.heap.size w wc))
   case first =>
    have H := HC12.out
    clear HC12
    by_cases c13 : x27_7 = true
    ·subst c13
     rw [if_pos rfl] at H
     have H' := Aside0.mk H
     clear H
     go_wp2
     go_meet
     case rel => exact ⟨_, (2), ez, H', ⟨by have := HJ2.out; have := HJ7.out; first | omega | exact Nat.le_refl _⟩, ⟨bz⟩⟩
    replace c13 := Bool.eq_false_iff.mpr c13
    subst c13
    rw [if_neg (show ¬ (false = true) by decide)] at H
    have H' := Aside0.mk H
    clear H
    go_wp2
    go_meet
    case rel => exact ⟨_, (1), ez, H', ⟨by have := HJ2.out; have := HJ7.out; first | omega | exact Nat.le_refl _⟩, ⟨bz⟩⟩
   clear HC12
   try clear c1
   try clear p1
   try clear q1
   try clear hx1
   try clear qi1
   try clear p2
   try clear c4
   try clear c4b0 c4b1
   try clear c5
   try clear c5b0 c5b1
   try clear p6
   try clear q6
   try clear hx6
   try clear qi6
   try clear c7
   try clear c9
   try clear c9b0 c9b1
   try clear c10
   try clear c10b0 c10b1
   try clear p11
   try clear q11
   try clear hx11
   try clear qi11
   try clear c13
   try clear p1
   try clear p11
   try clear p2
   try clear p6
   try clear q1
   try clear q11
   try clear q6
   obtain ⟨kq, x7_11, rfl, HA, HJ11, HB⟩ := hcut
   cases kq with
   | zero => exact absurd HA.out (by simp [burinref07_Bracket.j2])
   | succ kj11 =>
    have H := HA.out
    clear HA
    simp only [burinref07_Bracket.j2] at H
    have H' := Aside0.mk H
    clear H
    go_wp2
    go_loopg [7, 9] kj11 (fun kq v7 v9 w' => ∃ (x7_4 : Int) (x9_4 : List (S36)), v7 = .int .i64 x7_4 ∧ Aside0 (burinref07_Bracket.l0 kq a0 a1 x7_4 x7_11 x9_4 = some (r1, r2, r3)) ∧ Aside0 (kq ≤ kj11) ∧ Aside0 (Kd.R k36 36 w' w.heap.size (fun _ => True) v9 x9_4) ∧ Aside0 (Below w.heap.size w w'))
    case atStart => exact ⟨(x7_11), (([] : List (S36))), ez, H', ⟨Nat.le_refl _⟩, ⟨by first | exact Kd.R_nil _ _ _ _ _ | exact Kd.N_nil _ _ _ _ _ | exact Kd.V_nil _ _ _ _ _ | exact Kd.Q_nil _ _ _ _ _ | exact Kd.S_nil _ _ _ _ _⟩, ⟨bz⟩⟩
    clear H'
    try clear c1
    try clear p1
    try clear q1
    try clear hx1
    try clear qi1
    try clear p2
    try clear c4
    try clear c4b0 c4b1
    try clear c5
    try clear c5b0 c5b1
    try clear p6
    try clear q6
    try clear hx6
    try clear qi6
    try clear c7
    try clear c9
    try clear c9b0 c9b1
    try clear c10
    try clear c10b0 c10b1
    try clear p11
    try clear q11
    try clear hx11
    try clear qi11
    try clear c13
    try clear p1
    try clear p11
    try clear p2
    try clear p6
    try clear q1
    try clear q11
    try clear q6
    obtain ⟨x7_4, x9_4, rfl, HA, HK4, HO_9, HB⟩ := hrel
    cases gk with
    | zero => exact absurd HA.out (by simp [burinref07_Bracket.l0])
    | succ k4 =>
     have H := HA.out
     clear HA
     simp only [burinref07_Bracket.l0] at H
     by_cases c14 : x7_4 ≥ (a0.size : Int)
     ·rw [if_pos c14] at H
      have c14b0 : decide ((a0.size : Int) ≤ x7_4) = true := decide_eq_true c14
      clear c14
      simp only [Option.some.injEq, Prod.mk.injEq] at H
      obtain ⟨rfl, rfl, rfl⟩ := H
      go_wp2
      go_ret3
      exact ⟨_, fz, by first | exact Kd.R_nil _ _ _ _ _ | exact Kd.N_nil _ _ _ _ _ | exact Kd.V_nil _ _ _ _ _ | exact Kd.Q_nil _ _ _ _ _ | exact Kd.S_nil _ _ _ _ _, bz⟩
     rw [if_neg c14] at H
     have c14b0 : decide ((a0.size : Int) ≤ x7_4) = false := decide_eq_false c14
     clear c14
     have HC15 := Aside0.mk H
     clear H
     go_upto_region 10 with (fail)
     go_cut [43] (fun v43 wc => ∃ (kq : Nat) (x43_14 : Bool), v43 = .bool x43_14 ∧ Aside0 (burinref07_Bracket.j4 kq a0 a1 x7_4 x7_11 x9_4 x43_14 = some (r1, r2, r3)) ∧ Aside0 (kq ≤ k4) ∧ Aside0 (Kd.R k36 36 wc w.heap.size (fun _ => True) u9 x9_4) ∧ Aside0 (Below w.heap.size w wc))
     case first =>
      have H := HC15.out
      clear HC15
      by_cases c16 : 0 ≤ x7_4
      rotate_left
      ·exact nomatch (if_neg c16).symm.trans H
      rw [if_pos c16] at H
      have c16b0 := decide_eq_true c16
      clear c16
      (first | rw [c16b0] | (simp only [i64_w, i32_w]; rw [c16b0]) | skip)
      by_cases c17 : x7_4 < (a0.size : Int)
      rotate_left
      ·exact nomatch (if_neg c17).symm.trans H
      rw [if_pos c17] at H
      have c17b0 := decide_eq_true c17
      clear c17
      by_cases c19 : (bt a0 x7_4) = 93
      ·rw [if_pos c19] at H
       have c19b0 := beq_iff_eq.mpr c19
       have c19b1 := bne_eq_false_iff_eq.mpr c19
       clear c19
       have H' := Aside0.mk H
       clear H
       have p18 : 0 ≤ (x7_4 : Int) := oz
       have q18 : x7_4 < (a0.size : Int) := oz
       have hx18 := bt_at a0 x7_4
       replace p18 := eq_true p18
       replace q18 := eq_true q18
       go_wp2
       go_meet
       case rel => exact ⟨_, (decide (x7_4 > x7_11)), ez, H', ⟨by have := HJ2.out; have := HJ7.out; have := HJ11.out; have := HK4.out; first | omega | exact Nat.le_refl _⟩, ⟨rz HO_9.out⟩, ⟨bz⟩⟩
      rw [if_neg c19] at H
      have c19b0 := beq_eq_false_iff_ne.mpr c19
      have c19b1 := bne_iff_ne.mpr c19
      have H' := Aside0.mk H
      clear H
      have p18 : 0 ≤ (x7_4 : Int) := oz
      have q18 : x7_4 < (a0.size : Int) := oz
      have hx18 := bt_at a0 x7_4
      replace p18 := eq_true p18
      replace q18 := eq_true q18
      go_wp2
      go_meet
      case rel => exact ⟨_, (false), ez, H', ⟨by have := HJ2.out; have := HJ7.out; have := HJ11.out; have := HK4.out; first | omega | exact Nat.le_refl _⟩, ⟨rz HO_9.out⟩, ⟨bz⟩⟩
     clear HC15
     try clear c1
     try clear p1
     try clear q1
     try clear hx1
     try clear qi1
     try clear p2
     try clear c4
     try clear c4b0 c4b1
     try clear c5
     try clear c5b0 c5b1
     try clear p6
     try clear q6
     try clear hx6
     try clear qi6
     try clear c7
     try clear c9
     try clear c9b0 c9b1
     try clear c10
     try clear c10b0 c10b1
     try clear p11
     try clear q11
     try clear hx11
     try clear qi11
     try clear c13
     try clear c14
     try clear c14b0
     try clear c15
     try clear c16
     try clear c16b0
     try clear c17
     try clear c17b0
     try clear p18
     try clear q18
     try clear hx18
     try clear c19
     try clear c19b0 c19b1
     try clear p1
     try clear p11
     try clear p18
     try clear p2
     try clear p6
     try clear q1
     try clear q11
     try clear q18
     try clear q6
     obtain ⟨kq, x43_14, rfl, HA, HJ14, HO_9, HB⟩ := hcut
     cases kq with
     | zero => exact absurd HA.out (by simp [burinref07_Bracket.j4])
     | succ kj14 =>
      have H := HA.out
      clear HA
      simp only [burinref07_Bracket.j4] at H
      by_cases c20 : x43_14 = true
      ·subst c20
       rw [if_pos rfl] at H
       replace H := Option.bind_eq_some_iff.mp H
       obtain ⟨t656, A210, H⟩ := H
       try dsimp only at H
       have A21 := Aside0.mk A210
       clear A210
       by_cases c22 : (Go.bits .and .i64 a1 1) = 0
       ·rw [if_pos c22] at H
        have c22b0 := beq_iff_eq.mpr c22
        have c22b1 := bne_eq_false_iff_eq.mpr c22
        clear c22
        by_cases c23 : x7_11 = 2
        ·rw [if_pos c23] at H
         have c23b0 := beq_iff_eq.mpr c23
         have c23b1 := bne_eq_false_iff_eq.mpr c23
         clear c23
         replace H := Option.bind_eq_some_iff.mp H
         obtain ⟨t659, A240, H⟩ := H
         try dsimp only at H
         have A24 := Aside0.mk A240
         clear A240
         simp only [Option.some.injEq, Prod.mk.injEq] at H
         obtain ⟨rfl, rfl, rfl⟩ := H
         obtain ⟨Ao25, co25, eo25⟩ := Kd.R_slice HO_9.out
         subst eo25
         go_wp2_with (first | ((with_reducible refine gate_callee (f := 38) rfl ?_); refine goesL_ (some 60) rfl rfl Tryz.func38 kz rfl #[.slice Ao25 x9_4.length co25] rfl mz ?_; (with_reducible refine (burinref02_Norm.calls kj14 _ _ x9_4 t656 _ ?side1 ?side2 A21.out).mono ?_); (case side1 => exact cz (Kd.R_reads' HO_9.out).2.2); (case side2 => exact (Kd.R_reads' HO_9.out).2.1); rintro e w26 ⟨v657, rfl, ho0, hb⟩; refine ⟨_, rfl, ?_⟩; have HO658 := Aside0.mk (Kd.R_lower (Kd.R_new' ho0 (Kd.R_lt (rz HO_9.out))) (below_size bz)); replace HO_9 := Aside0.mk (Kd.R_elder' (rz HO_9.out) (Kd.R_base ho0) hb); replace HB := hz hb; (try clear hb); (try clear ho0); obtain ⟨Ao27, co27, eo27⟩ := Kd.R_slice HO658.out; subst eo27) | ((with_reducible refine gate_callee (f := 34) rfl ?_); refine goesL_ (some 69) rfl rfl Tryz.func34 kz rfl #[.slice Ao27 t656.length co27] rfl mz ?_; (with_reducible refine (burinref02_Not.calls kj14 _ _ t656 t659 _ ?side1 ?side2 A24.out).mono ?_); (case side1 => exact cz (Kd.R_reads' HO658.out).2.2); (case side2 => exact (Kd.R_reads' HO658.out).2.1); rintro e w28 ⟨v660, rfl, ho0, hb⟩; refine ⟨_, rfl, ?_⟩; have HO661 := Aside0.mk (Kd.R_lower (Kd.R_new' (Kd.R_new' ho0 (Kd.R_lt (rz HO_9.out))) (Kd.R_lt (rz HO658.out))) (below_size bz)); replace HO_9 := Aside0.mk (Kd.R_elder' (rz HO_9.out) (Kd.R_base ho0) hb); replace HO658 := Aside0.mk (Kd.R_elder' (rz HO658.out) (Kd.R_base ho0) hb); replace HB := hz hb; (try clear hb); (try clear ho0)))
         go_ret3
         exact ⟨_, fz, rz (R_all HO661.out), bz⟩
        rw [if_neg c23] at H
        have c23b0 := beq_eq_false_iff_ne.mpr c23
        have c23b1 := bne_iff_ne.mpr c23
        simp only [Option.some.injEq, Prod.mk.injEq] at H
        obtain ⟨rfl, rfl, rfl⟩ := H
        obtain ⟨Ao29, co29, eo29⟩ := Kd.R_slice HO_9.out
        subst eo29
        go_wp2_with (first | ((with_reducible refine gate_callee (f := 38) rfl ?_); refine goesL_ (some 60) rfl rfl Tryz.func38 kz rfl #[.slice Ao29 x9_4.length co29] rfl mz ?_; (with_reducible refine (burinref02_Norm.calls kj14 _ _ x9_4 t656 _ ?side1 ?side2 A21.out).mono ?_); (case side1 => exact cz (Kd.R_reads' HO_9.out).2.2); (case side2 => exact (Kd.R_reads' HO_9.out).2.1); rintro e w30 ⟨v657, rfl, ho0, hb⟩; refine ⟨_, rfl, ?_⟩; have HO658 := Aside0.mk (Kd.R_lower (Kd.R_new' ho0 (Kd.R_lt (rz HO_9.out))) (below_size bz)); replace HO_9 := Aside0.mk (Kd.R_elder' (rz HO_9.out) (Kd.R_base ho0) hb); replace HB := hz hb; (try clear hb); (try clear ho0)))
        go_ret3
        exact ⟨_, fz, rz (R_all HO658.out), bz⟩
       rw [if_neg c22] at H
       have c22b0 := beq_eq_false_iff_ne.mpr c22
       have c22b1 := bne_iff_ne.mpr c22
       replace H := Option.bind_eq_some_iff.mp H
       obtain ⟨t662, A310, H⟩ := H
       try dsimp only at H
       have A31 := Aside0.mk A310
       clear A310
       by_cases c32 : x7_11 = 2
       ·rw [if_pos c32] at H
        have c32b0 := beq_iff_eq.mpr c32
        have c32b1 := bne_eq_false_iff_eq.mpr c32
        clear c32
        replace H := Option.bind_eq_some_iff.mp H
        obtain ⟨t665, A330, H⟩ := H
        try dsimp only at H
        have A33 := Aside0.mk A330
        clear A330
        simp only [Option.some.injEq, Prod.mk.injEq] at H
        obtain ⟨rfl, rfl, rfl⟩ := H
        obtain ⟨Ao34, co34, eo34⟩ := Kd.R_slice HO_9.out
        subst eo34
        go_wp2_with (first | ((with_reducible refine gate_callee (f := 38) rfl ?_); refine goesL_ (some 60) rfl rfl Tryz.func38 kz rfl #[.slice Ao34 x9_4.length co34] rfl mz ?_; (with_reducible refine (burinref02_Norm.calls kj14 _ _ x9_4 t656 _ ?side1 ?side2 A21.out).mono ?_); (case side1 => exact cz (Kd.R_reads' HO_9.out).2.2); (case side2 => exact (Kd.R_reads' HO_9.out).2.1); rintro e w35 ⟨v657, rfl, ho0, hb⟩; refine ⟨_, rfl, ?_⟩; have HO658 := Aside0.mk (Kd.R_lower (Kd.R_new' ho0 (Kd.R_lt (rz HO_9.out))) (below_size bz)); replace HO_9 := Aside0.mk (Kd.R_elder' (rz HO_9.out) (Kd.R_base ho0) hb); replace HB := hz hb; (try clear hb); (try clear ho0); obtain ⟨Ao36, co36, eo36⟩ := Kd.R_slice HO658.out; subst eo36) | ((with_reducible refine gate_callee (f := 39) rfl ?_); refine goesL_ (some 65) rfl rfl Tryz.func39 kz rfl #[.slice Ao36 t656.length co36] rfl mz ?_; (with_reducible refine (burinref03_Close.calls kj14 _ _ t656 t662 _ ?side1 ?side2 A31.out).mono ?_); (case side1 => exact cz (Kd.R_reads' HO658.out).2.2); (case side2 => exact (Kd.R_reads' HO658.out).2.1); rintro e w37 ⟨v663, rfl, ho0, hb⟩; refine ⟨_, rfl, ?_⟩; have HO664 := Aside0.mk (Kd.R_lower (Kd.R_new' (Kd.R_new' ho0 (Kd.R_lt (rz HO_9.out))) (Kd.R_lt (rz HO658.out))) (below_size bz)); replace HO_9 := Aside0.mk (Kd.R_elder' (rz HO_9.out) (Kd.R_base ho0) hb); replace HO658 := Aside0.mk (Kd.R_elder' (rz HO658.out) (Kd.R_base ho0) hb); replace HB := hz hb; (try clear hb); (try clear ho0); obtain ⟨Ao38, co38, eo38⟩ := Kd.R_slice HO664.out; subst eo38) | ((with_reducible refine gate_callee (f := 34) rfl ?_); refine goesL_ (some 69) rfl rfl Tryz.func34 kz rfl #[.slice Ao38 t662.length co38] rfl mz ?_; (with_reducible refine (burinref02_Not.calls kj14 _ _ t662 t665 _ ?side1 ?side2 A33.out).mono ?_); (case side1 => exact cz (Kd.R_reads' HO664.out).2.2); (case side2 => exact (Kd.R_reads' HO664.out).2.1); rintro e w39 ⟨v666, rfl, ho0, hb⟩; refine ⟨_, rfl, ?_⟩; have HO667 := Aside0.mk (Kd.R_lower (Kd.R_new' (Kd.R_new' (Kd.R_new' ho0 (Kd.R_lt (rz HO_9.out))) (Kd.R_lt (rz HO658.out))) (Kd.R_lt (rz HO664.out))) (below_size bz)); replace HO_9 := Aside0.mk (Kd.R_elder' (rz HO_9.out) (Kd.R_base ho0) hb); replace HO658 := Aside0.mk (Kd.R_elder' (rz HO658.out) (Kd.R_base ho0) hb); replace HO664 := Aside0.mk (Kd.R_elder' (rz HO664.out) (Kd.R_base ho0) hb); replace HB := hz hb; (try clear hb); (try clear ho0)))
        go_ret3
        exact ⟨_, fz, rz (R_all HO667.out), bz⟩
       rw [if_neg c32] at H
       have c32b0 := beq_eq_false_iff_ne.mpr c32
       have c32b1 := bne_iff_ne.mpr c32
       simp only [Option.some.injEq, Prod.mk.injEq] at H
       obtain ⟨rfl, rfl, rfl⟩ := H
       obtain ⟨Ao40, co40, eo40⟩ := Kd.R_slice HO_9.out
       subst eo40
       go_wp2_with (first | ((with_reducible refine gate_callee (f := 38) rfl ?_); refine goesL_ (some 60) rfl rfl Tryz.func38 kz rfl #[.slice Ao40 x9_4.length co40] rfl mz ?_; (with_reducible refine (burinref02_Norm.calls kj14 _ _ x9_4 t656 _ ?side1 ?side2 A21.out).mono ?_); (case side1 => exact cz (Kd.R_reads' HO_9.out).2.2); (case side2 => exact (Kd.R_reads' HO_9.out).2.1); rintro e w41 ⟨v657, rfl, ho0, hb⟩; refine ⟨_, rfl, ?_⟩; have HO658 := Aside0.mk (Kd.R_lower (Kd.R_new' ho0 (Kd.R_lt (rz HO_9.out))) (below_size bz)); replace HO_9 := Aside0.mk (Kd.R_elder' (rz HO_9.out) (Kd.R_base ho0) hb); replace HB := hz hb; (try clear hb); (try clear ho0); obtain ⟨Ao42, co42, eo42⟩ := Kd.R_slice HO658.out; subst eo42) | ((with_reducible refine gate_callee (f := 39) rfl ?_); refine goesL_ (some 65) rfl rfl Tryz.func39 kz rfl #[.slice Ao42 t656.length co42] rfl mz ?_; (with_reducible refine (burinref03_Close.calls kj14 _ _ t656 t662 _ ?side1 ?side2 A31.out).mono ?_); (case side1 => exact cz (Kd.R_reads' HO658.out).2.2); (case side2 => exact (Kd.R_reads' HO658.out).2.1); rintro e w43 ⟨v663, rfl, ho0, hb⟩; refine ⟨_, rfl, ?_⟩; have HO664 := Aside0.mk (Kd.R_lower (Kd.R_new' (Kd.R_new' ho0 (Kd.R_lt (rz HO_9.out))) (Kd.R_lt (rz HO658.out))) (below_size bz)); replace HO_9 := Aside0.mk (Kd.R_elder' (rz HO_9.out) (Kd.R_base ho0) hb); replace HO658 := Aside0.mk (Kd.R_elder' (rz HO658.out) (Kd.R_base ho0) hb); replace HB := hz hb; (try clear hb); (try clear ho0)))
       go_ret3
       exact ⟨_, fz, rz (R_all HO664.out), bz⟩
      replace c20 := Bool.eq_false_iff.mpr c20
      subst c20
      rw [if_neg (show ¬ (false = true) by decide)] at H
      replace H := Option.bind_eq_some_iff.mp H
      obtain ⟨⟨t648, t649, t650⟩, A440, H⟩ := H
      try dsimp only at H
      have A44 := Aside0.mk A440
      clear A440
      by_cases c45 : t650 = 0
      ·rw [if_pos c45] at H
       have c45b0 := beq_iff_eq.mpr c45
       have c45b1 := bne_eq_false_iff_eq.mpr c45
       clear c45
       by_cases c46 : x9_4.length + t648.length < 8796093022208
       rotate_left
       ·exact nomatch (if_neg c46).symm.trans H
       rw [if_pos c46] at H
       have LMc46 := Aside0.mk c46
       clear c46
       obtain ⟨y653, hy653⟩ : ∃ y_ : List (S36), y_ = (x9_4 ++ t648) := ⟨_, rfl⟩
       replace H : (burinref07_Bracket.l0 kj14 a0 a1 t649 x7_11 y653) = some (r1, r2, r3) := by first | (rw [hy653]; with_reducible exact H) | (have H2_ := (Option.bind_some _ _).symm.trans H; rw [hy653]; with_reducible exact H2_) | exact H
       have Ny653 := Aside0.mk hy653
       clear hy653
       have H' := Aside0.mk H
       clear H
       go_wp2_with (first | ((with_reducible refine gate_callee (f := 37) rfl ?_); refine goesL_ (some 47) rfl rfl Tryz.func37 kz rfl #[.string a0, .int .i64 x7_4] rfl mz ?_; (with_reducible refine (burinref07_item.calls kj14 a0 x7_4 t648 t649 t650 _ A44.out).mono ?_); rintro e w47 ⟨v651, rfl, ho0, hb⟩; refine ⟨_, rfl, ?_⟩; have HO652 := Aside0.mk (Kd.R_lower (Kd.R_new' ho0 (Kd.R_lt (rz HO_9.out))) (below_size bz)); replace HO_9 := Aside0.mk (Kd.R_elder' (rz HO_9.out) (Kd.R_base ho0) hb); replace HB := hz hb; (try clear hb); (try clear ho0); obtain ⟨Ao49, co49, eo49⟩ := Kd.R_slice HO652.out; subst eo49) | ((with_reducible refine gate_builtin (b := .append) (xs := #[.tmp 55, .tmp 56]) rfl ?_); at_builtin; refine Kd.R_append_rows k36 (w0 := w) w.heap.size rfl (.tmp 55) (.tmp 56) 26 36 (.agg #[(.int .i64 0), (.int .i64 0)]) 16 rfl Tryz.underlying26 info36 rfl (by decide) (by omega) u9 x9_4 t648 _ _ _ (fun k_ => some k_ ≠ (.slice Ao49 t648.length co49 : Value).ownBlock) (fun _ => False) rfl rfl ?aO ?aR (fun _ _ h => h) (fun _ h => h.elim) ?aF ?aB ?aS ?aL ?_; (case aR => repeat (first | exact (Kd.R_reads' HO652.out).2.2 | (with_reducible refine Kd.C_alloc ?_ _) | (with_reducible refine Kd.C_drewN ?_ _) | (with_reducible refine Kd.C_drew ?_))); (case aB => exact bz); (case aF => exact (fun k_ hk => Kd.fresh' (Kd.R_lt (rz HO652.out)) k_ hk)); (case aO => exact (by (with_reducible repeat (first | apply Kd.R_alloc | apply Kd.R_drewN | apply Kd.R_drew)); exact Kd.R_mono HO_9.out (fun _ hk => hk.2))); (case aS => exact (below_size bz)); (case aL => have := LMc46.out; omega); intro v654 w48 ho hb hg hat; rw [← Ny653.out] at ho; have n0_ := Aside0.mk (Kd.R_after (ok := (fun _ => True)) (rz HO652.out) hg hat); have n1_ := Aside0.mk (hb); have n2_ := Aside0.mk (ho); clear HO652; clear HB; clear HO_9; have HO652 := n0_; have HB := n1_; have HO655 := n2_; clear n0_ n1_ n2_; clear ho hb hg hat))
       go_roundg kj14
       case measure => have := HJ2.out; have := HJ7.out; have := HJ11.out; have := HK4.out; have := HJ14.out; omega
       case rel => exact ⟨(t649), (y653), ez, H', ⟨by have := HJ2.out; have := HJ7.out; have := HJ11.out; have := HK4.out; have := HJ14.out; omega⟩, ⟨rz (R_all HO655.out)⟩, ⟨bz⟩⟩
      rw [if_neg c45] at H
      have c45b0 := beq_eq_false_iff_ne.mpr c45
      have c45b1 := bne_iff_ne.mpr c45
      simp only [Option.some.injEq, Prod.mk.injEq] at H
      obtain ⟨rfl, rfl, rfl⟩ := H
      go_wp2_with (first | ((with_reducible refine gate_callee (f := 37) rfl ?_); refine goesL_ (some 47) rfl rfl Tryz.func37 kz rfl #[.string a0, .int .i64 x7_4] rfl mz ?_; (with_reducible refine (burinref07_item.calls kj14 a0 x7_4 t648 t649 t650 _ A44.out).mono ?_); rintro e w50 ⟨v651, rfl, ho0, hb⟩; refine ⟨_, rfl, ?_⟩; have HO652 := Aside0.mk (Kd.R_lower (Kd.R_new' ho0 (Kd.R_lt (rz HO_9.out))) (below_size bz)); replace HO_9 := Aside0.mk (Kd.R_elder' (rz HO_9.out) (Kd.R_base ho0) hb); replace HB := hz hb; (try clear hb); (try clear ho0)))
      go_ret3
      exact ⟨_, fz, by first | exact Kd.R_nil _ _ _ _ _ | exact Kd.N_nil _ _ _ _ _ | exact Kd.V_nil _ _ _ _ _ | exact Kd.Q_nil _ _ _ _ _ | exact Kd.S_nil _ _ _ _ _, bz⟩
-- NOT PRINTED: function 16 (burinbook_SpoilRanges)
-- NOT PRINTED: function 4 (burinlaw07_BracketReads)
end Go.Proofs.YtheheijhijeljaaGreatDoor.HBracketReads
